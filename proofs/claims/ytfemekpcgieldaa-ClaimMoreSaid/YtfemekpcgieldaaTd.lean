/- The claim chapter: divisions by rule, gains and losses, walked. -/
import Derived.Test.YtfemekpcgieldaaTc
import Derived.Test.YtfemekpcgieldaaTb
import Derived.Test.YtfemekpcgieldaaSa
set_option linter.unusedVariables false
set_option linter.unusedSimpArgs false
namespace Go.Ev.Clm
open Go Go.Ev
set_option maxRecDepth 1000000
set_option linter.unusedVariables false
set_option linter.unusedSimpArgs false
theorem c81_run : ∀ args H v H', (c81 args H).val = some (v, H') → CallOK T4 81 args H v H' := c81_ok T4_ok (by
  intro l k b r hv
  obtain ⟨hl, hv2⟩ := guard_val hv
  rw [leaf_val hv2, nf81, cond_t (by rw [Bool.and_assoc, Bool.and_assoc]; simpa [Bool.and_assoc] using hl)])
theorem c78_run : ∀ args H v H', (c78 args H).val = some (v, H') → CallOK T4 78 args H v H' := by
  intro args H v H' hv
  unfold c78 at hv
  split at hv
  · rename_i x
    obtain ⟨hl, hv2⟩ := guard_val hv
    simp only [Bool.and_eq_true, decide_eq_true_eq] at hl
    have e := leaf_val hv2
    cases e
    have hx : x = 0 ∨ x = 1 ∨ x = 2 ∨ x = 3 ∨ x = 4 ∨ x = 5 := by omega
    have h91 : CallOK T4 91 [vint .u64 x] [] (vi (Clm.len64 x)) [] := by
      rcases hx with rfl | rfl | rfl | rfl | rfl | rfl <;> exact evBody_sound T4_ok (by kernel_rfl)
    have hT : TabOK (T4.addCall 91 (fun args H => match args, H with | [.sc (.int .u64 y)], [] => .br (decide (y = x)) (.leaf (vi (Clm.len64 x), [])) .fail | _, _ => .fail)) := T4_ok.addCall fun a H v H' hv => by
      split at hv
      · obtain ⟨hl, hv2⟩ := guard_val hv
        have e := leaf_val hv2
        cases e
        rw [of_decide_eq_true hl]
        exact h91
      · cases hv
    refine CallOK.tab (T := T4.addCall 91 (fun args H => match args, H with | [.sc (.int .u64 y)], [] => .br (decide (y = x)) (.leaf (vi (Clm.len64 x), [])) .fail | _, _ => .fail)) rfl rfl (evBody_sound hT ?_)
    rcases hx with rfl | rfl | rfl | rfl | rfl | rfl <;> kernel_rfl
  · cases hv
theorem T5_ok : TabOK T5 := by
  have h := T4_ok
  have h := h.addCall (g := 81) (r := c81) fun a H v H' hv => by refine CallOK.tab ?_ ?_ (c81_run a H v H' hv) <;> rfl
  exact h
theorem l77_2_run : ∀ base kv H o kv' H', (l77_2 base kv H).val = some (o, kv', H') → LoopOK T5 77 2 base kv H o kv' H' := l77_2_ok T5_ok (by kernel_rfl) (by
  intro l k b lim r hv
  obtain ⟨hl, hv2⟩ := guard_val hv
  have hl' := hl
  simp only [Bool.and_eq_true, decide_eq_true_eq] at hl'
  obtain ⟨⟨rfl, h2⟩, h3⟩ := hl'
  obtain ⟨mm, hm⟩ := steps_of (T := T5) (fid := 77) (lid := 2) (base := 1) (c := lpc T5 77 2) 0 (fun i => [osP 0 k, vi 0, vi k, vi lim, vb true, vb true]) (fun i => [some (rP l)]) (.ret, [osP 0 k, vi 0, vi k, vi lim, vb true, vb true], [some (rP (Clm.isort k l))])
    (fun i hi again => by omega)
    (fun again => by
      rw [nl77, cond_t (decide_eq_true (by rw [wrapi (by omega) (by omega)]; omega)), cond_t hl])
  exact ⟨mm, hm.trans (by rw [leaf_val hv2])⟩)
theorem T6_ok : TabOK T6 := by
  have h := T5_ok
  have h := h.addCall (g := 78) (r := c78) fun a H v H' hv => by refine CallOK.tab ?_ ?_ (c78_run a H v H' hv) <;> rfl
  have h := h.addLoop (g := 77) (lid := 2) (r := l77_2) fun b k H o k' H' hv => by refine LoopOK.tab ?_ ?_ ?_ ?_ (l77_2_run b k H o k' H' hv) <;> rfl
  exact h
theorem c77_run : ∀ args H v H', (c77 args H).val = some (v, H') → CallOK T6 77 args H v H' := c77_ok T6_ok (by
  intro l k b lim r hv
  obtain ⟨hl, hv2⟩ := guard_val hv
  rw [leaf_val hv2, nf77, cond_t hl])
theorem T7_ok : TabOK T7 := by
  have h := T6_ok
  have h := h.addCall (g := 77) (r := c77) fun a H v H' hv => by refine CallOK.tab ?_ ?_ (c77_run a H v H' hv) <;> rfl
  exact h
theorem c73_run : ∀ args H v H', (c73 args H).val = some (v, H') → CallOK T7 73 args H v H' := c73_ok T7_ok (by
  intro l k r hv
  obtain ⟨hl, hv2⟩ := guard_val hv
  have hl' := hl
  simp only [Bool.and_eq_true, decide_eq_true_eq] at hl'
  have e : IntKind.u64.wrap (k : Int) = k := wrapu (by omega) (by omega)
  rw [leaf_val hv2, nf73, e, cond_t (by rw [decide_eq_true (show (0 : Int) ≤ (k : Int) by omega), decide_eq_true (show (k : Int) ≤ 5 by omega)]; rfl), cond_t (by simp only [decide_true, Bool.true_and]; exact hl)])
theorem T8_ok : TabOK T8 := by
  have h := T7_ok
  have h := h.addCall (g := 73) (r := c73) fun a H v H' hv => by refine CallOK.tab ?_ ?_ (c73_run a H v H' hv) <;> rfl
  exact h
theorem foldX_inl {σ β ρ ρ' : Type} (g : ρ → ρ') (f : Nat → σ → β → Sum ρ σ) (F : Nat → σ → β → Sum ρ' σ) (h : ∀ i s x, F i s x = match f i s x with | .inl a => .inl (g a) | .inr b => .inr b) :
    ∀ (l : List β) (i : Nat) (s : σ), foldX F i l s = match foldX f i l s with | .inl a => .inl (g a) | .inr b => .inr b
  | [], i, s => rfl
  | x :: l, i, s => by
    simp only [foldX, h]
    cases f i s x with
    | inl a => rfl
    | inr b => exact foldX_inl g f F h l (i + 1) b
theorem tdiv_bd {t d : Int} (h : -4000000000000 ≤ t ∧ t ≤ 4000000000000) : -4000000000000 ≤ t.tdiv d ∧ t.tdiv d ≤ 4000000000000 := by
  have := Int.natAbs_tdiv_le_natAbs t d
  omega
theorem capN_eq (k : Nat) (hk : k ≤ 5) (L : Int) (bs : List Int) : (bs.take k).map (fun b => min L b) ++ ([0, 0, 0, 0, 0] : List Int).drop k = Clm.capN k L bs := by
  unfold Clm.capN
  rw [show ([0, 0, 0, 0, 0] : List Int) = List.replicate 5 0 from rfl, List.drop_replicate]
theorem l55_5_run : ∀ base kv H o kv' H', (l55_5 base kv H).val = some (o, kv', H') → LoopOK T8 55 5 base kv H o kv' H' := l55_5_ok T8_ok (by kernel_rfl) (by
  intro bs z out so t n n2 r hv
  obtain ⟨hl, hv2⟩ := guard_val hv
  simp only [Bool.and_eq_true, decide_eq_true_eq] at hl
  obtain ⟨⟨⟨⟨⟨⟨⟨⟨⟨rfl, h1⟩, h2⟩, h3⟩, h4⟩, rfl⟩, h6⟩, h7⟩, h8⟩, h9⟩ := hl
  obtain ⟨k, rfl⟩ := Int.eq_ofNat_of_zero_le (show 0 ≤ n2 by omega)
  rw [Int.toNat_natCast] at h9 hv2
  have ht : -1000000000000 ≤ t ∧ t ≤ 1000000000000 := by
    unfold Clm.sm1 at h8
    simpa using h8
  obtain ⟨mm, hm⟩ := each_of (T := T8) (fid := 55) (lid := 5) (base := 0) (c := lpc T8 55 5) (List.range k) (fun i (s : Int) => -1000000000000 - (i : Int) * 1000000000 ≤ s ∧ s ≤ 1000000000000 + (i : Int) * 1000000000)
    (fun i s _ => bif decide (s.tdiv ((k : Int) - (i : Nat)) ≤ so.getD i 0) then .inl (.ret, [.dead, .dead, ps 0, ps 1, ps 2, .dead, .dead, .dead], [some (rP bs), some (rP (Clm.capN k (s.tdiv ((k : Int) - (i : Nat))) bs)), some (rP (Clm.capN k (s.tdiv ((k : Int) - (i : Nat))) bs))]) else .inr (s - so.getD i 0))
    (fun i s => [vi s, vi k, ps 0, ps 1, ps 2, ps 3, vi k, vi i]) (fun s => [some (rP bs), some (rP z), some (rP [0, 0, 0, 0, 0]), some (rP so)]) (fun s => (.ext 0, [vi s, vi k, ps 0, ps 1, ps 2, ps 3, vi k, vi k], [some (rP bs), some (rP z), some (rP [0, 0, 0, 0, 0]), some (rP so)]))
    (fun i x s hx hlt hI again => by
      rw [List.length_range] at hlt
      have g1 := getD_of (l := so) (i := i) (by omega)
      have c := Clm.sb_get h7 (List.mem_of_getElem? g1)
      have d := tdiv_bd (t := s) (d := (k : Int) - (i : Nat)) (by omega)
      rw [nl55_5, wrapi (x := (k : Int) - (i : Nat)) (by omega) (by omega)]
      simp only [decide_eq_true (show (i : Int) < (k : Int) by omega), cond_true, decide_eq_false (show ¬ (k : Int) - (i : Nat) = 0 by omega), Bool.not_false, dec_ge, decide_eq_true (show (i : Int) < 5 by omega), toNat_cast, g1, oM]
      rw [wrapi (x := s.tdiv ((k : Int) - (i : Nat))) (by omega) (by omega), wrap_succ (by omega), wrapi (x := s - so.getD i 0) (by omega) (by omega)]
      cases decide (s.tdiv ((k : Int) - (i : Nat)) ≤ so.getD i 0) with
      | false => rfl
      | true =>
        simp only [cond_true]
        rw [cond_t (by rw [decide_eq_true h2, decide_eq_true h3]; rfl)]
        have e := capN_eq k (by omega) (s.tdiv ((k : Int) - (i : Nat))) bs
        rw [e]
        refine cond_t (decide_eq_true ?_)
        have hl : (Clm.capN k (s.tdiv ((k : Int) - (i : Nat))) bs).length = 5 := by simp [Clm.capN]; omega
        show [(Clm.capN k (s.tdiv ((k : Int) - (i : Nat))) bs).length * 1] = _
        rw [hl]; kernel_rfl)
    (fun i x s s' hx hlt hI hf => by
      rw [List.length_range] at hlt
      have g1 := getD_of (l := so) (i := i) (by omega)
      have c := Clm.sb_get h7 (List.mem_of_getElem? g1)
      cases hc : decide (s.tdiv ((k : Int) - (i : Nat)) ≤ so.getD i 0) with
      | true => rw [hc] at hf; cases hf
      | false =>
        rw [hc] at hf
        simp only [cond_false, Sum.inr.injEq] at hf
        omega)
    (fun s hI again => by
      rw [List.length_range, nl55_5]
      simp only [decide_eq_false (show ¬ (k : Int) < (k : Int) by omega), cond_false]) t (by omega)
  refine ⟨mm, hm.trans ?_⟩
  rw [leaf_val hv2, foldX_inl (g := fun x : Nat × Int => ((.ret, [.dead, .dead, ps 0, ps 1, ps 2, .dead, .dead, .dead], [some (rP bs), some (rP (Clm.capN k (x.2.tdiv ((k : Int) - (x.1 : Nat))) bs)), some (rP (Clm.capN k (x.2.tdiv ((k : Int) - (x.1 : Nat))) bs))]) : Out × List AV × Hp))
    (fun i t (_ : Nat) => bif decide (t.tdiv ((k : Int) - (i : Nat)) ≤ so.getD i 0) then Sum.inl ((i : Nat), t) else Sum.inr (t - so.getD i 0)) _ (fun i s x => by cases decide (s.tdiv ((k : Int) - (i : Nat)) ≤ so.getD i 0) <;> rfl)]
  unfold Clm.same
  cases hX : Clm.levX k so t with
  | inl a =>
    have hX' : foldX (fun i t (_ : Nat) => bif decide (t.tdiv ((k : Int) - (i : Nat)) ≤ so.getD i 0) then Sum.inl ((i : Nat), t) else Sum.inr (t - so.getD i 0)) 0 (List.range k) t = .inl a := hX
    rw [hX']
    rfl
  | inr b => rw [hX] at h9; cases h9)
theorem T9_ok : TabOK T9 := by
  have h := T8_ok
  have h := h.addLoop (g := 55) (lid := 5) (r := l55_5) fun b k H o k' H' hv => by refine LoopOK.tab ?_ ?_ ?_ ?_ (l55_5_run b k H o k' H' hv) <;> rfl
  exact h
theorem c55_run : ∀ args H v H', (c55 args H).val = some (v, H') → CallOK T9 55 args H v H' := c55_ok T9_ok (by
  intro bs t n r hv
  obtain ⟨hl, hv2⟩ := guard_val hv
  unfold Clm.levG at hl
  simp only [Bool.and_eq_true, decide_eq_true_eq] at hl
  obtain ⟨⟨⟨⟨⟨⟨⟨h1, h2⟩, h3⟩, h4⟩, h5⟩, h6⟩, h7⟩, h8⟩ := hl
  obtain ⟨k, rfl⟩ := Int.eq_ofNat_of_zero_le (show 0 ≤ n by omega)
  rw [Int.toNat_natCast] at h5 h6 h8
  rw [leaf_val hv2, nf55, cond_t (decide_eq_true (by show [bs.length * 1] = _; rw [h3]; kernel_rfl)), cond_t (decide_eq_true (by show [bs.length * 1] = _; rw [h3]; kernel_rfl))]
  rw [cond_t (dec_ge k), cond_t (decide_eq_true (by show (k : Int) ≤ 5; omega)), cond_t (decide_eq_true (by omega)), Int.toNat_natCast, cond_t (by rw [decide_eq_true (show k ≤ 5 by omega), decide_eq_true h3]; rfl)]
  refine (cond_t ?_).trans ?_
  · have e : ∀ (p : Prop) (_ : Decidable p) (b : Bool), p → (decide p && b) = b := fun p _ b h => by rw [decide_eq_true h, Bool.true_and]
    simp only [Bool.and_assoc]
    rw [e _ _ _ trivial, e _ _ _ h1, e _ _ _ h2, e _ _ _ h3]
    refine (e _ _ _ trivial).trans ((e _ _ _ (by exact rfl)).trans ?_)
    rw [decide_eq_true h6, h5, h7, h8]; rfl
  · rfl)
theorem c43_run : ∀ args H v H', (c43 args H).val = some (v, H') → CallOK T9 43 args H v H' := c43_ok T9_ok (by
  intro l r hv
  obtain ⟨hl, hv2⟩ := guard_val hv
  simp only [Bool.and_eq_true, decide_eq_true_eq] at hl
  have hr : room (0 + l.length) 8 = true := room_ok (by have := sm_le hl.1; omega) (by omega)
  rw [leaf_val hv2, nf43]
  simp only [decide_eq_true hl.2, cond_true, hr]
  rw [Nat.zero_add])
theorem T10_ok : TabOK T10 := by
  have h := T9_ok
  have h := h.addCall (g := 55) (r := c55) fun a H v H' hv => by refine CallOK.tab ?_ ?_ (c55_run a H v H' hv) <;> rfl
  have h := h.addCall (g := 43) (r := c43) fun a H v H' hv => by refine CallOK.tab ?_ ?_ (c43_run a H v H' hv) <;> rfl
  exact h
theorem pad_len {l : List Int} (h : l.length ≤ 5) : (Clm.pad5 l).length = 5 := by simp [Clm.pad5]; omega
theorem sz1 {l : List Int} (h : l.length = 5) : decide (([l.length * 1] : List Nat) = [5]) = true := decide_eq_true (by rw [h])
theorem sb_ok {w : Int} {cs : List Int} (h : Clm.OkW w cs) : Clm.sb cs = true := Clm.sb_of fun x hx => by have := h.rng x hx; omega
theorem sb_tim {w : Int} {cs : List Int} (h : Clm.OkW w cs) {n : Int} (hn : n = 60 ∨ n = 120) : Clm.sb (Clm.times n cs) = true := Clm.sb_of fun x hx => by have := h.times_in hn x hx; omega
theorem sb_pad {l : List Int} (h : Clm.sb l = true) : Clm.sb (Clm.pad5 l) = true := by
  unfold Clm.sb
  rw [List.all_eq_true]
  intro x hx
  rcases Clm.pad_mem hx with h' | rfl
  · have := Clm.sb_get h h'
    simp only [Bool.and_eq_true, decide_eq_true_eq]; omega
  · rfl
theorem sm_ok {w : Int} {cs : List Int} (h : Clm.OkW w cs) : sm cs = true := decide_eq_true (by have := h.len; omega)
theorem chk_n {w : Int} {l : List Int} (h : (Clm.chk w l == 0) = true) : (Clm.chk w l != 0) = false := by rw [bne, h]; rfl
theorem chk_t {w : Int} {l : List Int} (h : (Clm.chk w l == 0) = false) : (Clm.chk w l != 0) = true := by rw [bne, h]; rfl
theorem c19_run : ∀ args H v H', (c19 args H).val = some (v, H') → CallOK T10 19 args H v H' := c19_ok T10_ok (by
  intro l w r hv
  rcases br_val hv with ⟨hc, hv2⟩ | ⟨hc, hv2⟩
  · have ok := Clm.ok_of (beq_iff_eq.1 hc)
    have h5 := ok.len
    have hsum := ok.sum
    have hlo := ok.lo
    have hhi := ok.hi
    have hne := List.length_pos_iff.2 ok.ne
    have e1 : IntKind.i64.wrap (120 * w) = 120 * w := wrapi (by omega) (by omega)
    have L := ok.lev (n := 120) (t := 120 * w) (.inr rfl) (by omega) ⟨2 * w, by omega⟩ (by omega)
    have hcl : (Clm.capped (120 * w) (Clm.times 120 l)).length = l.length := by rw [Clm.capped_len, Clm.times_len]
    have hg : Clm.gainV w l = Clm.capped (120 * w) (Clm.times 120 l) := by unfold Clm.gainV; rw [hc]; rfl
    rw [leaf_val hv2, nf19, cond_f (chk_n hc), cond_t (by simp only [decide_eq_true h5, sb_ok ok, Bool.true_and, Bool.and_true]; rfl), e1]
    refine (cond_t (by exact sz1 (pad_len (by rw [Clm.times_len]; exact h5)))).trans ?_
    rw [cond_t L.g]
    refine (cond_t (by exact sz1 L.len)).trans ?_
    rw [cond_t (decide_eq_true (by show (l.length : Int) ≤ 5; omega)), Int.toNat_natCast, L.len, cond_t (decide_eq_true (Nat.le_refl 5)), cond_t (decide_eq_true (by omega)), L.tk, hcl, hg]
    rw [cond_t (by rw [show sm (Clm.capped (120 * w) (Clm.times 120 l)) = true from decide_eq_true (by omega), decide_eq_true hne]; rfl)]
  · rw [leaf_val hv2, nf19, cond_t (chk_t hc)])
theorem c21_run : ∀ args H v H', (c21 args H).val = some (v, H') → CallOK T10 21 args H v H' := c21_ok T10_ok (by
  intro l w r hv
  rcases br_val hv with ⟨hc, hv2⟩ | ⟨hc, hv2⟩
  · have ok := Clm.ok_of (beq_iff_eq.1 hc)
    have h5 := ok.len
    have hsum := ok.sum
    have hlo := ok.lo
    have hhi := ok.hi
    have e1 : IntKind.i64.wrap (120 * w) = 120 * w := wrapi (by omega) (by omega)
    have e2 : IntKind.i64.wrap (Clm.sumI (Clm.times 120 l) - 120 * w) = 120 * (Clm.sumI l - w) := by rw [Clm.sum_times, wrapi (by omega) (by omega)]; omega
    have L := ok.lev (n := 120) (t := 120 * (Clm.sumI l - w)) (.inr rfl) (by omega) ⟨2 * (Clm.sumI l - w), by omega⟩ (by omega)
    have hcl : (Clm.capped (120 * (Clm.sumI l - w)) (Clm.times 120 l)).length = (Clm.times 120 l).length := Clm.capped_len _ _
    have hg : Clm.lossV w l = Clm.lessL (Clm.times 120 l) (Clm.capped (120 * (Clm.sumI l - w)) (Clm.times 120 l)) := by unfold Clm.lossV; rw [hc]; rfl
    have hp := pad_len (l := Clm.times 120 l) (by rw [Clm.times_len]; exact h5)
    have hsa : Clm.sb (Clm.levA l.length (Clm.pad5 (Clm.times 120 l)) (120 * (Clm.sumI l - w))) = true := by
      rw [L.a]; exact sb_pad (Clm.sb_of fun x hx => by have := L.small x hx; omega)
    rw [leaf_val hv2, nf21, cond_f (chk_n hc), cond_t (by simp only [decide_eq_true h5, sb_ok ok, Bool.true_and, Bool.and_true]; rfl), e1, e2]
    refine (cond_t (by exact sz1 hp)).trans ?_
    rw [cond_t L.g, cond_t (by simp only [dec_ge, decide_eq_true (show (l.length : Int) ≤ 5 by omega), decide_eq_true L.len, decide_eq_true hp, hsa, sb_pad (sb_tim ok (.inr rfl)), Bool.and_self]), Int.toNat_natCast, L.a]
    have := Clm.lessL_pad (a := Clm.times 120 l) (b := Clm.capped (120 * (Clm.sumI l - w)) (Clm.times 120 l)) hcl
    rw [Clm.times_len] at this
    rw [this, hg]
  · rw [leaf_val hv2, nf21, cond_t (chk_t hc)])
theorem c17_run : ∀ args H v H', (c17 args H).val = some (v, H') → CallOK T10 17 args H v H' := c17_ok T10_ok (by
  intro l w r hv
  rcases br_val hv with ⟨hc, hv2⟩ | ⟨hc, hv2⟩
  · have ok := Clm.ok_of (beq_iff_eq.1 hc)
    have h5 := ok.len
    have hsum := ok.sum
    have hlo := ok.lo
    have hhi := ok.hi
    have hne := List.length_pos_iff.2 ok.ne
    have e1 : IntKind.i64.wrap (120 * w) = 120 * w := wrapi (by omega) (by omega)
    have e0 : IntKind.i64.wrap (2 * (120 * w)) = 240 * w := by rw [wrapi (by omega) (by omega)]; omega
    have e2 : IntKind.i64.wrap (Clm.sumI (Clm.times 120 l) - 120 * w) = 120 * (Clm.sumI l - w) := by rw [Clm.sum_times, wrapi (by omega) (by omega)]; omega
    have hd : decide (240 * w ≤ Clm.sumI (Clm.times 120 l)) = decide (2 * w ≤ Clm.sumI l) := by rw [Clm.sum_times]; simp only [decide_eq_decide]; omega
    have hp := pad_len (l := Clm.times 120 l) (by rw [Clm.times_len]; exact h5)
    have hp6 := pad_len (l := Clm.times 60 l) (by rw [Clm.times_len]; exact h5)
    have hs6 : ∀ b : Bool, (decide (l.length ≤ 5) && Clm.sb l && b) = b := fun b => by simp only [decide_eq_true h5, sb_ok ok, Bool.true_and]
    rcases br_val hv2 with ⟨hw, hv3⟩ | ⟨hw, hv3⟩
    · have hw' := of_decide_eq_true hw
      have L := ok.lev (n := 60) (t := 120 * w) (.inl rfl) (by omega) ⟨2 * w, by omega⟩ (by omega)
      have hcl : (Clm.capped (120 * w) (Clm.times 60 l)).length = l.length := by rw [Clm.capped_len, Clm.times_len]
      have hg : Clm.divV w l = Clm.capped (120 * w) (Clm.times 60 l) := by unfold Clm.divV; rw [hc, hw]; rfl
      rw [leaf_val hv3, nf17, cond_f (chk_n hc), cond_t (by simp only [decide_eq_true h5, sb_ok ok, Bool.true_and, Bool.and_true]; rfl), e1]
      refine (cond_t (by exact sz1 hp)).trans ?_
      rw [cond_t (by simp only [decide_eq_true h5, sb_ok ok, Bool.true_and, Bool.and_true]; rfl)]
      refine (cond_t (by exact sz1 hp6)).trans ?_
      rw [e0, hd, cond_t hw, cond_t L.g]
      refine (cond_t (by exact sz1 L.len)).trans ?_
      rw [cond_t (decide_eq_true (by show (l.length : Int) ≤ 5; omega)), Int.toNat_natCast, L.len, cond_t (decide_eq_true (Nat.le_refl 5)), cond_t (decide_eq_true (by omega)), L.tk, hcl, hg]
      rw [cond_t (by rw [show sm (Clm.capped (120 * w) (Clm.times 60 l)) = true from decide_eq_true (by omega), decide_eq_true hne]; rfl)]
    · have hw' := of_decide_eq_false hw
      have L := ok.lev (n := 60) (t := 120 * (Clm.sumI l - w)) (.inl rfl) (by omega) ⟨2 * (Clm.sumI l - w), by omega⟩ (by omega)
      have hcl : (Clm.capped (120 * (Clm.sumI l - w)) (Clm.times 60 l)).length = (Clm.times 120 l).length := by rw [Clm.capped_len, Clm.times_len, Clm.times_len]
      have hg : Clm.divV w l = Clm.lessL (Clm.times 120 l) (Clm.capped (120 * (Clm.sumI l - w)) (Clm.times 60 l)) := by unfold Clm.divV; rw [hc, hw]; rfl
      have hsa : Clm.sb (Clm.levA l.length (Clm.pad5 (Clm.times 60 l)) (120 * (Clm.sumI l - w))) = true := by
        rw [L.a]; exact sb_pad (Clm.sb_of fun x hx => by have := L.small x hx; omega)
      rw [leaf_val hv3, nf17, cond_f (chk_n hc), cond_t (by simp only [decide_eq_true h5, sb_ok ok, Bool.true_and, Bool.and_true]; rfl), e1]
      refine (cond_t (by exact sz1 hp)).trans ?_
      rw [cond_t (by simp only [decide_eq_true h5, sb_ok ok, Bool.true_and, Bool.and_true]; rfl)]
      refine (cond_t (by exact sz1 hp6)).trans ?_
      rw [e0, hd, cond_f hw, e2, cond_t L.g, cond_t (by simp only [dec_ge, decide_eq_true (show (l.length : Int) ≤ 5 by omega), decide_eq_true L.len, decide_eq_true hp, hsa, sb_pad (sb_tim ok (.inr rfl)), Bool.and_self]), Int.toNat_natCast, L.a]
      have := Clm.lessL_pad (a := Clm.times 120 l) (b := Clm.capped (120 * (Clm.sumI l - w)) (Clm.times 60 l)) hcl
      rw [Clm.times_len] at this
      rw [this, hg]
  · rw [leaf_val hv2, nf17, cond_t (chk_t hc)])
theorem c18_run : ∀ args H v H', (c18 args H).val = some (v, H') → CallOK T10 18 args H v H' := c18_ok T10_ok (by
  intro l w r hv
  rw [leaf_val hv, nf18]
  cases hc : Clm.chk w l == 0 with
  | false =>
    have hg : Clm.divV w l = [] := by unfold Clm.divV; rw [hc]; rfl
    rw [cond_t (chk_t hc), hg]
    rfl
  | true =>
    have ok := Clm.ok_of (beq_iff_eq.1 hc)
    have h5 := ok.len
    have hsum := ok.sum
    have hlo := ok.lo
    have hhi := ok.hi
    have hsm := sm_ok ok
    have hsb := sb_ok ok
    have hst : ∀ n, sm (Clm.times n l) = true := fun n => decide_eq_true (by rw [Clm.times_len]; omega)
    have e1 : IntKind.i64.wrap (120 * w) = 120 * w := wrapi (by omega) (by omega)
    have e0 : IntKind.i64.wrap (2 * w) = 2 * w := wrapi (by omega) (by omega)
    have e3 : IntKind.i64.wrap (Clm.sumI l - w) = Clm.sumI l - w := wrapi (by omega) (by omega)
    have e2 : IntKind.i64.wrap (120 * (Clm.sumI l - w)) = 120 * (Clm.sumI l - w) := wrapi (by omega) (by omega)
    have hz : Clm.chk w l = 0 := beq_iff_eq.1 hc
    have c1 : (sm l && Clm.sb l) = true := by rw [hsm, hsb]; rfl
    rw [cond_f (chk_n hc), cond_t (by simp only [hsm, hsb, Bool.true_and]; rfl), cond_t c1, e0, e1, e3, e2]
    unfold Clm.divV
    rw [hc, hz]
    cases hw : decide (2 * w ≤ Clm.sumI l) with
    | true =>
      have hw' := of_decide_eq_true hw
      have L := ok.lev (n := 60) (t := 120 * w) (.inl rfl) (by omega) ⟨2 * w, by omega⟩ (by omega)
      simp only [cond_true]
      rw [cond_t (by rw [hst, sb_tim ok (.inl rfl), decide_eq_true L.top]; rfl), Clm.capped_len]
    | false =>
      have hw' := of_decide_eq_false hw
      have L := ok.lev (n := 60) (t := 120 * (Clm.sumI l - w)) (.inl rfl) (by omega) ⟨2 * (Clm.sumI l - w), by omega⟩ (by omega)
      have hcl : (Clm.capped (120 * (Clm.sumI l - w)) (Clm.times 60 l)).length = (Clm.times 120 l).length := by rw [Clm.capped_len, Clm.times_len, Clm.times_len]
      simp only [cond_true, cond_false]
      rw [cond_t (by simp only [hsm, hsb, Bool.true_and]; rfl), cond_t c1, cond_t (by rw [hst, sb_tim ok (.inl rfl), decide_eq_true L.top]; rfl),
        cond_t (by rw [hst, sb_tim ok (.inr rfl), Clm.sb_of (l := Clm.capped _ _) (fun x hx => by have := L.small x hx; omega), decide_eq_true hcl]; rfl), Clm.lessL_len hcl])
theorem c20_run : ∀ args H v H', (c20 args H).val = some (v, H') → CallOK T10 20 args H v H' := c20_ok T10_ok (by
  intro l w r hv
  rw [leaf_val hv, nf20]
  cases hc : Clm.chk w l == 0 with
  | false =>
    have hg : Clm.gainV w l = [] := by unfold Clm.gainV; rw [hc]; rfl
    rw [cond_t (chk_t hc), hg]
    rfl
  | true =>
    have ok := Clm.ok_of (beq_iff_eq.1 hc)
    have h5 := ok.len
    have hsum := ok.sum
    have hlo := ok.lo
    have hhi := ok.hi
    have hsm := sm_ok ok
    have hsb := sb_ok ok
    have hst : ∀ n, sm (Clm.times n l) = true := fun n => decide_eq_true (by rw [Clm.times_len]; omega)
    have e1 : IntKind.i64.wrap (120 * w) = 120 * w := wrapi (by omega) (by omega)
    have hz : Clm.chk w l = 0 := beq_iff_eq.1 hc
    have L := ok.lev (n := 120) (t := 120 * w) (.inr rfl) (by omega) ⟨2 * w, by omega⟩ (by omega)
    have hg : Clm.gainV w l = Clm.capped (120 * w) (Clm.times 120 l) := by unfold Clm.gainV; rw [hc]; rfl
    rw [cond_f (chk_n hc), cond_t (by simp only [hsm, hsb, Bool.true_and]; rfl), e1, cond_t (by rw [hst, sb_tim ok (.inr rfl), decide_eq_true L.top]; rfl), hg, hz, Clm.capped_len])
theorem c22_run : ∀ args H v H', (c22 args H).val = some (v, H') → CallOK T10 22 args H v H' := c22_ok T10_ok (by
  intro l w r hv
  rw [leaf_val hv, nf22]
  cases hc : Clm.chk w l == 0 with
  | false =>
    have hg : Clm.lossV w l = [] := by unfold Clm.lossV; rw [hc]; rfl
    rw [cond_t (chk_t hc), hg]
    rfl
  | true =>
    have ok := Clm.ok_of (beq_iff_eq.1 hc)
    have h5 := ok.len
    have hsum := ok.sum
    have hlo := ok.lo
    have hhi := ok.hi
    have hsm := sm_ok ok
    have hsb := sb_ok ok
    have hst : ∀ n, sm (Clm.times n l) = true := fun n => decide_eq_true (by rw [Clm.times_len]; omega)
    have e3 : IntKind.i64.wrap (Clm.sumI l - w) = Clm.sumI l - w := wrapi (by omega) (by omega)
    have e2 : IntKind.i64.wrap (120 * (Clm.sumI l - w)) = 120 * (Clm.sumI l - w) := wrapi (by omega) (by omega)
    have hz : Clm.chk w l = 0 := beq_iff_eq.1 hc
    have L := ok.lev (n := 120) (t := 120 * (Clm.sumI l - w)) (.inr rfl) (by omega) ⟨2 * (Clm.sumI l - w), by omega⟩ (by omega)
    have hcl : (Clm.capped (120 * (Clm.sumI l - w)) (Clm.times 120 l)).length = (Clm.times 120 l).length := Clm.capped_len _ _
    have hg : Clm.lossV w l = Clm.lessL (Clm.times 120 l) (Clm.capped (120 * (Clm.sumI l - w)) (Clm.times 120 l)) := by unfold Clm.lossV; rw [hc]; rfl
    rw [cond_f (chk_n hc), cond_t (by simp only [hsm, hsb, Bool.true_and]; rfl), cond_t (by rw [hsm, hsb]; rfl), e3, e2, cond_t (by rw [hst, sb_tim ok (.inr rfl), decide_eq_true L.top]; rfl),
        cond_t (by rw [hst, sb_tim ok (.inr rfl), Clm.sb_of (l := Clm.capped _ _) (fun x hx => by have := L.small x hx; omega), decide_eq_true hcl]; rfl), hg, hz, Clm.lessL_len hcl])
theorem T11_ok : TabOK T11 := by
  have h := T10_ok
  have h := h.addCall (g := 17) (r := c17) fun a H v H' hv => by refine CallOK.tab ?_ ?_ (c17_run a H v H' hv) <;> rfl
  have h := h.addCall (g := 19) (r := c19) fun a H v H' hv => by refine CallOK.tab ?_ ?_ (c19_run a H v H' hv) <;> rfl
  have h := h.addCall (g := 21) (r := c21) fun a H v H' hv => by refine CallOK.tab ?_ ?_ (c21_run a H v H' hv) <;> rfl
  have h := h.addCall (g := 18) (r := c18) fun a H v H' hv => by refine CallOK.tab ?_ ?_ (c18_run a H v H' hv) <;> rfl
  have h := h.addCall (g := 20) (r := c20) fun a H v H' hv => by refine CallOK.tab ?_ ?_ (c20_run a H v H' hv) <;> rfl
  have h := h.addCall (g := 22) (r := c22) fun a H v H' hv => by refine CallOK.tab ?_ ?_ (c22_run a H v H' hv) <;> rfl
  exact h
end Go.Ev.Clm
