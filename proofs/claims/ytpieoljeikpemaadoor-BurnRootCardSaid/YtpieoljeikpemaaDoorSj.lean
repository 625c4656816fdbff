/- The burn chapter's roots and rows, and what the reference does to places. -/
import Derived.Test.YtpieoljeikpemaaDoorSi
import Derived.Test.YtpieoljeikpemaaDoorSh
import Derived.Test.YtpieoljeikpemaaDoorSg
set_option linter.unusedVariables false
set_option linter.unusedSimpArgs false
namespace Go.Ev.Burn
open Go Go.Ev
set_option maxRecDepth 1000000
set_option linter.unusedVariables false
set_option linter.unusedSimpArgs false
theorem c83_run : ∀ args H v H', (c83 args H).val = some (v, H') → CallOK S22 83 args H v H' := c83_ok S22_ok (by
  intro l r hv
  cases l with
  | nil =>
    rcases br_val hv with ⟨_, hv⟩ | ⟨h, _⟩
    · rw [leaf_val hv, nf83n 0]
    · cases h
  | cons x l =>
    rcases br_val hv with ⟨h, _⟩ | ⟨_, hv⟩
    · cases h
    · rw [leaf_val hv, nf83c, List.take_length]
      simp only [decide_eq_true (Int.le_refl _), decide_true, cond_true])
theorem sq_le {k : Nat} (h : k ≤ 10) : k * k ≤ 100 := Nat.mul_le_mul h h
theorem mulb {a b : Int} (h1 : 0 ≤ a) (h2 : a ≤ 10) (h3 : 0 ≤ b) (h4 : b ≤ 10) : 0 ≤ a * b ∧ a * b ≤ 100 :=
  ⟨Int.mul_nonneg h1 h3, by have := Int.mul_le_mul h2 h4 h3 (by omega); omega⟩
theorem l85_2_run : ∀ base kv H o kv' H', (l85_2 base kv H).val = some (o, kv', H') → LoopOK S22 85 2 base kv H o kv' H' := l85_2_ok S22_ok (by kernel_rfl) (by
  intro m r hv
  obtain ⟨hl, hv⟩ := guard_val hv
  simp only [Bool.and_eq_true, decide_eq_true_eq] at hl
  obtain ⟨r1, r2, r3, r4⟩ := Brn.rootN_spec hl.1 hl.2
  obtain ⟨mm, hm⟩ := lpRun_of (T := S22) (fid := 85) (lid := 2) (base := 0) (c := lpc S22 85 2) (fun k : Nat => 1 ≤ k ∧ k ≤ Brn.rootN m)
    (fun k => [vi m, vi k]) (fun _ => []) (fun _ => (.ext 0, [vi m, vi (Brn.rootN m)], [])) (fun k => 20 - k)
    (fun k hk again => by
      have hs := sq_le (k := k) (by omega)
      have e : IntKind.i64.wrap ((k : Int) * k) = ((k * k : Nat) : Int) := by rw [Int.natCast_mul]; rw [wrapi] <;> rw [← Int.natCast_mul] <;> omega
      rw [nl85, e]
      by_cases he : k = Brn.rootN m
      · left
        rw [he, decide_eq_false (by omega)]; rfl
      · refine .inr ⟨k + 1, by omega, by omega, rfl, ?_⟩
        rw [decide_eq_true (r4 k (by omega)), wrap_succ (by omega)]; rfl) 1 ⟨by omega, r1⟩
  refine ⟨mm, hm.trans ?_⟩
  rw [leaf_val hv])
theorem l37_4_run : ∀ base kv H o kv' H', (l37_4 base kv H).val = some (o, kv', H') → LoopOK S22 37 4 base kv H o kv' H' := l37_4_ok S22_ok (by kernel_rfl) (by
  intro m r hv
  obtain ⟨hl, hv⟩ := guard_val hv
  simp only [Bool.and_eq_true, decide_eq_true_eq] at hl
  obtain ⟨r1, r2, r3, r4⟩ := Brn.rootN_spec hl.1 hl.2
  obtain ⟨mm, hm⟩ := lpRun_of (T := S22) (fid := 37) (lid := 4) (base := 0) (c := lpc S22 37 4) (fun k : Nat => k ≤ Brn.rootN m)
    (fun k => [vi m, vi k, vi (k * k : Nat)]) (fun _ => []) (fun _ => (.ext 0, [vi m, vi (Brn.rootN m), vi (Brn.rootN m * Brn.rootN m : Nat)], [])) (fun k => 20 - k)
    (fun k hk again => by
      have hs := sq_le (k := k) (by omega)
      have hs2 : (k + 1) * (k + 1) = k * k + 2 * k + 1 := by rw [Nat.succ_mul, Nat.mul_succ]; omega
      rw [nl37]
      by_cases he : k = Brn.rootN m
      · left
        rw [he, decide_eq_false (by omega)]; rfl
      · refine .inr ⟨k + 1, by omega, by omega, rfl, ?_⟩
        rw [decide_eq_true (r4 k (by omega)), wrap_succ (by omega)]
        rw [wrapi (x := 2 * (k : Int)) (by omega) (by omega), wrapi (x := 2 * (k : Int) + 1) (by omega) (by omega), wrapi (by omega) (by omega)]
        rw [show ((k * k : Nat) : Int) + (2 * (k : Int) + 1) = (((k + 1) * (k + 1) : Nat) : Int) by rw [hs2]; omega]
        rfl) 0 (Nat.zero_le _)
  refine ⟨mm, hm.trans ?_⟩
  rw [leaf_val hv])
theorem farOK_get {n : Int} {ws : Ws} {l : List Int} (h : Brn.farOK n ws l = true) {i k : Nat} (hi : i < l.length) (hk : k < l.length) : Brn.farN n ws (l.getD i 0) (l.getD k 0) < 10 := by
  unfold Brn.farOK at h
  rw [List.all_eq_true] at h
  have h1 := h (l.getD i 0) (by rw [List.getD_eq_getElem?_getD, List.getElem?_eq_getElem hi]; exact List.getElem_mem hi)
  rw [List.all_eq_true] at h1
  exact of_decide_eq_true (h1 (l.getD k 0) (by rw [List.getD_eq_getElem?_getD, List.getElem?_eq_getElem hk]; exact List.getElem_mem hk))
theorem getO {l : List Int} {i : Nat} (h : i < l.length) : l[i]? = some (l.getD i 0) := by
  rw [List.getD_eq_getElem?_getD, List.getElem?_eq_getElem h]; rfl
theorem any_not {α : Type} (p : α → Bool) (l : List α) : (l.all fun x => !p x) = !l.any p := by
  induction l with
  | nil => rfl
  | cons x l ih => rw [List.all_cons, List.any_cons, ih, Bool.not_or]
theorem l86_5_run : ∀ base kv H o kv' H', (l86_5 base kv H).val = some (o, kv', H') → LoopOK S22 86 5 base kv H o kv' H' := l86_5_ok S22_ok (by kernel_rfl) (by
  intro n ws l least i r hv
  obtain ⟨hl, hv⟩ := guard_val hv
  simp only [Bool.and_eq_true, decide_eq_true_eq] at hl
  obtain ⟨⟨⟨⟨⟨hws, a1⟩, a2⟩, hsl⟩, a3⟩, a4⟩ := hl
  have hll := sm_le hsl
  obtain ⟨i, rfl⟩ := Int.eq_ofNat_of_zero_le a3
  rw [toNat_cast] at hv
  obtain ⟨mm, hm⟩ := scan_of (T := S22) (fid := 86) (lid := 5) (base := 0) (c := lpc S22 86 5) (List.range i) (fun k => decide ((Brn.farN n ws (l.getD i 0) (l.getD k 0) : Int) < least))
    (fun k => [lI l, vi least, ps 0, vb false, vi i, vi k]) [some (rH n ws 28)] (fun k => (.ret, [lI l, vi least, ps 0, vb false, vi i, vi k], [some (rH n ws 28)])) (.ext 2, [lI l, vi least, ps 0, vb false, vi i, vi i], [some (rH n ws 28)])
    (fun k x hx hlt again => by
      rw [List.length_range] at hlt
      rw [List.getElem?_range hlt] at hx
      cases hx
      rw [nl86_5]
      simp only [dec_lt hlt, dec_ge, decide_eq_true a4, dec_lt (show k < l.length by omega), cond_true, toNat_cast, getO (show i < l.length by omega), getO (show k < l.length by omega), oM, hws, decide_eq_true a1, decide_eq_true (farOK_get a2 (show i < l.length by omega) (show k < l.length by omega)), Bool.and_self]
      rw [wrap_succ (by omega)])
    (fun again => by
      rw [List.length_range, nl86_5]
      simp only [dec_ll, cond_false])
  refine ⟨mm, hm.trans ?_⟩
  rw [any_not] at hv
  rcases br_val hv with ⟨h, hv⟩ | ⟨h, hv⟩
  · rw [leaf_val hv, show ((List.range i).any fun k => decide ((Brn.farN n ws (l.getD i 0) (l.getD k 0) : Int) < least)) = false by simpa using h]; rfl
  · rw [leaf_val hv, show ((List.range i).any fun k => decide ((Brn.farN n ws (l.getD i 0) (l.getD k 0) : Int) < least)) = true by simpa using h]; rfl)
theorem S23_ok : TabOK S23 := by
  have h := S22_ok
  have h := h.addCall (g := 83) (r := c83) fun a H v H' hv => by refine CallOK.tab ?_ ?_ (c83_run a H v H' hv) <;> rfl
  have h := h.addLoop (g := 85) (lid := 2) (r := l85_2) fun b k H o k' H' hv => by refine LoopOK.tab ?_ ?_ ?_ ?_ (l85_2_run b k H o k' H' hv) <;> rfl
  have h := h.addLoop (g := 37) (lid := 4) (r := l37_4) fun b k H o k' H' hv => by refine LoopOK.tab ?_ ?_ ?_ ?_ (l37_4_run b k H o k' H' hv) <;> rfl
  have h := h.addLoop (g := 86) (lid := 5) (r := l86_5) fun b k H o k' H' hv => by refine LoopOK.tab ?_ ?_ ?_ ?_ (l86_5_run b k H o k' H' hv) <;> rfl
  exact h
theorem c85_run : ∀ args H v H', (c85 args H).val = some (v, H') → CallOK S23 85 args H v H' := c85_ok S23_ok (by
  intro m r hv
  obtain ⟨hl, hv⟩ := guard_val hv
  rw [leaf_val hv, nf85, hl]; rfl)
theorem inR_eq (m : Int) : Brn.inR m 1 100 = (decide (1 ≤ m) && decide (m ≤ 100)) := rfl
theorem c37_run : ∀ args H v H', (c37 args H).val = some (v, H') → CallOK S23 37 args H v H' := c37_ok S23_ok (by
  intro m r hv
  rw [leaf_val hv, nf37]
  unfold Brn.rootV Brn.rootE
  rw [← inR_eq]
  cases Brn.inR m 1 100 <;> rfl)
theorem l86_2_run : ∀ base kv H o kv' H', (l86_2 base kv H).val = some (o, kv', H') → LoopOK S23 86 2 base kv H o kv' H' := l86_2_ok S23_ok (by kernel_rfl) (by
  intro n ws l least r hv
  obtain ⟨hl, hv⟩ := guard_val hv
  have hg := hl
  simp only [Bool.and_eq_true, decide_eq_true_eq] at hl
  obtain ⟨⟨⟨hws, a1⟩, a2⟩, hsl⟩ := hl
  have hll := sm_le hsl
  obtain ⟨mm, hm⟩ := scan_of (T := S23) (fid := 86) (lid := 2) (base := 0) (c := lpc S23 86 2) (List.range l.length) (fun i => !((List.range i).all fun k => !decide ((Brn.farN n ws (l.getD i 0) (l.getD k 0) : Int) < least)))
    (fun i => [lI l, vi least, ps 0, vb false, vi i]) [some (rH n ws 28)] (fun i => (.ret, [lI l, vi least, ps 0, vb false, vi i], [some (rH n ws 28)])) (.ext 0, [lI l, vi least, ps 0, vb false, vi l.length], [some (rH n ws 28)])
    (fun i x hx hlt again => by
      rw [List.length_range] at hlt
      rw [List.getElem?_range hlt] at hx
      cases hx
      rw [nl86_2]
      simp only [dec_lt hlt, dec_ge, hg, Bool.and_self, cond_true, toNat_cast]
      rw [wrap_succ (by omega)]
      cases (List.range i).all fun k => !decide ((Brn.farN n ws (l.getD i 0) (l.getD k 0) : Int) < least) <;> rfl)
    (fun again => by
      rw [List.length_range, nl86_2]
      simp only [dec_ll, cond_false])
  refine ⟨mm, hm.trans ?_⟩
  have e : ((List.range l.length).any fun i => !((List.range i).all fun k => !decide ((Brn.farN n ws (l.getD i 0) (l.getD k 0) : Int) < least))) = !Brn.apartB n ws least l := by
    unfold Brn.apartB
    rw [List.not_all_eq_any_not]
  rw [e]
  rcases br_val hv with ⟨h, hv⟩ | ⟨h, hv⟩ <;> rw [leaf_val hv, h] <;> rfl)
theorem min_if (a b : Int) : (if b < a then b else a) = min a b := by rw [Int.min_def]; split <;> split <;> omega
theorem l39_6_run : ∀ base kv H o kv' H', (l39_6 base kv H).val = some (o, kv', H') → LoopOK S23 39 6 base kv H o kv' H' := by
  have h : ∀ base kv H o kv' H', (l39_6 base kv H).val = some (o, kv', H') → LoopOK S22 39 6 base kv H o kv' H' := l39_6_ok S22_ok (by kernel_rfl) (by
    intro m k u r hv
    obtain ⟨hl, hv⟩ := guard_val hv
    simp only [Bool.and_eq_true, decide_eq_true_eq] at hl
    obtain ⟨⟨⟨⟨a1, a2⟩, rfl⟩, a3⟩, a4⟩ := hl
    obtain ⟨k, rfl⟩ := Int.eq_ofNat_of_zero_le a3
    rw [toNat_cast] at hv
    obtain ⟨mm, hm⟩ := fold_of (T := S22) (fid := 39) (lid := 6) (base := 0) (c := lpc S22 39 6) (List.range k) (fun i s => s.length = i) (fun (s : List Int) (i : Nat) => s ++ [min ((k : Int) * k - (k - i) * (k - i) + k - 1 - i) (m - 1)])
      (fun i s => [vi m, vi k, osW 0 s.length, vi k, vi i]) (fun s => [some (rI s)]) (fun s => (.ext 0, [vi m, vi k, osW 0 s.length, vi k, vi k], [some (rI s)]))
      (fun i x s hx hlt hI again => by
        rw [List.length_range] at hlt
        rw [List.getElem?_range hlt] at hx
        cases hx
        rw [nl39]
        have m1 := mulb (a := k) (b := k) (by omega) (by omega) (by omega) (by omega)
        have m2 := mulb (a := (k : Int) - i) (b := (k : Int) - i) (by omega) (by omega) (by omega) (by omega)
        rw [wrapi (x := m - 1) (by omega) (by omega), wrapi (x := (k : Int) * k) (by omega) (by omega), wrapi (x := (k : Int) - i) (by omega) (by omega), wrapi (x := ((k : Int) - i) * ((k : Int) - i)) (by omega) (by omega),
          wrapi (x := (k : Int) * k - ((k : Int) - i) * ((k : Int) - i)) (by omega) (by omega), wrapi (x := (k : Int) * k - ((k : Int) - i) * ((k : Int) - i) + k) (by omega) (by omega), wrapi (x := (k : Int) * k - ((k : Int) - i) * ((k : Int) - i) + k - 1) (by omega) (by omega),
          wrapi (x := (k : Int) * k - ((k : Int) - i) * ((k : Int) - i) + k - 1 - i) (by omega) (by omega), min_if, wrap_succ (by omega)]
        have hr : room (s.length + 1) 8 = true := room_ok (by omega) (by omega)
        simp only [dec_lt hlt, hr, cond_true, rI, tyI_snoc, List.length_append, List.length_singleton])
      (fun i x s hx hlt hI => by simp [hI])
      (fun s hI again => by
        rw [List.length_range, nl39]
        simp only [dec_ll, cond_false]) [] rfl
    refine ⟨mm, hm.trans ?_⟩
    have e : (List.range k).foldl (fun (s : List Int) (i : Nat) => s ++ [min ((k : Int) * k - (k - i) * (k - i) + k - 1 - i) (m - 1)]) [] = Brn.rowP m k := by
      unfold Brn.rowP
      have main : ∀ (l : List Nat) (acc : List Int), l.foldl (fun (s : List Int) (i : Nat) => s ++ [min ((k : Int) * k - (k - i) * (k - i) + k - 1 - i) (m - 1)]) acc = acc ++ l.map fun (i : Nat) => min ((k : Int) * k - (k - i) * (k - i) + k - 1 - i) (m - 1) := by
        intro l
        induction l with
        | nil => intro acc; simp
        | cons x l ih => intro acc; rw [List.foldl_cons, ih, List.map_cons, List.append_assoc]; rfl
      exact main _ []
    rw [e, leaf_val hv])
  exact fun b k H o k' H' hv => by refine LoopOK.tab ?_ ?_ ?_ ?_ (h b k H o k' H' hv) <;> rfl
theorem l40_6_run : ∀ base kv H o kv' H', (l40_6 base kv H).val = some (o, kv', H') → LoopOK S23 40 6 base kv H o kv' H' := by
  have h : ∀ base kv H o kv' H', (l40_6 base kv H).val = some (o, kv', H') → LoopOK S22 40 6 base kv H o kv' H' := l40_6_ok S22_ok (by kernel_rfl) (by
    intro m p r hv
    obtain ⟨hl, hv2⟩ := guard_val hv
    simp only [Bool.and_eq_true, decide_eq_true_eq] at hl
    obtain ⟨⟨⟨a1, a2⟩, rfl⟩, a3⟩ := hl
    obtain ⟨mm, hm⟩ := lpRun_of (T := S22) (fid := 40) (lid := 6) (base := 0) (c := lpc S22 40 6) (fun s : Nat × Int × List Int => s.1 ≤ 10 ∧ 0 ≤ s.2.1 ∧ s.2.1 + (s.1 * s.1 : Nat) = (Brn.rootN m * Brn.rootN m : Nat) ∧ s.2.2.length + s.1 = Brn.rootN m ∧ s.2.2 ++ Brn.rowR m s.1 s.2.1 = Brn.rowR m (Brn.rootN m) 0)
      (fun s => [vi m, osW 0 s.2.2.length, vi s.2.1, vi (2 * (s.1 : Int) - 1)]) (fun s => [some (rI s.2.2)]) (fun _ => (.ext 0, [vi m, osW 0 (Brn.rowR m (Brn.rootN m) 0).length, vi ((Brn.rootN m * Brn.rootN m : Nat) : Int), vi (-1)], [some (rI (Brn.rowR m (Brn.rootN m) 0))])) (fun s => s.1)
      (fun s hs again => by
        obtain ⟨k, b, out⟩ := s
        obtain ⟨h1, h2, h3, h4, h5⟩ := hs
        simp only at h1 h2 h3 h4 h5
        have hq := sq_le a3
        cases k with
        | zero =>
          left
          simp only [Brn.rowR, List.append_nil] at h5
          subst h5
          simp only
          rw [nl40, decide_eq_false (by omega)]
          have : b = ((Brn.rootN m * Brn.rootN m : Nat) : Int) := by simpa using h3
          subst this
          rfl
        | succ k =>
          refine .inr ⟨(k, b + (2 * (k : Int) + 1), out ++ [min (b + k) (m - 1)]), ⟨by simp only; omega, by simp only; omega, ?_, ?_, ?_⟩, by simp only; omega, rfl, ?_⟩
          · have : (k + 1) * (k + 1) = k * k + 2 * k + 1 := by rw [Nat.succ_mul, Nat.mul_succ]; omega
            rw [this] at h3
            simp only
            omega
          · simp only [List.length_append, List.length_singleton]; omega
          · rw [← h5]
            simp only [Brn.rowR, List.append_assoc]
            rfl
          · simp only
            have hb : b ≤ 100 := by omega
            have e1 : ((2 : Int) * ((k + 1 : Nat) : Int) - 1).tdiv 2 = (k : Int) := by rw [Int.tdiv_eq_ediv_of_nonneg (by omega)]; omega
            rw [nl40, e1, wrapi (x := m - 1) (by omega) (by omega), wrapi (x := (k : Int)) (by omega) (by omega), wrapi (x := b + (k : Int)) (by omega) (by omega), wrapi (x := b + (2 * ((k + 1 : Nat) : Int) - 1)) (by omega) (by omega), wrapi (x := 2 * ((k + 1 : Nat) : Int) - 1 - 2) (by omega) (by omega), min_if]
            have hr : room (out.length + 1) 8 = true := room_ok (by omega) (by omega)
            rw [decide_eq_true (by omega), hr]
            simp only [cond_true, rI, tyI_snoc, List.length_append, List.length_singleton]
            rw [show b + (2 * ((k + 1 : Nat) : Int) - 1) = b + (2 * (k : Int) + 1) by omega, show 2 * ((k + 1 : Nat) : Int) - 1 - 2 = 2 * (k : Int) - 1 by omega]) (Brn.rootN m, 0, []) ⟨a3, by simp, by simp, by simp, by simp⟩
    refine ⟨mm, hm.trans ?_⟩
    rw [leaf_val hv2])
  exact fun b k H o k' H' hv => by refine LoopOK.tab ?_ ?_ ?_ ?_ (h b k H o k' H' hv) <;> rfl
theorem S24_ok : TabOK S24 := by
  have h := S23_ok
  have h := h.addCall (g := 85) (r := c85) fun a H v H' hv => by refine CallOK.tab ?_ ?_ (c85_run a H v H' hv) <;> rfl
  have h := h.addCall (g := 37) (r := c37) fun a H v H' hv => by refine CallOK.tab ?_ ?_ (c37_run a H v H' hv) <;> rfl
  have h := h.addLoop (g := 86) (lid := 2) (r := l86_2) fun b k H o k' H' hv => by refine LoopOK.tab ?_ ?_ ?_ ?_ (l86_2_run b k H o k' H' hv) <;> rfl
  have h := h.addLoop (g := 39) (lid := 6) (r := l39_6) fun b k H o k' H' hv => by refine LoopOK.tab ?_ ?_ ?_ ?_ (l39_6_run b k H o k' H' hv) <;> rfl
  have h := h.addLoop (g := 40) (lid := 6) (r := l40_6) fun b k H o k' H' hv => by refine LoopOK.tab ?_ ?_ ?_ ?_ (l40_6_run b k H o k' H' hv) <;> rfl
  exact h
theorem c86_run : ∀ args H v H', (c86 args H).val = some (v, H') → CallOK S24 86 args H v H' := c86_ok S24_ok (by
  intro n ws l least r hv
  obtain ⟨hl, hv⟩ := guard_val hv
  rw [leaf_val hv, nf86, hl]
  cases Brn.apartB n ws least l <;> rfl)
theorem c38_run : ∀ args H v H', (c38 args H).val = some (v, H') → CallOK S24 38 args H v H' := c38_ok S24_ok (by
  intro m r hv
  rw [leaf_val hv, nf38]
  unfold Brn.rootV Brn.rootE
  rw [← inR_eq]
  cases Brn.inR m 1 100 <;> rfl)
theorem c39_run : ∀ args H v H', (c39 args H).val = some (v, H') → CallOK S24 39 args H v H' := c39_ok S24_ok (by
  intro m r hv
  rw [leaf_val hv, nf39]
  unfold Brn.rootV Brn.rootE Brn.rowV
  cases hc : Brn.inR m 1 100 with
  | false => rfl
  | true =>
    have hb : 1 ≤ m ∧ m ≤ 100 := by simpa [Brn.inR] using hc
    obtain ⟨r1, r2, r3, r4⟩ := Brn.rootN_spec hb.1 hb.2
    simp only [cond_true, show ((0 : Int) != 0) = false from rfl, cond_false, decide_eq_true hb.1, decide_eq_true hb.2, decide_true, decide_eq_true (show (0 : Int) ≤ (Brn.rootN m : Int) by omega), decide_eq_true (show (Brn.rootN m : Int) ≤ 10 by omega), Bool.and_self, toNat_cast])
theorem c40_run : ∀ args H v H', (c40 args H).val = some (v, H') → CallOK S24 40 args H v H' := c40_ok S24_ok (by
  intro m r hv
  rw [leaf_val hv, nf40]
  unfold Brn.rootE Brn.rowV
  cases hc : Brn.inR m 1 100 with
  | false => rfl
  | true =>
    have hb : 1 ≤ m ∧ m ≤ 100 := by simpa [Brn.inR] using hc
    obtain ⟨r1, r2, r3, r4⟩ := Brn.rootN_spec hb.1 hb.2
    rw [wrapi (x := 2 * (Brn.rootN m : Int)) (by omega) (by omega), wrapi (x := 2 * (Brn.rootN m : Int) - 1) (by omega) (by omega)]
    simp only [Bool.not_true, cond_true, cond_false, decide_eq_true hb.1, decide_eq_true hb.2, decide_true, decide_eq_true r2, Bool.and_self, Brn.row_eq m _ r2])
theorem S25_ok : TabOK S25 := by
  have h := S24_ok
  have h := h.addCall (g := 86) (r := c86) fun a H v H' hv => by refine CallOK.tab ?_ ?_ (c86_run a H v H' hv) <;> rfl
  have h := h.addCall (g := 38) (r := c38) fun a H v H' hv => by refine CallOK.tab ?_ ?_ (c38_run a H v H' hv) <;> rfl
  have h := h.addCall (g := 39) (r := c39) fun a H v H' hv => by refine CallOK.tab ?_ ?_ (c39_run a H v H' hv) <;> rfl
  have h := h.addCall (g := 40) (r := c40) fun a H v H' hv => by refine CallOK.tab ?_ ?_ (c40_run a H v H' hv) <;> rfl
  exact h
end Go.Ev.Burn
