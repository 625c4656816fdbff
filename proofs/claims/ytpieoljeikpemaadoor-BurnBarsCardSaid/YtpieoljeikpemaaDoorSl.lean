/- The burn chapter's bars: the reference's search and the program's. -/
import Derived.Test.YtpieoljeikpemaaDoorSk
import Derived.Test.YtpieoljeikpemaaDoorSj
set_option linter.unusedVariables false
set_option linter.unusedSimpArgs false
namespace Go.Ev.Burn
open Go Go.Ev
set_option maxRecDepth 1000000
set_option linter.unusedVariables false
set_option linter.unusedSimpArgs false
set_option maxHeartbeats 4000000
theorem barF_ext {ok : List Int → Bool} {n : Nat} : ∀ {m : Nat} {l x : List Int}, Brn.barF ok n m l = some x → ∃ t, x = l ++ t
  | 0, l, x, h => ⟨[], by simpa [Brn.barF] using h.symm⟩
  | m + 1, l, x, h => by
    simp only [Brn.barF] at h
    obtain ⟨p, _, hp⟩ := List.exists_of_findSome?_eq_some h
    cases hok : ok (l ++ [(p : Int)]) with
    | false => rw [hok] at hp; cases hp
    | true =>
      rw [hok] at hp
      obtain ⟨t, rfl⟩ := barF_ext (show Brn.barF ok n m (l ++ [(p : Int)]) = some x from hp)
      exact ⟨(p : Int) :: t, by simp⟩
theorem farOK_in {n : Int} {ws : Ws} (h : Brn.Ok n ws) {l : List Int} (hl : Brn.inP n l) : Brn.farOK n ws l = true := by
  unfold Brn.farOK
  rw [List.all_eq_true]
  intro a ha
  rw [List.all_eq_true]
  intro b hb
  have h1 := hl a ha
  have h2 := hl b hb
  obtain ⟨a, rfl⟩ := Int.eq_ofNat_of_zero_le h1.1
  obtain ⟨b, rfl⟩ := Int.eq_ofNat_of_zero_le h2.1
  have := (h.far h1.2 h2.2).2
  exact decide_eq_true (by omega)
theorem inP_of {n : Int} {l : List Int} (h : (l.all fun p => Brn.inR p 0 (n - 1)) = true) : Brn.inP n l := fun p hp => by
  rw [List.all_eq_true] at h
  have := h p hp
  have : 0 ≤ p ∧ p ≤ n - 1 := by simpa [Brn.inR] using this
  omega
theorem all_inR {n : Int} {l : List Int} (h : Brn.inP n l) : (l.all fun p => Brn.inR p 0 (n - 1)) = true := by
  rw [List.all_eq_true]
  intro p hp
  have := h p hp
  simp [Brn.inR]; omega
theorem frm_le {n : Int} (h1 : 1 ≤ n) {l : List Int} (h : Brn.inP n l) : 0 ≤ Brn.frm l ∧ Brn.frm l ≤ n := by
  unfold Brn.frm
  cases hx : l.getLast? with
  | none => exact ⟨Int.le_refl _, by simp only; omega⟩
  | some x =>
    have := h x (List.mem_of_getLast? hx)
    simp only
    omega
theorem l84_7_run (d : Nat) (hT : TabOK (B0 d)) : ∀ base kv H o kv' H', (l84_7 d base kv H).val = some (o, kv', H') → LoopOK (B0 d) 84 7 base kv H o kv' H' := l84_7_ok d hT (by kernel_rfl) (by
  intro n ws l m least p r hv
  obtain ⟨hl, hv2⟩ := guard_val hv
  simp only [Bool.and_eq_true, decide_eq_true_eq] at hl
  obtain ⟨⟨⟨⟨⟨⟨hws, hc⟩, hin⟩, a1⟩, a2⟩, a3⟩, rfl⟩ := hl
  have hOk := Brn.ok_of (by simpa using hc)
  have hlo := hOk.lo
  have hhi := hOk.hi
  have hP := inP_of hin
  have hf := frm_le hlo hP
  obtain ⟨f0, hf0⟩ := Int.eq_ofNat_of_zero_le hf.1
  rw [hf0]
  obtain ⟨k, rfl⟩ : ∃ k : Nat, m = ((k + 1 : Nat) : Int) := ⟨(m - 1).toNat, by omega⟩
  have eB : Brn.barR n ws least ((k + 1 : Nat) : Int) l = ((List.range n.toNat).drop f0).findSome? fun (p : Nat) => bif Brn.apartB n ws least (l ++ [(p : Int)]) then Brn.barF (Brn.apartB n ws least) n.toNat k (l ++ [(p : Int)]) else none := by
    unfold Brn.barR
    rw [toNat_cast]
    simp only [Brn.barF]
    rw [hf0, toNat_cast]
  generalize hBdef : Brn.barR n ws least ((k + 1 : Nat) : Int) l = B at hv2 eB
  obtain ⟨mm, hm⟩ := lpRun_of (T := B0 d) (fid := 84) (lid := 7) (base := 0) (c := lpc (B0 d) 84 7) (fun p : Nat => (p : Int) ≤ n ∧ B = ((List.range n.toNat).drop p).findSome? fun (p : Nat) => bif Brn.apartB n ws least (l ++ [(p : Int)]) then Brn.barF (Brn.apartB n ws least) n.toNat k (l ++ [(p : Int)]) else none)
    (fun p => [lI l, vi ((k + 1 : Nat) : Int), vi least, ps 0, osW 1 0, vb false, vi p]) (fun _ => [some (rH n ws 28), some (rowI [] 0)])
    (fun _ => bif B.isSome then (.ret, [lI l, vi ((k + 1 : Nat) : Int), vi least, ps 0, lI (Brn.gotten B), vb true, vi (Brn.nth (Brn.gotten B) l.length)], [some (rH n ws 28)]) else (.ext 0, [lI l, vi ((k + 1 : Nat) : Int), vi least, ps 0, osW 1 0, vb false, vi n], [some (rH n ws 28), some (rowI [] 0)])) (fun p => n.toNat - p)
    (fun p hp again => by
      obtain ⟨hpn, hB⟩ := hp
      rw [nl84]
      by_cases he : (p : Int) = n
      · left
        rw [List.drop_eq_nil_of_le (by rw [List.length_range]; omega)] at hB
        simp only [List.findSome?_nil] at hB
        subst hB
        rw [decide_eq_false (by omega), he]
        rfl
      · have hlt : (p : Int) < n := by omega
        rw [List.drop_eq_getElem_cons (by rw [List.length_range]; omega), List.getElem_range, List.findSome?_cons] at hB
        have hP' : Brn.inP n (l ++ [(p : Int)]) := fun x hx => by
          rcases List.mem_append.1 hx with hx | hx
          · exact hP x hx
          · rw [List.mem_singleton] at hx; subst hx; omega
        have r1 : room (0 + l.length) 8 = true := room_ok (by omega) (by omega)
        have r2 : room (0 + l.length + 1) 8 = true := room_ok (by omega) (by omega)
        have e1 : IntKind.i64.wrap (((k + 1 : Nat) : Int) - 1) = (k : Int) := by rw [wrapi (by omega) (by omega)]; omega
        have e2 : ((l ++ [(p : Int)]).length : Int) = (l.length : Int) + 1 := by simp
        have e3 : sm (l ++ [(p : Int)]) = true := sm_of (k := 100) (by simp; omega) (by omega)
        rw [show (bif decide (0 < l.length) then true else ([] : List Int).isEmpty) = true by cases decide (0 < l.length) <;> rfl]
        simp only [List.nil_append, e1, e2, e3, r1, r2, decide_eq_true hlt, hws, decide_eq_true (show n ≤ 100 by omega), farOK_in hOk hP', cond_true, Bool.and_self, Bool.true_and, hc, all_inR hP', decide_eq_true (show (0 : Int) ≤ (k : Int) by omega), decide_eq_true (show (k : Int) < (d : Int) by omega), decide_eq_true (show (k : Int) + ((l.length : Int) + 1) ≤ 11 by omega)]
        rw [wrap_succ (by omega)]
        cases hap : Brn.apartB n ws least (l ++ [(p : Int)]) with
        | false =>
          rw [hap] at hB
          exact .inr ⟨p + 1, ⟨by omega, hB⟩, by omega, by trivial, rfl⟩
        | true =>
          rw [hap] at hB
          simp only [Bool.not_true, cond_false, cond_true] at hB ⊢
          have eb : Brn.barR n ws least (k : Int) (l ++ [(p : Int)]) = Brn.barF (Brn.apartB n ws least) n.toNat k (l ++ [(p : Int)]) := by unfold Brn.barR; rw [toNat_cast]
          rw [eb]
          cases hx : Brn.barF (Brn.apartB n ws least) n.toNat k (l ++ [(p : Int)]) with
          | none =>
            rw [hx] at hB
            exact .inr ⟨p + 1, ⟨by omega, hB⟩, by omega, by trivial, rfl⟩
          | some x =>
            rw [hx] at hB
            simp only at hB
            subst hB
            left
            obtain ⟨t, rfl⟩ := barF_ext hx
            have : Brn.nth (Brn.gotten (some (l ++ [(p : Int)] ++ t))) l.length = (p : Int) := by
              unfold Brn.nth Brn.gotten
              simp [List.getD_eq_getElem?_getD]
            rw [this]
            rfl) f0 ⟨by omega, eB⟩
  refine ⟨mm, hm.trans ?_⟩
  rcases br_val hv2 with ⟨h, hv3⟩ | ⟨h, hv3⟩ <;> rw [leaf_val hv3, h] <;> rfl)
theorem c84_run (d : Nat) (hT : TabOK (B1 d)) : ∀ args H v H', (c84 (d + 1) args H).val = some (v, H') → CallOK (B1 d) 84 args H v H' := c84_ok (d + 1) hT (by
  intro n ws l m least r hv
  obtain ⟨hl, hv2⟩ := guard_val hv
  have hg := hl
  simp only [Bool.and_eq_true, decide_eq_true_eq] at hl
  obtain ⟨⟨⟨⟨⟨hws, hc⟩, hin⟩, a1⟩, a2⟩, a3⟩ := hl
  have hOk := Brn.ok_of (by simpa using hc)
  have hP := inP_of hin
  cases hz : m == 0 with
  | true =>
    have hm0 : m = 0 := by simpa using hz
    subst hm0
    have e : Brn.barR n ws least 0 l = some l := rfl
    rw [e] at hv2
    rw [leaf_val hv2]
    rw [nf84c]
    rfl
  | false =>
    have hm0 : m ≠ 0 := by simpa using hz
    have tail : (bif (sm ws && Brn.chk n ws == 0 && l.all fun p => Brn.inR p 0 (n - 1)) && decide (1 ≤ m) && decide (m ≤ (d : Int)) && decide (m + (l.length : Int) ≤ 11) && decide (Brn.frm l = Brn.frm l) then
        bif (Brn.barR n ws least m l).isSome then some ((AV.tuple [lI (Brn.gotten (Brn.barR n ws least m l)), vb true]), ([] : Hp)) else some (AV.tuple [osW 0 0, vb false], [some (rowI [] 0)]) else none) = some r := by
      rw [hws, hc, hin, decide_eq_true (show 1 ≤ m by omega), decide_eq_true (show m ≤ (d : Int) by omega), decide_eq_true a3, decide_eq_true rfl]
      rcases br_val hv2 with ⟨h, hv3⟩ | ⟨h, hv3⟩ <;> rw [leaf_val hv3, h] <;> rfl
    rw [nf84c, hz]
    by_cases h0 : l = []
    · subst h0
      exact tail
    · have hpos : 0 < l.length := List.length_pos_iff.2 h0
      have e1 : IntKind.i64.wrap ((l.length : Int) - 1) = ((l.length - 1 : Nat) : Int) := by rw [wrapi (by omega) (by omega)]; omega
      rw [e1, toNat_cast, getO (show l.length - 1 < l.length by omega)]
      have hx : l.getLast? = some (l.getD (l.length - 1) 0) := by rw [List.getLast?_eq_getElem?, getO (by omega)]
      have hfr : Brn.frm l = l.getD (l.length - 1) 0 + 1 := by unfold Brn.frm; rw [hx]
      have hm := hP _ (List.mem_of_getLast? hx)
      have h9 := hOk.hi
      simp only [oM, cond_false, decide_eq_true (show ((l.length : Int) > 0) by omega), dec_ge, dec_lt (show l.length - 1 < l.length by omega), cond_true]
      rw [wrapi (x := l.getD (l.length - 1) 0 + 1) (by omega) (by omega), ← hfr]
      exact tail)
theorem c84_zero : ∀ args H, (c84 0 args H).val = none := by
  intro args H
  cases hr : (c84 0 args H).val with
  | none => rfl
  | some r =>
    exfalso
    unfold c84 at hr
    split at hr
    · obtain ⟨hg, _⟩ := guard_val hr
      simp only [Bool.and_eq_true, decide_eq_true_eq] at hg
      omega
    · cases hr
theorem B0_ok : ∀ d, TabOK (B0 d)
  | 0 => S25_ok.addCall fun a H v H' hv => by rw [c84_zero] at hv; cases hv
  | d + 1 => by
    have h0 := B0_ok d
    have h1 : TabOK (B1 d) := h0.addLoop fun b k H o k' H' hv => by refine LoopOK.tab ?_ ?_ ?_ ?_ (l84_7_run d h0 b k H o k' H' hv) <;> rfl
    exact S25_ok.addCall fun a H v H' hv => by refine CallOK.tab ?_ ?_ (c84_run d h1 a H v H' hv) <;> rfl
theorem andN_bound {f : Int} (h0 : 0 ≤ f) (h : f < 512) (x : Int) : 0 ≤ Brn.andN f x ∧ Brn.andN f x < 512 := by
  obtain ⟨f, rfl⟩ := Int.eq_ofNat_of_zero_le h0
  unfold Brn.andN
  have e : (BitVec.ofInt 64 (f : Int) &&& ~~~ BitVec.ofInt 64 x).toNat ≤ f := by
    rw [BitVec.toNat_and, BitVec.ofInt_natCast, BitVec.toNat_ofNat, Nat.mod_eq_of_lt (by omega)]
    exact Nat.and_le_left
  rw [wrapu (by omega) (by omega)]
  omega
theorem low_lt {f : Nat} (h : f < 512) (h0 : f ≠ 0) : ∃ g : Nat, Brn.low (f : Int) = (g : Int) ∧ g < f := by
  refine ⟨f &&& (f - 1), ?_, (Brn.bits_step f h h0).2.2⟩
  unfold Brn.low
  rw [show ((f : Int) - 1) = ((f - 1 : Nat) : Int) by omega, Brn.andU_nat (by omega) (by omega)]
theorem rad_if {d : Int} (h1 : 1 ≤ d) (h9 : d ≤ 9) : (if 8 < IntKind.i64.wrap (IntKind.i64.wrap (2 * d) - 2) then 8 else IntKind.i64.wrap (IntKind.i64.wrap (2 * d) - 2)) = Brn.rad d := by
  rw [wrapi (x := 2 * d) (by omega) (by omega), wrapi (x := 2 * d - 2) (by omega) (by omega)]
  unfold Brn.rad
  rw [Int.min_def]
  split <;> split <;> omega
theorem l81_4_run (d : Nat) (hT : TabOK (C0 d)) : ∀ base kv H o kv' H', (l81_4 d base kv H).val = some (o, kv', H') → LoopOK (C0 d) 81 4 base kv H o kv' H' := l81_4_ok d hT (by kernel_rfl) (by
  intro l f nb n g r hv
  obtain ⟨hl, hv2⟩ := guard_val hv
  simp only [Bool.and_eq_true, decide_eq_true_eq] at hl
  obtain ⟨⟨⟨⟨⟨⟨a1, a2⟩, a3⟩, a4⟩, a5⟩, a6⟩, a7⟩ := hl
  obtain ⟨f, rfl⟩ := Int.eq_ofNat_of_zero_le a5
  obtain ⟨m, hm⟩ : ∃ m : Nat, (nb + 1 - l.length).toNat = m + 1 := ⟨(nb - l.length).toNat, by omega⟩
  generalize hF : (fun (p c : Int) => Brn.apS g (Brn.rad nb) m (l ++ [p]) (Brn.andN c (g.getD ((Brn.rad nb).toNat + p.toNat * 9) 0))) = F
  have eB : Brn.apG g nb l (f : Int) = Brn.scanP F 512 (f : Int) := by unfold Brn.apG; rw [hm]; simp only [Brn.apS]; rw [hF]
  have eL : Brn.apLast g nb l (f : Int) = Brn.scanF F 512 (f : Int) := by unfold Brn.apLast; rw [hm]; simp only; rw [hF]
  generalize Brn.apG g nb l (f : Int) = B at hv2 eB
  generalize Brn.apLast g nb l (f : Int) = L at hv2 eL
  have hz : ∀ f : Nat, f ≠ 0 → (((f : Nat) : Int) == 0) = false := fun f h => by simpa using h
  obtain ⟨mm, hmm⟩ := lpRun_of (T := C0 d) (fid := 81) (lid := 4) (base := 5) (c := lpc (C0 d) 81 4) (fun s : Nat × Nat => s.2 < s.1 ∧ s.2 < 512 ∧ B = Brn.scanP F s.1 (s.2 : Int) ∧ L = Brn.scanF F s.1 (s.2 : Int))
    (fun s => [lI l, vint .u64 s.2, ps 0, ps 2, ps 3, vb false]) (fun _ => [some (rVi nb 3), some rNil, some rPq, some rPt4, some (rG n g)])
    (fun _ => bif B.isSome then (.ret, [lI l, vint .u64 L, ps 0, ps 2, ps 3, vb true], [some (rVi nb 3), some (rOut (Brn.gotten B)), some rPq, some rPt4, some (rG n g)]) else (.ext 0, [lI l, vint .u64 0, ps 0, ps 2, ps 3, vb false], [some (rVi nb 3), some rNil, some rPq, some rPt4, some (rG n g)])) (fun s => s.2)
    (fun s hs again => by
      obtain ⟨k, f⟩ := s
      obtain ⟨h1, h2, h3, h4⟩ := hs
      simp only at h1 h2 h3 h4
      cases k with
      | zero => omega
      | succ k =>
      simp only [Brn.scanP, Brn.scanF] at h3 h4
      have step : lpStep (C0 d) 81 4 5 (lpc (C0 d) 81 4) again [lI l, vint .u64 f, ps 0, ps 2, ps 3, vb false] [some (rVi nb 3), some rNil, some rPq, some rPt4, some (rG n g)] =
          bif (f : Int) == 0 then some (.ext 0, [lI l, vint .u64 f, ps 0, ps 2, ps 3, vb false], [some (rVi nb 3), some rNil, some rPq, some rPt4, some (rG n g)])
          else bif (F (Brn.tz f : Int) f).isSome then some (.ret, [lI l, vint .u64 f, ps 0, ps 2, ps 3, vb true], [some (rVi nb 3), some (rOut (Brn.gotten (F (Brn.tz f : Int) f))), some rPq, some rPt4, some (rG n g)])
          else again [lI l, vint .u64 (Brn.low f), ps 0, ps 2, ps 3, vb false] [some (rVi nb 3), some rNil, some rPq, some rPt4, some (rG n g)] := by
        by_cases hf0 : f = 0
        · subst hf0
          cases l with
          | nil => rw [nl81n]; rfl
          | cons y l => rw [nl81c]; rfl
        · have ht := (Brn.bits_step f h2 hf0).2.1
          have hx : g[(Brn.rad nb).toNat + Brn.tz f * 9]? = some (g.getD ((Brn.rad nb).toNat + Brn.tz f * 9) 0) := get9 a7 (by unfold Brn.rad; omega)
          have hb := andN_bound (f := (f : Int)) (by omega) (by omega) (g.getD ((Brn.rad nb).toNat + Brn.tz f * 9) 0)
          have hr : 0 ≤ Brn.rad nb ∧ Brn.rad nb < 9 := by unfold Brn.rad; omega
          have hand : IntKind.u64.wrap ((BitVec.ofInt 64 (f : Int) &&& ~~~BitVec.ofInt 64 (g.getD ((Brn.rad nb).toNat + Brn.tz f * 9) 0)).toNat : Int) = Brn.andN f (g.getD ((Brn.rad nb).toNat + Brn.tz f * 9) 0) := rfl
          have hlow : IntKind.u64.wrap ((BitVec.ofInt 64 (f : Int) &&& BitVec.ofInt 64 (IntKind.u64.wrap ((f : Int) - 1))).toNat : Int) = Brn.low f := by
            rw [wrapu (x := (f : Int) - 1) (by omega) (by omega)]; rfl
          have hFe : F (Brn.tz f : Int) f = Brn.apS g (Brn.rad nb) m (l ++ [(Brn.tz f : Int)]) (Brn.andN f (g.getD ((Brn.rad nb).toNat + Brn.tz f * 9) 0)) := by rw [← hF]; simp only [toNat_cast]
          have hG : Brn.apG g nb (l ++ [(Brn.tz f : Int)]) (Brn.andN f (g.getD ((Brn.rad nb).toNat + Brn.tz f * 9) 0)) = F (Brn.tz f : Int) f := by
            rw [hFe]; unfold Brn.apG
            rw [show (nb + 1 - ((l ++ [(Brn.tz f : Int)]).length : Int)).toNat = m by simp; omega]
          have e2 : (((l ++ [(Brn.tz f : Int)]).length : Nat) : Int) = (l.length : Int) + 1 := by simp
          cases l with
          | nil =>
            have hG' : Brn.apG g nb [(Brn.tz f : Int)] (Brn.andN f (g.getD ((Brn.rad nb).toNat + Brn.tz f * 9) 0)) = F (Brn.tz f : Int) f := hG
            rw [nl81n]
            rw [rad_if a3 a4]
            simp only [toNat_cast, List.nil_append, hx, oM, hand, hlow, hG', bne, hz f hf0, Bool.not_false, cond_true, cond_false, decide_eq_true (show (0 : Int) < (f : Int) by omega), decide_eq_true (show (f : Int) < 512 by omega), Bool.and_self, decide_eq_true (show (Brn.tz f : Int) < 9 by omega), decide_eq_true hr.1, decide_eq_true hr.2,
              decide_eq_true (show nb + 1 - 1 < (d : Int) by simp at a1; omega), decide_eq_true (show (1 : Int) ≤ nb + 1 by omega), decide_eq_true a3, decide_eq_true a4, decide_eq_true hb.1, decide_eq_true hb.2, decide_eq_true a7]
          | cons y l =>
            rw [nl81c]
            rw [rad_if a3 a4]
            have hrm : room ((y :: l).length + 1) 8 = true := room_ok (by simp only [List.length_cons] at a2 ⊢; omega) (by omega)
            rw [hrm]
            simp only [toNat_cast, hx, oM, hand, hlow, hG, e2, bne, hz f hf0, Bool.not_false, cond_true, cond_false, decide_eq_true (show (0 : Int) < (f : Int) by omega), decide_eq_true (show (f : Int) < 512 by omega), Bool.and_self, decide_eq_true (show (Brn.tz f : Int) < 9 by omega), decide_eq_true hr.1, decide_eq_true hr.2,
              decide_eq_true (show nb + 1 - (((y :: l).length : Int) + 1) < (d : Int) by omega), decide_eq_true (show (((y :: l).length : Int) + 1) ≤ nb + 1 by omega), decide_eq_true a3, decide_eq_true a4, decide_eq_true hb.1, decide_eq_true hb.2, decide_eq_true a7]
      simp only
      rw [step]
      by_cases hf0 : f = 0
      · subst hf0
        left
        rw [show ((((0 : Nat) : Int)) == 0) = true from rfl] at h3 ⊢
        simp only [cond_true] at h3
        subst h3
        rfl
      · rw [hz f hf0] at h3 h4 ⊢
        simp only [cond_false, toNat_cast] at h3 h4 ⊢
        cases hx : F (Brn.tz f : Int) f with
        | some x =>
          rw [hx] at h3 h4
          simp only at h3 h4
          subst h3
          subst h4
          left; rfl
        | none =>
          rw [hx] at h3 h4
          simp only at h3 h4
          obtain ⟨q, hq1, hq2⟩ := low_lt h2 hf0
          rw [hq1] at h3 h4 ⊢
          exact .inr ⟨(k, q), ⟨by simp only; omega, by simp only; omega, h3, h4⟩, hq2, by trivial, rfl⟩) (512, f) ⟨by simp only; omega, by simp only; omega, eB, eL⟩
  refine ⟨mm, hmm.trans ?_⟩
  rcases br_val hv2 with ⟨h, hv3⟩ | ⟨h, hv3⟩ <;> rw [leaf_val hv3, h] <;> rfl)
theorem c81_run (d : Nat) (hT : TabOK (C1 d)) : ∀ args H v H', (c81 (d + 1) args H).val = some (v, H') → CallOK (C1 d) 81 args H v H' := c81_ok (d + 1) hT (by
  intro l f nb n g r hv
  obtain ⟨hl, hv2⟩ := guard_val hv
  simp only [Bool.and_eq_true, decide_eq_true_eq] at hl
  obtain ⟨⟨⟨⟨⟨⟨a1, a2⟩, a3⟩, a4⟩, a5⟩, a6⟩, a7⟩ := hl
  rw [nf81b]
  by_cases hlen : (l.length : Int) > nb
  · rw [decide_eq_true hlen]
    have e : Brn.apG g nb l f = some l := by unfold Brn.apG; rw [show (nb + 1 - (l.length : Int)).toNat = 0 by omega]; rfl
    rw [e] at hv2
    rw [leaf_val hv2]
    rfl
  · rw [decide_eq_false hlen, decide_eq_true (show nb + 1 - (l.length : Int) ≤ (d : Int) by omega), decide_eq_true (show (l.length : Int) ≤ nb by omega), decide_eq_true a3, decide_eq_true a4, decide_eq_true a5, decide_eq_true a6, decide_eq_true a7]
    rcases br_val hv2 with ⟨h, hv3⟩ | ⟨h, hv3⟩ <;> rw [leaf_val hv3, h] <;> rfl)
theorem c81_zero : ∀ args H, (c81 0 args H).val = none := by
  intro args H
  cases hr : (c81 0 args H).val with
  | none => rfl
  | some r =>
    exfalso
    unfold c81 at hr
    split at hr
    · obtain ⟨hg, _⟩ := guard_val hr
      simp only [Bool.and_eq_true, decide_eq_true_eq] at hg
      omega
    · cases hr
theorem C0_ok : ∀ d, TabOK (C0 d)
  | 0 => S25_ok.addCall fun a H v H' hv => by rw [c81_zero] at hv; cases hv
  | d + 1 => by
    have h0 := C0_ok d
    have h1 : TabOK (C1 d) := h0.addLoop fun b k H o k' H' hv => by refine LoopOK.tab ?_ ?_ ?_ ?_ (l81_4_run d h0 b k H o k' H' hv) <;> rfl
    exact S25_ok.addCall fun a H v H' hv => by refine CallOK.tab ?_ ?_ (c81_run d h1 a H v H' hv) <;> rfl
end Go.Ev.Burn
namespace Go.Ev.Burn
open Go Go.Ev
set_option maxRecDepth 1000000
set_option linter.unusedVariables false
set_option linter.unusedSimpArgs false
set_option maxHeartbeats 4000000
theorem C0x_ok : TabOK C0x := by
  have h0 := B0_ok 10
  have h1 : TabOK (B1 10) := h0.addLoop fun b k H o k' H' hv => by refine LoopOK.tab ?_ ?_ ?_ ?_ (l84_7_run 10 h0 b k H o k' H' hv) <;> rfl
  exact (C0_ok 11).addCall fun a H v H' hv => by refine CallOK.tab ?_ ?_ (c84_run 10 h1 a H v H' hv) <;> rfl
theorem l41_15_run : ∀ base kv H o kv' H', (l41_15 base kv H).val = some (o, kv', H') → LoopOK C0x 41 15 base kv H o kv' H' := by
  have h : ∀ base kv H o kv' H', (l41_15 base kv H).val = some (o, kv', H') → LoopOK S22 41 15 base kv H o kv' H' := l41_15_ok S22_ok (by kernel_rfl) (by
    intro n n2 d p m i k ws pl pl2 pr g near r hv
    obtain ⟨hl, hv2⟩ := guard_val hv
    simp only [Bool.and_eq_true, decide_eq_true_eq] at hl
    obtain ⟨⟨⟨⟨⟨⟨⟨a1, a2⟩, a3⟩, a4⟩, a5⟩, rfl⟩, hs⟩, ha⟩ := hl
    have hpr := sm_le hs
    rw [List.all_eq_true] at ha
    obtain ⟨mm, hm⟩ := fold_of (T := S22) (fid := 41) (lid := 15) (base := 0) (c := lpc S22 41 15) pr (fun _ _ => True) (fun (b : Bool) x => b || decide (Brn.idx9 (Brn.farI g p x) < 2 * d - 1))
      (fun q b => [vi d, lI pl, ps 0, ps 1, vb b, vi p, lI pl2, vi m, vi i, lI pr, vi pr.length, vi q]) (fun _ => [some (rH n ws 24), some (rG n2 g)]) (fun b => (.ext 4, [vi d, lI pl, ps 0, ps 1, vb b, vi p, lI pl2, vi m, vi i, lI pr, vi pr.length, vi pr.length], [some (rH n ws 24), some (rG n2 g)]))
      (fun q x b hx hlt _ again => by
        have h0 := of_decide_eq_true (ha x (List.mem_of_getElem? hx))
        rw [nl41x]
        rw [wrapi (x := 2 * d) (by omega) (by omega), wrapi (x := 2 * d - 1) (by omega) (by omega), wrap_succ (by omega)]
        simp only [dec_lt hlt, dec_ge, cond_true, toNat_cast, hx, oM, decide_eq_true a1, decide_eq_true a2, decide_eq_true h0, decide_eq_true a3, Bool.and_self]
        cases b <;> rfl)
      (fun _ _ _ _ _ _ => trivial)
      (fun b _ again => by
        rw [nl41x]
        simp only [dec_ll, cond_false]) near trivial
    refine ⟨mm, hm.trans ?_⟩
    rw [foldl_or, leaf_val hv2]
    rfl)
  exact fun b k H o k' H' hv => by refine LoopOK.tab ?_ ?_ ?_ ?_ (h b k H o k' H' hv) <;> rfl
theorem l42_5_run : ∀ base kv H o kv' H', (l42_5 base kv H).val = some (o, kv', H') → LoopOK C0x 42 5 base kv H o kv' H' := by
  have h : ∀ base kv H o kv' H', (l42_5 base kv H).val = some (o, kv', H') → LoopOK S22 42 5 base kv H o kv' H' := l42_5_ok S22_ok (by kernel_rfl) (by
    intro n d ws pl e r hv
    obtain ⟨hs, hv⟩ := guard_val hv
    have hpl := sm_le hs
    rcases br_val hv with ⟨he, hv⟩ | ⟨he, hv⟩
    · obtain ⟨hn, hv2⟩ := guard_val hv
      simp only [Bool.and_eq_true, decide_eq_true_eq] at hn
      obtain rfl : e = 0 := by simpa using he
      obtain ⟨mm, hm⟩ := each_of (T := S22) (fid := 42) (lid := 5) (base := 0) (c := lpc S22 42 5) pl (fun _ _ => True)
        (fun i (e : Int) p => bif e == 0 then .inr (Brn.err1 n pl i p) else .inl (.ext 0, [vi d, lI pl, ps 0, vi e, vi i], [some (rH n ws 28)]))
        (fun i e => [vi d, lI pl, ps 0, vi e, vi i]) (fun _ => [some (rH n ws 28)]) (fun e => (.ext 0, [vi d, lI pl, ps 0, vi e, vi pl.length], [some (rH n ws 28)]))
        (fun i x e hx hlt _ again => by
          rw [nl42]
          rw [wrap_succ (by omega)]
          cases h0 : e == 0 with
          | false => simp only [dec_lt hlt, cond_true, cond_false]
          | true =>
            obtain rfl : e = 0 := by simpa using h0
            rw [wrapi (x := n - 1) (by omega) (by omega)]
            simp only [dec_lt hlt, dec_ge, cond_true, toNat_cast, hx, oM]
            unfold Brn.err1
            cases h1 : Brn.inR x 0 (n - 1) with
            | false => rfl
            | true =>
              simp only [Bool.not_true, cond_false]
              by_cases hi : i = 0
              · subst hi; rfl
              · have ei : IntKind.i64.wrap ((i : Int) - 1) = ((i - 1 : Nat) : Int) := by rw [wrapi (by omega) (by omega)]; omega
                rw [ei]
                simp only [decide_eq_true (show (i : Int) > 0 by omega), decide_eq_true (show 0 < i by omega), dec_ge, dec_lt (show i - 1 < pl.length by omega), toNat_cast, getO (show i - 1 < pl.length by omega), cond_true, oM, Bool.true_and]
                cases decide (x ≤ pl.getD (i - 1) 0) <;> rfl)
        (fun _ _ _ _ _ _ _ _ => trivial)
        (fun e _ again => by
          rw [nl42]
          simp only [dec_ll, cond_false]) 0 trivial
      refine ⟨mm, hm.trans ?_⟩
      have em := foldX_map (fun i (e : Int) p => bif e == 0 then .inr (Brn.err1 n pl i p) else .inl (e, i)) (fun x : Int × Nat => ((.ext 0, [vi d, lI pl, ps 0, vi x.1, vi x.2], [some (rH n ws 28)]) : Out × List AV × Hp)) (fun e => (.ext 0, [vi d, lI pl, ps 0, vi e, vi pl.length], [some (rH n ws 28)])) pl 0 (0 : Int)
      have ef : (fun i (e : Int) p => mapX (fun x : Int × Nat => ((.ext 0, [vi d, lI pl, ps 0, vi x.1, vi x.2], [some (rH n ws 28)]) : Out × List AV × Hp)) (bif e == 0 then .inr (Brn.err1 n pl i p) else .inl (e, i) : Sum (Int × Nat) Int)) = (fun i (e : Int) p => bif e == 0 then .inr (Brn.err1 n pl i p) else .inl (.ext 0, [vi d, lI pl, ps 0, vi e, vi i], [some (rH n ws 28)])) := by
        funext i e p
        cases e == 0 <;> rfl
      rw [ef] at em
      rw [em, leaf_val hv2]
      unfold Brn.ascXe Brn.ascXi Brn.ascX
      generalize foldX (fun i (e : Int) p => bif e == 0 then (.inr (Brn.err1 n pl i p) : Sum (Int × Nat) Int) else .inl (e, i)) 0 pl 0 = X
      cases X <;> rfl
    · refine ⟨1, ?_⟩
      show lpStep S22 42 5 0 (lpc S22 42 5) _ [vi d, lI pl, ps 0, vi e, vi 0] [some (rH n ws 28)] = _
      rw [nl42, leaf_val hv, he]
      cases decide ((0 : Int) < (pl.length : Int)) <;> rfl)
  exact fun b k H o k' H' hv => by refine LoopOK.tab ?_ ?_ ?_ ?_ (h b k H o k' H' hv) <;> rfl
theorem C2_ok : TabOK C2 := by
  have h := C0x_ok
  have h := h.addLoop (g := 41) (lid := 15) (r := l41_15) fun b k H o k' H' hv => by refine LoopOK.tab ?_ ?_ ?_ ?_ (l41_15_run b k H o k' H' hv) <;> rfl
  have h := h.addLoop (g := 42) (lid := 5) (r := l42_5) fun b k H o k' H' hv => by refine LoopOK.tab ?_ ?_ ?_ ?_ (l42_5_run b k H o k' H' hv) <;> rfl
  exact h
def slotF (fr : Bool) : AV := bif fr then vi 0 else .dead
theorem take_take {l : List Int} {i : Nat} : (l.take i).length ≤ l.length := by rw [List.length_take]; omega
theorem l41_8_run : ∀ base kv H o kv' H', (l41_8 base kv H).val = some (o, kv', H') → LoopOK C2 41 8 base kv H o kv' H' := l41_8_ok C2_ok (by kernel_rfl) (by
  intro n n2 d ws pl pl2 g m r hv
  obtain ⟨hl, hv2⟩ := guard_val hv
  simp only [Bool.and_eq_true, decide_eq_true_eq] at hl
  obtain ⟨⟨⟨⟨⟨⟨⟨a1, a2⟩, a3⟩, a4⟩, a5⟩, rfl⟩, hs⟩, rfl⟩ := hl
  have hpl := sm_le hs
  obtain ⟨mm, hm⟩ := each_of (T := C2) (fid := 41) (lid := 8) (base := 0) (c := lpc C2 41 8) pl2 (fun i (s : Bool × Bool) => (∀ k x, k < i → pl2[k]? = some x → 0 ≤ x))
    (fun i (s : Bool × Bool) p => bif Brn.err1 n pl2 i p == 0 then .inr (s.1 || Brn.nearB g d p (pl2.take i), false) else .inl (.ret, [vi d, lI pl2, ps 0, vi (Brn.err1 n pl2 i p), ps 1, vb s.1, lI pl2, vi pl2.length, vi i], [some (rH n ws 24), some (rG n2 g)]))
    (fun i s => [vi d, lI pl2, ps 0, slotF s.2, ps 1, vb s.1, lI pl2, vi pl2.length, vi i]) (fun _ => [some (rH n ws 24), some (rG n2 g)])
    (fun s => (.ext 1, [vi d, lI pl2, ps 0, slotF s.2, ps 1, vb s.1, lI pl2, vi pl2.length, vi pl2.length], [some (rH n ws 24), some (rG n2 g)]))
    (fun i x s hx hlt hI again => by
      obtain ⟨b, fr⟩ := s
      have hnew : ∀ y, (pl2.take i).all (fun x => decide (0 ≤ x)) = y → y = true := by
        rintro y rfl
        rw [List.all_eq_true]
        intro z hz
        obtain ⟨k, hk, rfl⟩ := List.getElem_of_mem hz
        rw [List.getElem_take]
        rw [List.length_take] at hk
        exact decide_eq_true (hI k _ (by omega) (List.getElem?_eq_getElem (by omega)))
      have hall := hnew _ rfl
      have hts : sm (pl2.take i) = true := sm_of (k := 100000) (by rw [List.length_take]; omega) (by omega)
      have step : ∀ e : AV, (lpStep C2 41 8 0 (lpc C2 41 8) again [vi d, lI pl2, ps 0, e, ps 1, vb b, lI pl2, vi pl2.length, vi i] [some (rH n ws 24), some (rG n2 g)] = lpStep C2 41 8 0 (lpc C2 41 8) again [vi d, lI pl2, ps 0, vi 0, ps 1, vb b, lI pl2, vi pl2.length, vi i] [some (rH n ws 24), some (rG n2 g)]) → 
          lpStep C2 41 8 0 (lpc C2 41 8) again [vi d, lI pl2, ps 0, e, ps 1, vb b, lI pl2, vi pl2.length, vi i] [some (rH n ws 24), some (rG n2 g)] =
          bif Brn.err1 n pl2 i x == 0 then again [vi d, lI pl2, ps 0, .dead, ps 1, vb (b || Brn.nearB g d x (pl2.take i)), lI pl2, vi pl2.length, vi ((i + 1 : Nat) : Int)] [some (rH n ws 24), some (rG n2 g)] else some (.ret, [vi d, lI pl2, ps 0, vi (Brn.err1 n pl2 i x), ps 1, vb b, lI pl2, vi pl2.length, vi i], [some (rH n ws 24), some (rG n2 g)]) := by
        intro e he
        rw [he, nl41_8, wrapi (x := n - 1) (by omega) (by omega), wrap_succ (by omega)]
        simp only [dec_lt hlt, dec_ge, cond_true, toNat_cast, hx, oM]
        unfold Brn.err1
        cases h1 : Brn.inR x 0 (n - 1) with
        | false => rfl
        | true =>
          have hx2 : 0 ≤ x ∧ x ≤ n - 1 := by simpa [Brn.inR] using h1
          simp only [Bool.not_true, cond_false, decide_eq_true hx2.1, decide_eq_true (show x < 9 by omega), decide_eq_true a3, decide_eq_true a4, decide_eq_true a5, decide_true, hts, hall, Bool.and_self, cond_true, decide_eq_true (show (i : Int) ≤ (pl2.length : Int) by omega)]
          by_cases hi : i = 0
          · subst hi; rfl
          · have ei : IntKind.i64.wrap ((i : Int) - 1) = ((i - 1 : Nat) : Int) := by rw [wrapi (by omega) (by omega)]; omega
            rw [ei]
            simp only [decide_eq_true (show (i : Int) > 0 by omega), decide_eq_true (show 0 < i by omega), dec_ge, dec_lt (show i - 1 < pl2.length by omega), toNat_cast, getO (show i - 1 < pl2.length by omega), cond_true, oM, Bool.true_and]
            cases decide (x ≤ pl2.getD (i - 1) 0) <;> rfl
      cases fr with
      | true =>
        show lpStep C2 41 8 0 (lpc C2 41 8) again [vi d, lI pl2, ps 0, vi 0, ps 1, vb b, lI pl2, vi pl2.length, vi i] [some (rH n ws 24), some (rG n2 g)] = _
        rw [step (vi 0) rfl]
        cases Brn.err1 n pl2 i x == 0 <;> rfl
      | false =>
        show lpStep C2 41 8 0 (lpc C2 41 8) again [vi d, lI pl2, ps 0, .dead, ps 1, vb b, lI pl2, vi pl2.length, vi i] [some (rH n ws 24), some (rG n2 g)] = _
        rw [step .dead (by rw [nl41_8d, nl41_8]; simp only [dec_lt hlt, cond_true])]
        cases Brn.err1 n pl2 i x == 0 <;> rfl)
    (fun i x s s' hx hlt hI hf k y hk hy => by
      by_cases hki : k < i
      · exact hI k y hki hy
      · obtain rfl : k = i := by omega
        rw [hx] at hy
        cases hy
        cases hz : Brn.err1 n pl2 k x == 0 with
        | false => rw [hz] at hf; cases hf
        | true =>
          unfold Brn.err1 at hz
          cases h1 : Brn.inR x 0 (n - 1) with
          | false => rw [h1] at hz; cases hz
          | true =>
            have hx2 : 0 ≤ x ∧ x ≤ n - 1 := by simpa [Brn.inR] using h1
            exact hx2.1)
    (fun s _ again => by
      obtain ⟨b, fr⟩ := s
      cases fr with
      | true =>
        show lpStep C2 41 8 0 (lpc C2 41 8) again [vi d, lI pl2, ps 0, vi 0, ps 1, vb b, lI pl2, vi pl2.length, vi pl2.length] [some (rH n ws 24), some (rG n2 g)] = _
        rw [nl41_8]
        simp only [dec_ll, cond_false]
        rfl
      | false =>
        show lpStep C2 41 8 0 (lpc C2 41 8) again [vi d, lI pl2, ps 0, .dead, ps 1, vb b, lI pl2, vi pl2.length, vi pl2.length] [some (rH n ws 24), some (rG n2 g)] = _
        rw [nl41_8d]
        simp only [dec_ll, cond_false]
        rfl) (false, true) (fun k x hk _ => by omega)
  refine ⟨mm, hm.trans ?_⟩
  have key : ∀ (l : List Int) (i : Nat) (b fr : Bool), endX (fun s : Bool × Bool => ((.ext 1, [vi d, lI pl2, ps 0, slotF s.2, ps 1, vb s.1, lI pl2, vi pl2.length, vi pl2.length], [some (rH n ws 24), some (rG n2 g)]) : Out × List AV × Hp))
      (foldX (fun i (s : Bool × Bool) p => bif Brn.err1 n pl2 i p == 0 then .inr (s.1 || Brn.nearB g d p (pl2.take i), false) else .inl (.ret, [vi d, lI pl2, ps 0, vi (Brn.err1 n pl2 i p), ps 1, vb s.1, lI pl2, vi pl2.length, vi i], [some (rH n ws 24), some (rG n2 g)])) i l (b, fr)) =
      caseX (fun x : Int × Bool × Nat => (.ret, [vi d, lI pl2, ps 0, vi x.1, ps 1, vb x.2.1, lI pl2, vi pl2.length, vi x.2.2], [some (rH n ws 24), some (rG n2 g)])) (fun b' => (.ext 1, [vi d, lI pl2, ps 0, slotF (fr && l.isEmpty), ps 1, vb b', lI pl2, vi pl2.length, vi pl2.length], [some (rH n ws 24), some (rG n2 g)]))
        (foldX (fun i (near : Bool) p => bif Brn.err1 n pl2 i p == 0 then .inr (near || Brn.nearB g d p (pl2.take i)) else .inl (Brn.err1 n pl2 i p, near, i)) i l b) := by
    intro l
    induction l with
    | nil => intro i b fr; cases fr <;> rfl
    | cons p l ih =>
      intro i b fr
      simp only [foldX]
      cases Brn.err1 n pl2 i p == 0 with
      | false => rfl
      | true =>
        simp only [cond_true]
        rw [ih]
        cases fr <;> rfl
  rw [key]
  have e1 := Brn.proE_eq n g d pl2
  have hne : ∀ x, Brn.proX n g d pl2 = .inl x → x.1 ≠ 0 := by
    intro x
    unfold Brn.proX
    have : ∀ (l : List Int) (i : Nat) (b : Bool), foldX (fun i (near : Bool) p => bif Brn.err1 n pl2 i p == 0 then (.inr (near || Brn.nearB g d p (pl2.take i)) : Sum (Int × Bool × Nat) Bool) else .inl (Brn.err1 n pl2 i p, near, i)) i l b = .inl x → x.1 ≠ 0 := by
      intro l
      induction l with
      | nil => intro i b h; cases h
      | cons p l ih =>
        intro i b h
        simp only [foldX] at h
        cases hz : Brn.err1 n pl2 i p == 0 with
        | true => rw [hz] at h; exact ih _ _ h
        | false => rw [hz] at h; cases h; simpa using hz
    exact this pl2 0 false
  unfold Brn.proE Brn.proN Brn.proI at hv2
  unfold Brn.proX at hv2 hne
  generalize foldX (fun i (near : Bool) p => bif Brn.err1 n pl2 i p == 0 then (.inr (near || Brn.nearB g d p (pl2.take i)) : Sum (Int × Bool × Nat) Bool) else .inl (Brn.err1 n pl2 i p, near, i)) 0 pl2 false = X at hv2 hne ⊢
  cases X with
  | inl x =>
    have := hne x rfl
    rcases br_val hv2 with ⟨h, _⟩ | ⟨_, hv3⟩
    · exact absurd (by simpa using h) this
    · rw [leaf_val hv3]; rfl
  | inr b =>
    rcases br_val hv2 with ⟨_, hv3⟩ | ⟨h, _⟩
    · rcases br_val hv3 with ⟨h, hv4⟩ | ⟨h, hv4⟩
      · rw [leaf_val hv4, h]; rfl
      · rw [leaf_val hv4, h]; rfl
    · cases h)
theorem C3_ok : TabOK C3 := by
  have h := C2_ok
  have h := h.addLoop (g := 41) (lid := 8) (r := l41_8) fun b k H o k' H' hv => by refine LoopOK.tab ?_ ?_ ?_ ?_ (l41_8_run b k H o k' H' hv) <;> rfl
  exact h
theorem c35_run : ∀ args H v H', (c35 args H).val = some (v, H') → CallOK C3 35 args H v H' := c35_ok C3_ok (by
  intro n d ws r hv
  obtain ⟨hws, hv2⟩ := guard_val hv
  rw [nf35, place_nil, hws, show sm ([] : List Int) = true from rfl]
  unfold Brn.barE Brn.barV at hv2
  cases hc : Brn.chk n ws == 0 with
  | false =>
    have hne : Brn.chk n ws ≠ 0 := by simpa using hc
    rw [hc] at hv2
    rcases br_val hv2 with ⟨h, _⟩ | ⟨_, hv3⟩
    · exact absurd (by simpa using h) hne
    · rw [leaf_val hv3, show (Brn.chk n ws != 0) = true by simp [bne, hc]]; rfl
  | true =>
    have hOk := Brn.ok_of (by simpa using hc)
    have h1 := hOk.lo
    have h9 := hOk.hi
    rw [hc] at hv2
    simp only [cond_true] at hv2
    cases hr : Brn.inR d 1 9 with
    | false =>
      rw [hr] at hv2
      rcases br_val hv2 with ⟨h, _⟩ | ⟨_, hv3⟩
      · cases h
      · rw [leaf_val hv3]; rfl
    | true =>
      have hd : 1 ≤ d ∧ d ≤ 9 := by simpa [Brn.inR] using hr
      rw [hr] at hv2
      simp only [cond_true] at hv2
      have ha : 0 ≤ Brn.allN n ∧ Brn.allN n < 512 := by
        rw [← Brn.free_nil hOk d]
        have := Brn.mk9_lt (Brn.freeS n ws d [])
        omega
      rw [Brn.bar_eq hOk hd.1]
      simp only [Bool.not_true, cond_true, cond_false, decide_eq_true (show (0 : Int) ≤ n by omega), decide_eq_true h9, decide_eq_true (show d + 1 - 0 < 11 by omega), decide_eq_true (show 0 ≤ d + 1 by omega), decide_eq_true hd.1, decide_eq_true hd.2, decide_eq_true ha.1, decide_eq_true ha.2, decide_eq_true (Brn.ground_len n ws), Bool.and_self]
      cases hB : Brn.barR n ws (2 * d - 1) (d + 1) [] with
      | none =>
        rw [hB] at hv2
        rcases br_val hv2 with ⟨h, _⟩ | ⟨_, hv3⟩
        · cases h
        · rw [leaf_val hv3]; rfl
      | some x =>
        rw [hB] at hv2
        rcases br_val hv2 with ⟨_, hv3⟩ | ⟨h, _⟩
        · rw [leaf_val hv3]; rfl
        · cases h)
theorem c36_run : ∀ args H v H', (c36 args H).val = some (v, H') → CallOK C3 36 args H v H' := c36_ok C3_ok (by
  intro n d ws r hv
  obtain ⟨hws, hv2⟩ := guard_val hv
  rw [nf36, hws]
  unfold Brn.barE Brn.barV at hv2
  cases hc : Brn.chk n ws == 0 with
  | false =>
    have hne : Brn.chk n ws ≠ 0 := by simpa using hc
    rw [hc] at hv2
    rcases br_val hv2 with ⟨h, _⟩ | ⟨_, hv3⟩
    · exact absurd (by simpa using h) hne
    · rw [leaf_val hv3, show (Brn.chk n ws != 0) = true by simp [bne, hc]]; rfl
  | true =>
    have hOk := Brn.ok_of (by simpa using hc)
    have h1 := hOk.lo
    have h9 := hOk.hi
    rw [hc] at hv2
    simp only [cond_true] at hv2
    cases hr : Brn.inR d 1 9 with
    | false =>
      rw [hr] at hv2
      rcases br_val hv2 with ⟨h, _⟩ | ⟨_, hv3⟩
      · cases h
      · rw [leaf_val hv3]; rfl
    | true =>
      have hd : 1 ≤ d ∧ d ≤ 9 := by simpa [Brn.inR] using hr
      rw [hr] at hv2
      simp only [cond_true] at hv2
      rw [show (Brn.chk n ws != 0) = false by simp [bne, hc]]
      rw [wrapi (x := d + 1) (by omega) (by omega), wrapi (x := 2 * d) (by omega) (by omega), wrapi (x := 2 * d - 1) (by omega) (by omega)]
      simp only [Bool.not_true, cond_true, cond_false, List.all_nil, decide_eq_true (show 0 ≤ d + 1 by omega), decide_eq_true (show d + 1 < 11 by omega), decide_eq_true (show d + 1 + 0 ≤ 11 by omega), Bool.and_self]
      cases hB : Brn.barR n ws (2 * d - 1) (d + 1) [] with
      | none =>
        rw [hB] at hv2
        rcases br_val hv2 with ⟨h, _⟩ | ⟨_, hv3⟩
        · cases h
        · rw [leaf_val hv3]; rfl
      | some x =>
        rw [hB] at hv2
        rcases br_val hv2 with ⟨_, hv3⟩ | ⟨h, _⟩
        · rw [leaf_val hv3]; rfl
        · cases h)
theorem c41_run : ∀ args H v H', (c41 args H).val = some (v, H') → CallOK C3 41 args H v H' := c41_ok C3_ok (by
  intro n d ws pl r hv
  obtain ⟨hl, hv2⟩ := guard_val hv
  simp only [Bool.and_eq_true] at hl
  obtain ⟨hws, hpl⟩ := hl
  rw [leaf_val hv2, nf41, place_nil, hws, hpl, show sm ([] : List Int) = true from rfl]
  unfold Brn.provE
  cases hc : Brn.chk n ws == 0 with
  | false => rw [show (Brn.chk n ws != 0) = true by simp [bne, hc]]; rfl
  | true =>
    have hOk := Brn.ok_of (by simpa using hc)
    simp only [cond_true, Bool.and_self]
    cases hr : Brn.inR d 1 9 with
    | false => rfl
    | true =>
      have hd : 1 ≤ d ∧ d ≤ 9 := by simpa [Brn.inR] using hr
      rw [Brn.proE_eq]
      simp only [Bool.not_true, cond_true, cond_false, decide_eq_true hOk.lo, decide_eq_true hOk.hi, decide_eq_true (Brn.ground_len n ws), decide_eq_true hd.1, decide_eq_true hd.2, decide_true, Bool.and_self]
      cases ha : Brn.ascE n pl none == 0 with
      | false => rfl
      | true =>
        rw [Brn.proN_eq hOk (by simpa using ha)]
        cases pl.isEmpty <;> cases Brn.apartB n ws (2 * d - 1) pl <;> cases decide ((pl.length : Int) ≤ d) <;> rfl)
theorem c42_run : ∀ args H v H', (c42 args H).val = some (v, H') → CallOK C3 42 args H v H' := c42_ok C3_ok (by
  intro n d ws pl r hv
  obtain ⟨hl, hv2⟩ := guard_val hv
  simp only [Bool.and_eq_true] at hl
  obtain ⟨hws, hpl⟩ := hl
  rw [leaf_val hv2, nf42, hws, hpl]
  unfold Brn.provE
  cases hc : Brn.chk n ws == 0 with
  | false => rfl
  | true =>
    have hOk := Brn.ok_of (by simpa using hc)
    have h9 := hOk.hi
    simp only [cond_true, Bool.and_self]
    cases hr : Brn.inR d 1 9 with
    | false => rfl
    | true =>
      have hd : 1 ≤ d ∧ d ≤ 9 := by simpa [Brn.inR] using hr
      rw [Brn.ascX_eq]
      rw [wrapi (x := 2 * d) (by omega) (by omega), wrapi (x := 2 * d - 1) (by omega) (by omega)]
      simp only [Bool.not_true, cond_true, cond_false, decide_eq_true hOk.lo, decide_eq_true hOk.hi, Bool.and_self, decide_eq_true (show n ≤ 100 by omega)]
      cases ha : Brn.ascE n pl none == 0 with
      | false => rfl
      | true =>
        have h0 : Brn.ascE n pl none = 0 := by simpa using ha
        rw [farOK_in hOk (Brn.asc_in h0), h0]
        cases Brn.apartB n ws (2 * d - 1) pl <;> cases decide ((pl.length : Int) ≤ d) <;> rfl)
theorem C4_ok : TabOK C4 := by
  have h := C3_ok
  have h := h.addCall (g := 35) (r := c35) fun a H v H' hv => by refine CallOK.tab ?_ ?_ (c35_run a H v H' hv) <;> rfl
  have h := h.addCall (g := 36) (r := c36) fun a H v H' hv => by refine CallOK.tab ?_ ?_ (c36_run a H v H' hv) <;> rfl
  have h := h.addCall (g := 41) (r := c41) fun a H v H' hv => by refine CallOK.tab ?_ ?_ (c41_run a H v H' hv) <;> rfl
  have h := h.addCall (g := 42) (r := c42) fun a H v H' hv => by refine CallOK.tab ?_ ?_ (c42_run a H v H' hv) <;> rfl
  exact h
theorem barV_small (n : Int) (ws : Ws) (d : Int) : sm (Brn.barV n ws d) = true := by
  have key : ∀ (ok : List Int → Bool) (n m : Nat) (l x : List Int), Brn.barF ok n m l = some x → x.length = l.length + m := by
    intro ok n m
    induction m with
    | zero => intro l x h; simp [Brn.barF] at h; simp [h]
    | succ m ih =>
      intro l x h
      simp only [Brn.barF] at h
      obtain ⟨p, _, hp⟩ := List.exists_of_findSome?_eq_some h
      cases hok : ok (l ++ [(p : Int)]) with
      | false => rw [hok] at hp; cases hp
      | true => rw [hok] at hp; have := ih _ _ hp; simp at this; omega
  unfold Brn.barV
  cases Brn.chk n ws == 0 with
  | false => rfl
  | true =>
    cases hr : Brn.inR d 1 9 with
    | false => rfl
    | true =>
      have hd : 1 ≤ d ∧ d ≤ 9 := by simpa [Brn.inR] using hr
      simp only [cond_true]
      cases hB : Brn.barR n ws (2 * d - 1) (d + 1) [] with
      | none => rfl
      | some x =>
        have := key _ _ _ _ _ hB
        exact sm_of (k := 20) (by simp [Brn.gotten] at this ⊢; omega) (by omega)
theorem rowV_small (m : Int) : sm (Brn.rowV m) = true := by
  unfold Brn.rowV
  cases hr : Brn.inR m 1 100 with
  | false => rfl
  | true =>
    have hb : 1 ≤ m ∧ m ≤ 100 := by simpa [Brn.inR] using hr
    have := (Brn.rootN_spec hb.1 hb.2).2.1
    exact sm_of (k := 20) (by simp [Brn.rowP]; omega) (by omega)
theorem bars_body (n : Int) (ws : Ws) (d : Int) (pl : List Int) (long : Int) : evBody C4 5 [aH n ws, vi d, lI pl, vi long] [] = some (vb true, []) := by
  rw [nf5]
  cases hL : Brn.large ws pl with
  | true => rfl
  | false =>
    unfold Brn.large at hL
    rw [Bool.or_eq_false_iff] at hL
    have h1 := of_decide_eq_false hL.1
    have h2 := of_decide_eq_false hL.2
    have hws : sm ws = true := sm_of (k := 60) (by omega) (by omega)
    have hpl : sm pl = true := sm_of (k := 60) (by omega) (by omega)
    have hb := barV_small n ws d
    have hr := rowV_small long
    cases hE : Brn.barE n ws d == 0 with
    | true => simp only [hws, hpl, hb, hr, beq_self_eq_true, decide_true, cond_true, cond_false, Bool.and_self]
    | false =>
      simp only [hws, hpl, hb, hr, show sm ([] : List Int) = true from rfl, beq_self_eq_true, decide_true, cond_true, cond_false, Bool.and_self]
end Go.Ev.Burn
