/- BurnRoot: the body. -/
import Derived.Test.YtpieoljeikpemaaDoorRa
import Derived.Test.YtpieoljeikpemaaDoorSj
set_option linter.unusedVariables false
set_option linter.unusedSimpArgs false
namespace Go.Ev.Burn
open Go Go.Ev
set_option maxRecDepth 1000000
set_option maxHeartbeats 0
set_option linter.unusedVariables false
noncomputable def RBT : Tab := { ((((S25.addLoop 7 8 l7_8).addCall 48 c48).addCall 49 c49).addCall 44 c44) with nest := true }
theorem nf7 (s x : Int) : evBody RBT 7 [vint .u8 s, vint .u8 x] [] = (bif Brn.rootE (IntKind.i64.wrap (1 + (IntKind.i64.wrap s).tmod 100)) != 0 then some (vb false, []) else bif Brn.rootE (IntKind.i64.wrap (1 + (IntKind.i64.wrap s).tmod 100)) != 0 then some (vb false, []) else bif decide (Brn.rootV (IntKind.i64.wrap (1 + (IntKind.i64.wrap s).tmod 100)) < 1) then some (vb false, []) else bif decide (Brn.rootV (IntKind.i64.wrap (1 + (IntKind.i64.wrap s).tmod 100)) > 10) then some (vb false, []) else bif decide (IntKind.i64.wrap (Brn.rootV (IntKind.i64.wrap (1 + (IntKind.i64.wrap s).tmod 100)) * Brn.rootV (IntKind.i64.wrap (1 + (IntKind.i64.wrap s).tmod 100))) < IntKind.i64.wrap (1 + (IntKind.i64.wrap s).tmod 100)) then some (vb false, []) else bif decide (IntKind.i64.wrap (IntKind.i64.wrap (Brn.rootV (IntKind.i64.wrap (1 + (IntKind.i64.wrap s).tmod 100)) - 1) * IntKind.i64.wrap (Brn.rootV (IntKind.i64.wrap (1 + (IntKind.i64.wrap s).tmod 100)) - 1)) ≥ IntKind.i64.wrap (1 + (IntKind.i64.wrap s).tmod 100)) then some (vb false, []) else bif (↑(Brn.rowV (IntKind.i64.wrap (1 + (IntKind.i64.wrap s).tmod 100))).length : Int) != Brn.rootV (IntKind.i64.wrap (1 + (IntKind.i64.wrap s).tmod 100)) then some (vb false, []) else bif decide (0 ≤ IntKind.i64.wrap (1 + (IntKind.i64.wrap s).tmod 100)) then bif decide (IntKind.i64.wrap (1 + (IntKind.i64.wrap s).tmod 100) = IntKind.i64.wrap (1 + (IntKind.i64.wrap s).tmod 100)) then bif room (IntKind.i64.wrap (1 + (IntKind.i64.wrap s).tmod 100)).toNat 1 then bif decide (1 ≤ IntKind.i64.wrap (1 + (IntKind.i64.wrap s).tmod 100)) && decide (IntKind.i64.wrap (1 + (IntKind.i64.wrap s).tmod 100) ≤ 100) && decide (List.replicate (IntKind.i64.wrap (1 + (IntKind.i64.wrap s).tmod 100)).toNat false = List.replicate (IntKind.i64.wrap (1 + (IntKind.i64.wrap s).tmod 100)).toNat false) && decide ((IntKind.i64.wrap (1 + (IntKind.i64.wrap s).tmod 100)).toNat = (IntKind.i64.wrap (1 + (IntKind.i64.wrap s).tmod 100)).toNat) && decide ((Brn.rowV (IntKind.i64.wrap (1 + (IntKind.i64.wrap s).tmod 100))).length = (Brn.rowV (IntKind.i64.wrap (1 + (IntKind.i64.wrap s).tmod 100))).length) && decide ((↑(Brn.rowV (IntKind.i64.wrap (1 + (IntKind.i64.wrap s).tmod 100))).length : Int) = (↑(Brn.rowV (IntKind.i64.wrap (1 + (IntKind.i64.wrap s).tmod 100))).length : Int)) && decide (1 ≤ (Brn.rowV (IntKind.i64.wrap (1 + (IntKind.i64.wrap s).tmod 100))).length) && decide ((Brn.rowV (IntKind.i64.wrap (1 + (IntKind.i64.wrap s).tmod 100))).length ≤ 100) && (Brn.rowV (IntKind.i64.wrap (1 + (IntKind.i64.wrap s).tmod 100))).all fun p => decide (0 ≤ p) && decide (p < IntKind.i64.wrap (1 + (IntKind.i64.wrap s).tmod 100)) then bif decide ((Brn.burnB (IntKind.i64.wrap (1 + (IntKind.i64.wrap s).tmod 100)).toNat (Brn.rowV (IntKind.i64.wrap (1 + (IntKind.i64.wrap s).tmod 100)))).length ≤ 100) then bif (Brn.burnB (IntKind.i64.wrap (1 + (IntKind.i64.wrap s).tmod 100)).toNat (Brn.rowV (IntKind.i64.wrap (1 + (IntKind.i64.wrap s).tmod 100)))).any fun x => false == x then some (vb false, []) else bif decide (1 ≤ IntKind.i64.wrap (1 + (IntKind.i64.wrap x).tmod 9)) && decide (IntKind.i64.wrap (1 + (IntKind.i64.wrap x).tmod 9) ≤ 9) then bif decide (IntKind.i64.wrap (1 + (IntKind.i64.wrap x).tmod 9) = 1) then bif Brn.rootE (IntKind.i64.wrap (1 + (IntKind.i64.wrap x).tmod 9)) != 0 then some (vb false, []) else bif Brn.chk (IntKind.i64.wrap (1 + (IntKind.i64.wrap x).tmod 9)) [] != 0 then some (vb false, []) else bif Brn.rootE (IntKind.i64.wrap (1 + (IntKind.i64.wrap x).tmod 9)) != 0 then some (vb false, []) else bif Brn.dayV (IntKind.i64.wrap (1 + (IntKind.i64.wrap x).tmod 9)) [] != Brn.rootV (IntKind.i64.wrap (1 + (IntKind.i64.wrap x).tmod 9)) then some (vb false, []) else bif sm ([] : List Int) && sm (Brn.rowV (IntKind.i64.wrap (1 + (IntKind.i64.wrap x).tmod 9))) then bif Brn.enoughV (IntKind.i64.wrap (1 + (IntKind.i64.wrap x).tmod 9)) [] (Brn.rowV (IntKind.i64.wrap (1 + (IntKind.i64.wrap x).tmod 9))) != 0 then some (vb false, []) else bif decide (IntKind.i64.wrap (1 + (IntKind.i64.wrap x).tmod 9) > 2) then bif Brn.chk (IntKind.i64.wrap (1 + (IntKind.i64.wrap x).tmod 9)) ([] ++ [(0, IntKind.i64.wrap (IntKind.i64.wrap (1 + (IntKind.i64.wrap x).tmod 9) - 1))]) == 0 then bif Brn.dayV (IntKind.i64.wrap (1 + (IntKind.i64.wrap x).tmod 9)) ([] ++ [(0, IntKind.i64.wrap (IntKind.i64.wrap (1 + (IntKind.i64.wrap x).tmod 9) - 1))]) == Brn.rootV (IntKind.i64.wrap (1 + (IntKind.i64.wrap x).tmod 9)) then bif sm ([] ++ [(0, IntKind.i64.wrap (IntKind.i64.wrap (1 + (IntKind.i64.wrap x).tmod 9) - 1))]) && sm (Brn.rowV (IntKind.i64.wrap (1 + (IntKind.i64.wrap x).tmod 9))) then bif Brn.enoughV (IntKind.i64.wrap (1 + (IntKind.i64.wrap x).tmod 9)) ([] ++ [(0, IntKind.i64.wrap (IntKind.i64.wrap (1 + (IntKind.i64.wrap x).tmod 9) - 1))]) (Brn.rowV (IntKind.i64.wrap (1 + (IntKind.i64.wrap x).tmod 9))) == 0 then some (vb true, []) else some (vb false, []) else none else some (vb false, []) else some (vb false, []) else some (vb true, []) else none else bif sm (Brn.rowW (IntKind.i64.wrap (1 + (IntKind.i64.wrap x).tmod 9)).toNat) then bif Brn.rootE (IntKind.i64.wrap (1 + (IntKind.i64.wrap x).tmod 9)) != 0 then some (vb false, []) else bif Brn.chk (IntKind.i64.wrap (1 + (IntKind.i64.wrap x).tmod 9)) (Brn.rowW (IntKind.i64.wrap (1 + (IntKind.i64.wrap x).tmod 9)).toNat) != 0 then some (vb false, []) else bif Brn.rootE (IntKind.i64.wrap (1 + (IntKind.i64.wrap x).tmod 9)) != 0 then some (vb false, []) else bif Brn.dayV (IntKind.i64.wrap (1 + (IntKind.i64.wrap x).tmod 9)) (Brn.rowW (IntKind.i64.wrap (1 + (IntKind.i64.wrap x).tmod 9)).toNat) != Brn.rootV (IntKind.i64.wrap (1 + (IntKind.i64.wrap x).tmod 9)) then some (vb false, []) else bif sm (Brn.rowW (IntKind.i64.wrap (1 + (IntKind.i64.wrap x).tmod 9)).toNat) && sm (Brn.rowV (IntKind.i64.wrap (1 + (IntKind.i64.wrap x).tmod 9))) then bif Brn.enoughV (IntKind.i64.wrap (1 + (IntKind.i64.wrap x).tmod 9)) (Brn.rowW (IntKind.i64.wrap (1 + (IntKind.i64.wrap x).tmod 9)).toNat) (Brn.rowV (IntKind.i64.wrap (1 + (IntKind.i64.wrap x).tmod 9))) != 0 then some (vb false, []) else bif decide (IntKind.i64.wrap (1 + (IntKind.i64.wrap x).tmod 9) > 2) then bif room (List.length (Brn.rowW (IntKind.i64.wrap (1 + (IntKind.i64.wrap x).tmod 9)).toNat) + 1) 16 then bif sm (Brn.rowW (IntKind.i64.wrap (1 + (IntKind.i64.wrap x).tmod 9)).toNat ++ [(0, IntKind.i64.wrap (IntKind.i64.wrap (1 + (IntKind.i64.wrap x).tmod 9) - 1))]) then bif Brn.chk (IntKind.i64.wrap (1 + (IntKind.i64.wrap x).tmod 9)) (Brn.rowW (IntKind.i64.wrap (1 + (IntKind.i64.wrap x).tmod 9)).toNat ++ [(0, IntKind.i64.wrap (IntKind.i64.wrap (1 + (IntKind.i64.wrap x).tmod 9) - 1))]) == 0 then bif Brn.dayV (IntKind.i64.wrap (1 + (IntKind.i64.wrap x).tmod 9)) (Brn.rowW (IntKind.i64.wrap (1 + (IntKind.i64.wrap x).tmod 9)).toNat ++ [(0, IntKind.i64.wrap (IntKind.i64.wrap (1 + (IntKind.i64.wrap x).tmod 9) - 1))]) == Brn.rootV (IntKind.i64.wrap (1 + (IntKind.i64.wrap x).tmod 9)) then bif sm (Brn.rowW (IntKind.i64.wrap (1 + (IntKind.i64.wrap x).tmod 9)).toNat ++ [(0, IntKind.i64.wrap (IntKind.i64.wrap (1 + (IntKind.i64.wrap x).tmod 9) - 1))]) && sm (Brn.rowV (IntKind.i64.wrap (1 + (IntKind.i64.wrap x).tmod 9))) then bif Brn.enoughV (IntKind.i64.wrap (1 + (IntKind.i64.wrap x).tmod 9)) (Brn.rowW (IntKind.i64.wrap (1 + (IntKind.i64.wrap x).tmod 9)).toNat ++ [(0, IntKind.i64.wrap (IntKind.i64.wrap (1 + (IntKind.i64.wrap x).tmod 9) - 1))]) (Brn.rowV (IntKind.i64.wrap (1 + (IntKind.i64.wrap x).tmod 9))) == 0 then some (vb true, []) else some (vb false, []) else none else some (vb false, []) else some (vb false, []) else none else none else some (vb true, []) else none else none else none else none else none else none else none else none) := by kernel_rfl
end Go.Ev.Burn
namespace Go.Ev.Burn
open Go Go.Ev
set_option maxRecDepth 1000000
set_option linter.unusedVariables false
set_option linter.unusedSimpArgs false
theorem RBT_ok : TabOK RBT := by
  have h := S25_ok
  have h := h.addLoop (g := 7) (lid := 8) (r := l7_8) fun b k H o k' H' hv => by refine LoopOK.tab ?_ ?_ ?_ ?_ (l7_8_run b k H o k' H' hv) <;> rfl
  have h := h.addCall (g := 48) (r := c48) fun a H v H' hv => by refine CallOK.tab ?_ ?_ (c48_run a H v H' hv) <;> rfl
  have h := h.addCall (g := 49) (r := c49) fun a H v H' hv => by refine CallOK.tab ?_ ?_ (c49_run a H v H' hv) <;> rfl
  have h := h.addCall (g := 44) (r := c44) fun a H v H' hv => by refine CallOK.tab ?_ ?_ (c44_run a H v H' hv) <;> rfl
  exact nestR_ok h
end Go.Ev.Burn
namespace Brn
open Go
theorem rowF {m : Nat} (h1 : 1 ≤ m) (h9 : m ≤ 9) : dayV (m : Int) (rowW m) = (rootN (m : Int) : Int) ∧ chk (m : Int) (rowW m) = 0 ∧ enoughV (m : Int) (rowW m) (rowV (m : Int)) = 0 := by
  have h := rows_days
  rw [List.all_eq_true] at h
  have h := h (m - 1) (List.mem_range.2 (by omega))
  rw [show m - 1 + 1 = m by omega] at h
  simp only [Bool.and_eq_true, beq_iff_eq] at h
  exact ⟨h.1.1, h.1.2, h.2⟩
theorem ringF {m : Nat} (h1 : 3 ≤ m) (h9 : m ≤ 9) : dayV (m : Int) (rowW m ++ [(0, (m : Int) - 1)]) = (rootN (m : Int) : Int) ∧ chk (m : Int) (rowW m ++ [(0, (m : Int) - 1)]) = 0 ∧ enoughV (m : Int) (rowW m ++ [(0, (m : Int) - 1)]) (rowV (m : Int)) = 0 := by
  have h := rings_days
  rw [List.all_eq_true] at h
  have h := h (m - 3) (List.mem_range.2 (by omega))
  rw [show m - 3 + 3 = m by omega] at h
  simp only [Bool.and_eq_true, beq_iff_eq] at h
  exact ⟨h.1.1, h.1.2, h.2⟩
theorem tmod_inR {a b : Int} (ha : 0 ≤ a) (hb : 0 < b) : 0 ≤ a.tmod b ∧ a.tmod b < b := by
  rw [Int.tmod_eq_emod_of_nonneg ha]
  exact ⟨Int.emod_nonneg _ (by omega), Int.emod_lt_of_pos _ hb⟩
theorem rowP_len (m : Int) (k : Nat) : (rowP m k).length = k := by simp [rowP]
theorem inR_100 {m : Int} (h1 : 1 ≤ m) (h2 : m ≤ 100) : inR m 1 100 = true := by unfold inR; rw [decide_eq_true h1, decide_eq_true h2]; rfl
end Brn
namespace Go.Ev.Burn
open Go Go.Ev
theorem sq_leR {k : Nat} (h : k ≤ 10) : k * k ≤ 100 := Nat.mul_le_mul h h
theorem root_body (s : Int) (rs : 0 ≤ s ∧ s < 256) (x : Int) (rx : 0 ≤ x ∧ x < 256) : evBody RBT 7 [vint .u8 s, vint .u8 x] [] = some (vb true, []) := by
  have t1 := Brn.tmod_inR rs.1 (show (0 : Int) < 100 by omega)
  have t2 := Brn.tmod_inR rx.1 (show (0 : Int) < 9 by omega)
  rw [nf7, wrapi (x := s) (by omega) (by omega), wrapi (x := x) (by omega) (by omega), wrapi (x := 1 + s.tmod 100) (by omega) (by omega), wrapi (x := 1 + x.tmod 9) (by omega) (by omega)]
  obtain ⟨N, hN⟩ : ∃ N : Nat, 1 + s.tmod 100 = (N : Int) := ⟨(1 + s.tmod 100).toNat, by omega⟩
  obtain ⟨M, hM⟩ : ∃ M : Nat, 1 + x.tmod 9 = (M : Int) := ⟨(1 + x.tmod 9).toNat, by omega⟩
  have n1 : 1 ≤ N ∧ N ≤ 100 := by omega
  have m1 : 1 ≤ M ∧ M ≤ 9 := by omega
  rw [hN, hM]
  have eN : Brn.rootE (N : Int) = 0 := by unfold Brn.rootE; rw [Brn.inR_100 (by omega) (by omega)]; rfl
  have vN : Brn.rootV (N : Int) = (Brn.rootN (N : Int) : Int) := by unfold Brn.rootV; rw [Brn.inR_100 (by omega) (by omega)]; rfl
  have rN : Brn.rowV (N : Int) = Brn.rowP (N : Int) (Brn.rootN (N : Int)) := by unfold Brn.rowV; rw [Brn.inR_100 (by omega) (by omega)]; rfl
  have eM : Brn.rootE (M : Int) = 0 := by unfold Brn.rootE; rw [Brn.inR_100 (by omega) (by omega)]; rfl
  have vM : Brn.rootV (M : Int) = (Brn.rootN (M : Int) : Int) := by unfold Brn.rootV; rw [Brn.inR_100 (by omega) (by omega)]; rfl
  have rM : (Brn.rowV (M : Int)).length ≤ 10 := by
    unfold Brn.rowV
    rw [Brn.inR_100 (by omega) (by omega)]
    rw [cond_true, Brn.rowP_len]
    exact (Brn.rootN_spec (m := (M : Int)) (by omega) (by omega)).2.1
  obtain ⟨k1, k2, k3, k4⟩ := Brn.rootN_spec (m := (N : Int)) (by omega) (by omega)
  obtain ⟨b1, b2⟩ := Brn.row_ok (m := (N : Int)) (by omega) (by omega)
  have k5 := k4 (Brn.rootN (N : Int) - 1) (by omega)
  have hl := Brn.rowP_len (N : Int) (Brn.rootN (N : Int))
  have hall : ((Brn.rowP (N : Int) (Brn.rootN (N : Int))).all fun p => decide (0 ≤ p) && decide (p < (N : Int))) = true := by
    rw [List.all_eq_true]
    intro p hp
    have := b1 p hp
    simp only [Bool.and_eq_true, decide_eq_true_eq]
    exact this
  rw [toNat_cast] at b2
  rw [vN, rN, vM]
  generalize Brn.rootN (N : Int) = k at *
  have q1 := sq_leR k2
  have q2 : ((k - 1 : Nat) : Int) = (k : Int) - 1 := by omega
  have q3 : ((k : Int) - 1) * ((k : Int) - 1) = (((k - 1) * (k - 1) : Nat) : Int) := by rw [Int.natCast_mul, q2]
  have q4 : (k : Int) * k = ((k * k : Nat) : Int) := by rw [Int.natCast_mul]
  have hany : ((List.replicate N true).any fun x => false == x) = false := by
    rw [List.any_eq_false]
    intro y hy
    rw [List.eq_of_mem_replicate hy]
    simp
  rw [wrapi (x := (k : Int) - 1) (by omega) (by omega), wrapi (x := (k : Int) * k) (by omega) (by omega), wrapi (x := ((k : Int) - 1) * ((k : Int) - 1)) (by omega) (by omega), wrapi (x := (M : Int) - 1) (by omega) (by omega)]
  have hNr : ((List.replicate N true).length ≤ 100) := by rw [List.length_replicate]; omega
  simp only [eN, eM, toNat_cast, hl, b2, hany, hall, bne_self_eq_false, beq_self_eq_true, cond_false, cond_true, Bool.and_self, decide_true, decide_eq_false (show ¬ (k : Int) < 1 by omega), decide_eq_false (show ¬ (k : Int) > 10 by omega), decide_eq_false (show ¬ (k : Int) * k < (N : Int) by omega), decide_eq_false (show ¬ ((k : Int) - 1) * ((k : Int) - 1) ≥ (N : Int) by omega), decide_eq_true (show (0 : Int) ≤ (N : Int) by omega), decide_eq_true (show (1 : Int) ≤ (N : Int) by omega), decide_eq_true (show (N : Int) ≤ 100 by omega), decide_eq_true (show 1 ≤ k by omega), decide_eq_true (show k ≤ 100 by omega), room_ok (show N ≤ 1000000 by omega) (show 1 ≤ 200 by omega), decide_eq_true hNr, decide_eq_true (show (1 : Int) ≤ (M : Int) by omega), decide_eq_true (show (M : Int) ≤ 9 by omega)]
  obtain ⟨r1, r2, r3⟩ := Brn.rowF m1.1 m1.2
  have sR : sm (Brn.rowV (M : Int)) = true := sm_of (k := 10) rM (by omega)
  have sW : sm (Brn.rowW M) = true := sm_of (k := 9) (by rw [rowW_len]; omega) (by omega)
  have sW2 : sm (Brn.rowW M ++ [(0, (M : Int) - 1)]) = true := sm_of (k := 10) (by rw [List.length_append, rowW_len, List.length_singleton]; omega) (by omega)
  have hroom : room ((Brn.rowW M).length + 1) 16 = true := room_ok (by rw [rowW_len]; omega) (by omega)
  have h2 : (decide ((M : Int) > 2) = true ∧ 3 ≤ M) ∨ (decide ((M : Int) > 2) = false) := by
    rcases Nat.lt_or_ge M 3 with h | h
    · exact .inr (decide_eq_false (by omega))
    · exact .inl ⟨decide_eq_true (by omega), h⟩
  by_cases hc : M = 1
  · subst hc
    have e0 : Brn.rowW 1 = [] := rfl
    rw [e0] at r1 r2 r3 sW
    have r1 : Brn.dayV 1 [] = (Brn.rootN 1 : Int) := r1
    simp only [show ((1 : Nat) : Int) = 1 from rfl] at *
    have sE : sm ([] : List Int) = true := rfl
    simp only [decide_true, cond_true, r1, r2, r3, sR, sE, bne_self_eq_false, cond_false, Bool.and_self, decide_eq_false (show ¬ (1 : Int) > 2 by omega)]
  · rw [decide_eq_false (show ¬ (M : Int) = 1 by omega)]
    simp only [cond_false, r1, r2, r3, sR, sW, sW2, bne_self_eq_false, cond_true, Bool.and_self]
    rcases h2 with ⟨h2, h3⟩ | h2
    · obtain ⟨p1, p2, p3⟩ := Brn.ringF h3 m1.2
      simp only [h2, cond_true, hroom, p1, p2, p3, sR, sW2, beq_self_eq_true, Bool.and_self]
    · simp only [h2, cond_false]
end Go.Ev.Burn
