/- More, walked. -/
import Derived.Test.YtfemekpcgieldaaTw
import Derived.Test.YtfemekpcgieldaaTj
set_option linter.unusedVariables false
set_option linter.unusedSimpArgs false
namespace Go.Ev.Clm
open Go Go.Ev
set_option maxRecDepth 1000000
set_option maxHeartbeats 0
set_option linter.unusedVariables false
set_option linter.unusedSimpArgs false
theorem moreB_get {cs l m : List Int} (h : Clm.moreB cs l m = true) : l.length = cs.length ∧ m.length = cs.length ∧ ∀ i : Nat, i < cs.length → Clm.at0 l i ≤ Clm.at0 m i := by
  unfold Clm.moreB at h
  simpa only [Bool.and_eq_true, decide_eq_true_eq, List.all_eq_true, List.mem_range, and_assoc] using h
theorem halfB_get {cs l : List Int} (h : Clm.halfB cs l = true) : l.length = cs.length ∧ ∀ i : Nat, i < cs.length → Clm.at0 l i = 60 * Clm.at0 cs i := by
  unfold Clm.halfB at h
  simpa only [Bool.and_eq_true, decide_eq_true_eq, List.all_eq_true, List.mem_range, beq_iff_eq] using h
theorem lensM_get {a b c d n : Nat} (h : Clm.lensM a b c d n = true) : a = n ∧ b = n ∧ c = n ∧ d = n := by
  unfold Clm.lensM at h
  simpa only [Bool.and_eq_true, decide_eq_true_eq, and_assoc] using h
theorem l14_29_run : ∀ base kv H o kv' H', (l14_29 base kv H).val = some (o, kv', H') → LoopOK TO1 14 29 base kv H o kv' H' := l14_29_ok TO1_ok (by kernel_rfl) (by
  intro cs a b c d e f g h p q t i n i2 k ka kb n2 n3 n4 n5 m2 m3 m4 m5 u2 v2 r hv
  obtain ⟨hl, hv2⟩ := guard_val hv
  simp only [Bool.and_eq_true, decide_eq_true_eq] at hl
  obtain ⟨⟨⟨⟨⟨⟨⟨⟨⟨⟨⟨rfl, rfl⟩, rfl⟩, x1⟩, x2⟩, h5⟩, r1⟩, r2⟩, r3⟩, r4⟩, hi0⟩, hi1⟩ := hl
  obtain ⟨rfl, rfl, rfl, rfl⟩ := lensM_get x1
  obtain ⟨rfl, rfl, rfl, rfl⟩ := lensM_get x2
  obtain ⟨i, rfl⟩ := Int.eq_ofNat_of_zero_le hi0
  have hi : i < cs.length := by omega
  obtain ⟨a1, b1, c1⟩ := moreB_get r1
  obtain ⟨a2, b2, c2⟩ := moreB_get r2
  obtain ⟨a3, b3, c3⟩ := moreB_get r3
  obtain ⟨a4, b4, c4⟩ := moreB_get r4
  have g1 := at_getM (l := c) (i := i) (by omega)
  have g2 := at_getM (l := d) (i := i) (by omega)
  have g3 := at_getM (l := e) (i := i) (by omega)
  have g4 := at_getM (l := f) (i := i) (by omega)
  have k1 := at_getM (l := g) (i := i) (by omega)
  have k2 := at_getM (l := h) (i := i) (by omega)
  have k3 := at_getM (l := p) (i := i) (by omega)
  have k4 := at_getM (l := q) (i := i) (by omega)
  have d1 := c1 i hi
  have d2 := c2 i hi
  have d3 := c3 i hi
  have d4 := c4 i hi
  refine ⟨6, ?_⟩
  rw [nr29]
  simp only [dec_lt hi, dec_ge, cond_true, toNat_cast, g1, g2, g3, g4, k1, k2, k3, k4, oM, decide_eq_false (show ¬ Clm.at0 g (i : Nat) < Clm.at0 c (i : Nat) by omega), decide_eq_false (show ¬ Clm.at0 h (i : Nat) < Clm.at0 d (i : Nat) by omega), decide_eq_false (show ¬ Clm.at0 p (i : Nat) < Clm.at0 e (i : Nat) by omega), decide_eq_false (show ¬ Clm.at0 q (i : Nat) < Clm.at0 f (i : Nat) by omega), cond_false]
  rw [leaf_val hv2])
theorem TM3_ok : TabOK TM3 := TO1_ok.addLoop fun b k H o k' H' hv => by refine LoopOK.tab ?_ ?_ ?_ ?_ (l14_29_run b k H o k' H' hv) <;> rfl
theorem l14_26_run : ∀ base kv H o kv' H', (l14_26 base kv H).val = some (o, kv', H') → LoopOK TM3 14 26 base kv H o kv' H' := l14_26_ok TM3_ok (by kernel_rfl) (by
  intro cs a b c d e f g h p q t n k ka kb n2 n3 n4 n5 m2 m3 m4 m5 u2 v2 r hv
  obtain ⟨hl, hv2⟩ := guard_val hv
  simp only [Bool.and_eq_true, decide_eq_true_eq] at hl
  obtain ⟨⟨⟨⟨⟨⟨⟨⟨⟨⟨⟨rfl, rfl⟩, rfl⟩, x1⟩, x2⟩, h5⟩, r1⟩, r2⟩, r3⟩, r4⟩, rfl⟩, r5⟩ := hl
  obtain ⟨a5, b5, c5⟩ := moreB_get r5
  obtain ⟨mm, hm⟩ := steps_of (T := TM3) (fid := 14) (lid := 26) (base := 0) (c := lpc TM3 14 26) cs.length (fun i => [.dead, osW 0 cs.length, ps 1, osV 2 cs.length true, ps 3, osV 4 cs.length true, vi cs.length, vi (i : Nat)])
    (fun _ => [some (rowI cs t), some (rCM [osV 5 n2 u2, osW 6 n3, osV 7 n4 true, osV 8 n5 true]), some (rowI a 3), some (rCM [osV 9 m2 v2, osW 10 m3, osV 11 m4 true, osV 12 m5 true]), some (rowI b 3), some (rowI c 3), some (rowI d 3), some (rowI e 3), some (rowI f 3), some (rowI g 3), some (rowI h 3), some (rowI p 3), some (rowI q 3)])
    (.ext 4, [.dead, osW 0 cs.length, ps 1, osV 2 cs.length true, ps 3, osV 4 cs.length true, vi cs.length, vi cs.length], [some (rowI cs t), some (rCM [osV 5 n2 u2, osW 6 n3, osV 7 n4 true, osV 8 n5 true]), some (rowI a 3), some (rCM [osV 9 m2 v2, osW 10 m3, osV 11 m4 true, osV 12 m5 true]), some (rowI b 3), some (rowI c 3), some (rowI d 3), some (rowI e 3), some (rowI f 3), some (rowI g 3), some (rowI h 3), some (rowI p 3), some (rowI q 3)])
    (fun i hi again => by
      have g1 := at_getM (l := a) (i := i) (by omega)
      have g2 := at_getM (l := b) (i := i) (by omega)
      have d1 := c5 i hi
      rw [nl14_26]
      simp only [dec_lt hi, dec_ge, cond_true, toNat_cast, g1, g2, oM, x1, x2, r1, r2, r3, r4, decide_eq_true h5, decide_true, Bool.and_self, decide_eq_false (show ¬ Clm.at0 b (i : Nat) < Clm.at0 a (i : Nat) by omega), cond_false]
      rw [wrap_succ (by omega)])
    (fun again => by
      rw [nl14_26]
      simp only [dec_ll, cond_false])
  exact ⟨mm, hm.trans (by rw [leaf_val hv2])⟩)
theorem l14_43_run : ∀ base kv H o kv' H', (l14_43 base kv H).val = some (o, kv', H') → LoopOK TO1 14 43 base kv H o kv' H' := l14_43_ok TO1_ok (by kernel_rfl) (by
  intro cs a b c d t n k n2 n3 n4 n5 u2 r hv
  obtain ⟨hl, hv2⟩ := guard_val hv
  simp only [Bool.and_eq_true, decide_eq_true_eq] at hl
  obtain ⟨⟨⟨⟨⟨⟨rfl, rfl⟩, x1⟩, h5⟩, hsb⟩, r1⟩, r2⟩ := hl
  obtain ⟨rfl, rfl, rfl, rfl⟩ := lensM_get x1
  obtain ⟨a1, c1⟩ := halfB_get r1
  obtain ⟨a2, c2⟩ := halfB_get r2
  obtain ⟨mm, hm⟩ := steps_of (T := TO1) (fid := 14) (lid := 43) (base := 0) (c := lpc TO1 14 43) cs.length (fun i => [.dead, ps 0, osW 1 cs.length, vi cs.length, vi (i : Nat)])
    (fun _ => [some (rCM [osV 2 cs.length u2, osW 3 cs.length, osV 4 cs.length true, osV 5 cs.length true]), some (rowI cs t), some (rowI a 3), some (rowI b 3), some (rowI c 3), some (rowI d 3)])
    (.ext 8, [.dead, ps 0, osW 1 cs.length, vi cs.length, vi cs.length], [some (rCM [osV 2 cs.length u2, osW 3 cs.length, osV 4 cs.length true, osV 5 cs.length true]), some (rowI cs t), some (rowI a 3), some (rowI b 3), some (rowI c 3), some (rowI d 3)])
    (fun i hi again => by
      have g1 := at_getM (l := a) (i := i) (by omega)
      have g2 := at_getM (l := d) (i := i) (by omega)
      have g0 := at_getM (l := cs) (i := i) (by omega)
      have b0 := Clm.sb_get hsb (List.mem_of_getElem? g0)
      rw [nl14_43]
      simp only [dec_lt hi, dec_ge, cond_true, toNat_cast, g0, g1, g2, oM]
      rw [wrapi (x := 60 * Clm.at0 cs (i : Nat)) (by omega) (by omega), c1 i hi, c2 i hi]
      simp only [bne_self_eq_false, cond_false]
      rw [wrap_succ (by omega)])
    (fun again => by
      rw [nl14_43]
      simp only [dec_ll, cond_false])
  exact ⟨mm, hm.trans (by rw [leaf_val hv2])⟩)
theorem TM2_ok (W : Int) (C : List Int) : TabOK (TM2 W C) := by
  have h := TO1_ok
  have h := h.addCall (g := 45) (r := c45m) fun a H v H' hv => by refine CallOK.tab ?_ ?_ (c45m_run a H v H' hv) <;> rfl
  have h := h.addCall (g := 38) (r := c38v W C) fun a H v H' hv => by refine CallOK.tab ?_ ?_ (c38v_run W C a H v H' hv) <;> rfl
  have h := h.addCall (g := 28) (r := c28u) fun a H v H' hv => by refine CallOK.tab ?_ ?_ (c28u_run a H v H' hv) <;> rfl
  have h := h.addLoop (g := 14) (lid := 5) (r := l14_5) fun b k H o k' H' hv => by refine LoopOK.tab ?_ ?_ ?_ ?_ (l14_5_run b k H o k' H' hv) <;> rfl
  have h := h.addLoop (g := 14) (lid := 10) (r := l14_10) fun b k H o k' H' hv => by refine LoopOK.tab ?_ ?_ ?_ ?_ (l14_10_run b k H o k' H' hv) <;> rfl
  exact h
theorem TM4_ok (W : Int) (C : List Int) : TabOK (TM4 W C) := by
  have h := TM2_ok W C
  have h := h.addLoop (g := 14) (lid := 26) (r := l14_26) fun b k H o k' H' hv => by refine LoopOK.tab ?_ ?_ ?_ ?_ (l14_26_run b k H o k' H' hv) <;> rfl
  have h := h.addLoop (g := 14) (lid := 43) (r := l14_43) fun b k H o k' H' hv => by refine LoopOK.tab ?_ ?_ ?_ ?_ (l14_43_run b k H o k' H' hv) <;> rfl
  exact h
end Go.Ev.Clm
