/- Ranked, walked. -/
import Derived.Test.YtfemekpcgieldaaTp
import Derived.Test.YtfemekpcgieldaaSh
set_option linter.unusedVariables false
set_option linter.unusedSimpArgs false
namespace Go.Ev.Clm
open Go Go.Ev
set_option maxRecDepth 1000000
set_option maxHeartbeats 0
set_option linter.unusedVariables false
set_option linter.unusedSimpArgs false
theorem TR0_ok (W : Int) (C : List Int) : TabOK (TR0 W C) := by
  have h := TO1_ok
  have h := h.addCall (g := 45) (r := c45u) fun a H v H' hv => by refine CallOK.tab ?_ ?_ (c45u_run a H v H' hv) <;> rfl
  have h := h.addCall (g := 38) (r := c38v W C) fun a H v H' hv => by refine CallOK.tab ?_ ?_ (c38v_run W C a H v H' hv) <;> rfl
  exact h
theorem ord4_get {a b c d : Nat} (h : Clm.ord4 a b c d = true) : [a, b, c, d] = [3, 4, 5, 6] ∨ [a, b, c, d] = [4, 3, 5, 6] ∨ [a, b, c, d] = [4, 5, 3, 6] ∨ [a, b, c, d] = [4, 5, 6, 3] := by
  unfold Clm.ord4 at h
  simp only [Bool.or_eq_true, decide_eq_true_eq] at h
  rcases h with ((h | h) | h) | h
  · exact .inl h
  · exact .inr (.inl h)
  · exact .inr (.inr (.inl h))
  · exact .inr (.inr (.inr h))
theorem rankB_get {cs l : List Int} (h : Clm.rankB cs l = true) : l.length = cs.length ∧ Clm.sb l = true ∧ ∀ i j : Nat, i < cs.length → j < cs.length → (bif decide (Clm.at0 cs i ≥ Clm.at0 cs j) then decide (Clm.at0 l j ≤ Clm.at0 l i) && decide (120 * Clm.at0 cs j - Clm.at0 l j ≤ 120 * Clm.at0 cs i - Clm.at0 l i) else true) = true := by
  unfold Clm.rankB at h
  simp only [Bool.and_eq_true, decide_eq_true_eq, List.all_eq_true, List.mem_range] at h
  exact ⟨h.1.1, h.1.2, fun i j hi hj => h.2 i hi j hj⟩
theorem l9_12_run : ∀ base kv H o kv' H', (l9_12 base kv H).val = some (o, kv', H') → LoopOK TO1 9 12 base kv H o kv' H' := l9_12_ok TO1_ok (by kernel_rfl) (by
  intro bs cs a b c d t ta tb tc td w i x q m1 p n k n1 k2 k3 u1 a1 a2 a3 a4 b1 b2 b3 b4 n2 n3 n4 n5 m2 m3 m4 m5 u2 u3 u4 u5 v2 v3 v4 v5 r hv
  obtain ⟨hl, hv2⟩ := guard_val hv
  simp only [Bool.and_eq_true, decide_eq_true_eq] at hl
  obtain ⟨⟨⟨⟨⟨⟨⟨⟨⟨⟨hb, ho⟩, rfl⟩, rfl⟩, rfl⟩, h5⟩, hsb⟩, hi0⟩, hi1⟩, rfl⟩, hR⟩ := hl
  obtain ⟨i, rfl⟩ := Int.eq_ofNat_of_zero_le hi0
  have hi : i < cs.length := by omega
  obtain ⟨hal, has, hr⟩ := rankB_get hR
  obtain ⟨g1, m1⟩ := at0_get (l := a) (i := (i : Int)) (by omega) (by omega)
  obtain ⟨g0, m0⟩ := at0_get (l := cs) (i := (i : Int)) (by omega) (by omega)
  have d1 := Clm.sb_get has m1
  have d0 := Clm.sb_get hsb m0
  rw [toNat_cast] at g1 g0
  injection hb with e1 hb
  injection hb with e2 hb
  injection hb with e3 hb
  injection hb with e4 hb
  subst e1 e2 e3 e4
  have run : ∀ (kvf : Int → List AV) (H : Hp) (R : List AV), (∀ (again : Ag) (j : Nat), j < cs.length → lpStep TO1 9 12 0 (lpc TO1 9 12) again (kvf j) H = again (kvf (j + 1 : Nat)) H) → (∀ again : Ag, lpStep TO1 9 12 0 (lpc TO1 9 12) again (kvf cs.length) H = some (.ext 4, R, H)) → ∃ mm, lpRun TO1 9 12 0 (lpc TO1 9 12) mm (kvf (0 : Nat)) H = some (.ext 4, R, H) := fun kvf H R h1 h2 =>
    steps_of (T := TO1) (fid := 9) (lid := 12) (base := 0) (c := lpc TO1 9 12) cs.length (fun j => kvf (j : Nat)) (fun _ => H) (.ext 4, R, H) (fun j hj again => h1 again j hj) (fun again => h2 again)
  rw [leaf_val hv2]
  rcases ord4_get ho with h | h | h | h <;> (
    injection h with e1 h
    injection h with e2 h
    injection h with e3 h
    injection h with e4 h
    subst e1 e2 e3 e4
    refine run (fun j => [ps 0, vb false, vi w, osW 1 k, ps 2, osV 3 cs.length u1, vi i, vi (Clm.at0 cs i), .agg [_, _, _, _] true, vi q, osW 1 k2, vi _, vi p, osW 1 cs.length, vi cs.length, vi j]) _ _ (fun again j hj => ?_) (fun again => ?_)
    · obtain ⟨g2, m2⟩ := at0_get (l := a) (i := (j : Int)) (by omega) (by omega)
      obtain ⟨g3, m3⟩ := at0_get (l := cs) (i := (j : Int)) (by omega) (by omega)
      have d2 := Clm.sb_get has m2
      have d3 := Clm.sb_get hsb m3
      rw [toNat_cast] at g2 g3
      have hij := hr i j hi hj
      first | rw [nl12_0] | rw [nl12_1] | rw [nl12_2] | rw [nl12_3]
      simp only [dec_lt hj, dec_lt hi, dec_ge, cond_true, toNat_cast, g0, g1, g2, g3, oM]
      cases hc : decide (Clm.at0 cs i ≥ Clm.at0 cs j) with
      | true =>
        rw [hc] at hij
        simp only [cond_true, Bool.and_eq_true, decide_eq_true_eq] at hij
        rw [wrapi (x := 120 * Clm.at0 cs i) (by omega) (by omega), wrapi (x := 120 * Clm.at0 cs j) (by omega) (by omega), wrapi (x := 120 * Clm.at0 cs i - Clm.at0 a i) (by omega) (by omega), wrapi (x := 120 * Clm.at0 cs j - Clm.at0 a j) (by omega) (by omega)]
        simp only [cond_true, decide_eq_false (show ¬ Clm.at0 a i < Clm.at0 a j by omega), decide_eq_false (show ¬ 120 * Clm.at0 cs i - Clm.at0 a i < 120 * Clm.at0 cs j - Clm.at0 a j by omega), cond_false]
        rw [wrap_succ (by omega)]
      | false =>
        simp only [cond_false]
        rw [wrap_succ (by omega)]
    · first | rw [nl12_0] | rw [nl12_1] | rw [nl12_2] | rw [nl12_3]
      simp only [dec_ll, cond_false]))
end Go.Ev.Clm
namespace Go.Ev.Clm
open Go Go.Ev
set_option maxRecDepth 1000000
set_option maxHeartbeats 0
set_option linter.unusedVariables false
set_option linter.unusedSimpArgs false
theorem TR1_ok : TabOK TR1 := TO1_ok.addLoop fun b k H o k' H' hv => by refine LoopOK.tab ?_ ?_ ?_ ?_ (l9_12_run b k H o k' H' hv) <;> rfl
theorem l9_9_run : ∀ base kv H o kv' H', (l9_9 base kv H).val = some (o, kv', H') → LoopOK TR1 9 9 base kv H o kv' H' := l9_9_ok TR1_ok (by kernel_rfl) (by
  intro bs cs a b c d t ta tb tc td w q n k n1 k2 u1 a1 a2 a3 a4 b1 b2 b3 b4 n2 n3 n4 n5 m2 m3 m4 m5 u2 u3 u4 u5 v2 v3 v4 v5 r hv
  obtain ⟨hl, hv2⟩ := guard_val hv
  simp only [Bool.and_eq_true, decide_eq_true_eq] at hl
  obtain ⟨⟨⟨⟨⟨⟨⟨⟨hb, ho⟩, rfl⟩, rfl⟩, rfl⟩, rfl⟩, h5⟩, hsb⟩, hR⟩ := hl
  injection hb with e1 hb
  injection hb with e2 hb
  injection hb with e3 hb
  injection hb with e4 hb
  subst e1 e2 e3 e4
  have run : ∀ (kvf : Int → List AV) (H : Hp) (R : List AV), (∀ (again : Ag) (j : Nat), j < cs.length → lpStep TR1 9 9 0 (lpc TR1 9 9) again (kvf j) H = again (kvf (j + 1 : Nat)) H) → (∀ again : Ag, lpStep TR1 9 9 0 (lpc TR1 9 9) again (kvf cs.length) H = some (.ext 2, R, H)) → ∃ mm, lpRun TR1 9 9 0 (lpc TR1 9 9) mm (kvf (0 : Nat)) H = some (.ext 2, R, H) := fun kvf H R h1 h2 =>
    steps_of (T := TR1) (fid := 9) (lid := 9) (base := 0) (c := lpc TR1 9 9) cs.length (fun j => kvf (j : Nat)) (fun _ => H) (.ext 2, R, H) (fun j hj again => h1 again j hj) (fun again => h2 again)
  rw [leaf_val hv2]
  rcases ord4_get ho with h | h | h | h <;> (
    injection h with e1 h
    injection h with e2 h
    injection h with e3 h
    injection h with e4 h
    subst e1 e2 e3 e4
    refine run (fun j => [ps 0, vb false, vi w, osW 1 cs.length, ps 2, osV 3 cs.length u1, .agg [_, _, _, _] true, vi q, osW 1 cs.length, vi cs.length, vi j]) _ _ (fun again j hj => ?_) (fun again => ?_)
    · obtain ⟨g3, m3⟩ := at0_get (l := cs) (i := (j : Int)) (by omega) (by omega)
      rw [toNat_cast] at g3
      first | rw [nl9_0] | rw [nl9_1] | rw [nl9_2] | rw [nl9_3]
      simp only [dec_lt hj, dec_ge, cond_true, toNat_cast, g3, oM, decide_true, ho, decide_eq_true h5, hsb, hR, Bool.and_self]
      rw [wrap_succ (by omega)]
    · first | rw [nl9_0] | rw [nl9_1] | rw [nl9_2] | rw [nl9_3]
      simp only [dec_ll, cond_false]))
theorem TR2_ok : TabOK TR2 := TR1_ok.addLoop fun b k H o k' H' hv => by refine LoopOK.tab ?_ ?_ ?_ ?_ (l9_9_run b k H o k' H' hv) <;> rfl
theorem l9_6_run : ∀ base kv H o kv' H', (l9_6 base kv H).val = some (o, kv', H') → LoopOK TR2 9 6 base kv H o kv' H' := l9_6_ok TR2_ok (by kernel_rfl) (by
  intro bs cs a b c d t ta tb tc td w k n2 n3 n4 n5 m2 m3 m4 m5 u2 u3 u4 u5 v2 v3 v4 v5 r hv
  obtain ⟨hl, hv2⟩ := guard_val hv
  simp only [Bool.and_eq_true, decide_eq_true_eq] at hl
  obtain ⟨⟨⟨⟨⟨⟨⟨⟨⟨⟨rfl, rfl⟩, rfl⟩, rfl⟩, rfl⟩, h5⟩, hsb⟩, r1⟩, r2⟩, r3⟩, r4⟩ := hl
  refine ⟨6, ?_⟩
  rw [nr6]
  simp only [decide_true, decide_eq_true h5, hsb, r1, r2, r3, r4, Bool.and_self, cond_true, show Clm.ord4 3 4 5 6 = true from rfl, show Clm.ord4 4 3 5 6 = true from rfl, show Clm.ord4 4 5 3 6 = true from rfl, show Clm.ord4 4 5 6 3 = true from rfl]
  rw [leaf_val hv2])
theorem at_get {l : List Int} {i : Nat} (h : i < l.length) : l[i]? = some (Clm.at0 l (i : Nat)) := by
  have := (at0_get (l := l) (i := (i : Int)) (by omega) (by omega)).1
  rwa [toNat_cast] at this
theorem of_u8 {l : List Int} (h : Clm.u8B l = true) : ∀ x ∈ l, 0 ≤ x ∧ x < 256 := by
  unfold Clm.u8B at h
  simpa only [List.all_eq_true, Bool.and_eq_true, decide_eq_true_eq] using h
theorem l9_22_run : ∀ base kv H o kv' H', (l9_22 base kv H).val = some (o, kv', H') → LoopOK TO1 9 22 base kv H o kv' H' := l9_22_ok TO1_ok (by kernel_rfl) (by
  intro bs cs fr a b c d ta tb tc td w nn k n n2 n3 n4 n5 u2 u3 u4 u5 r hv
  obtain ⟨hl, hv2⟩ := guard_val hv
  simp only [Bool.and_eq_true, decide_eq_true_eq] at hl
  obtain ⟨⟨⟨⟨⟨⟨rfl, rfl⟩, rfl⟩, hfr⟩, h5⟩, hb5⟩, hb⟩ := hl
  obtain rfl := of_decide_eq_true hfr
  have hb := of_u8 hb
  have l1 := Clm.rkO_len bs cs
  have l2 := Clm.rkF_len bs cs.length
  obtain ⟨mm, hm⟩ := steps_of (T := TO1) (fid := 9) (lid := 22) (base := 0) (c := lpc TO1 9 22) cs.length (fun i => [ps 0, vi w, ps 1, osW 2 cs.length, .os 3 0 0 cs.length true true true, vi cs.length, vi (i : Nat)]) (fun i => [some (rBy bs), some (rC [osV 4 n2 u2, osV 5 n3 u3, osV 6 n4 u4, osV 7 n5 u5]), some (rowI (Clm.rkO bs cs i) 3), some (rowI (Clm.rkF bs cs.length i) 3), some (rowI a ta), some (rowI b tb), some (rowI c tc), some (rowI d td)])
    (.ext 6, [ps 0, vi w, ps 1, osW 2 cs.length, .os 3 0 0 cs.length true true true, vi cs.length, vi cs.length], [some (rBy bs), some (rC [osV 4 n2 u2, osV 5 n3 u3, osV 6 n4 u4, osV 7 n5 u5]), some (rowI (Clm.rkO bs cs cs.length) 3), some (rowI (Clm.rkF bs cs.length cs.length) 3), some (rowI a ta), some (rowI b tb), some (rowI c tc), some (rowI d td)])
    (fun i hi again => by
      have hk := Clm.rkK_le (fun x hx => (hb x hx).1) i
      have q1 := l1 i
      have q2 := l2 i
      have gb := at_get (l := bs) (i := i) (by omega)
      have bb := hb _ (List.mem_of_getElem? gb)
      have g0 := at_get (l := Clm.rkF bs cs.length i) (i := i) (by omega)
      have g1 := at_get (l := Clm.rkO bs cs i) (i := Clm.rkK bs i) (by omega)
      have g2 := at_get (l := Clm.rkO bs cs i) (i := i) (by omega)
      have g3 := at_get (l := (Clm.rkO bs cs i).set i (Clm.at0 (Clm.rkO bs cs i) (Clm.rkK bs i : Nat))) (i := Clm.rkK bs i) (by rw [List.length_set]; omega)
      have g4 := at_get (l := (Clm.rkF bs cs.length i).set i (i : Nat)) (i := Clm.rkK bs i) (by rw [List.length_set]; omega)
      have g5 := at_get (l := (Clm.rkF bs cs.length i).set i (i : Nat)) (i := i) (by rw [List.length_set]; omega)
      have g6 := at_get (l := ((Clm.rkF bs cs.length i).set i (i : Nat)).set i (Clm.at0 ((Clm.rkF bs cs.length i).set i (i : Nat)) (Clm.rkK bs i : Nat))) (i := Clm.rkK bs i) (by rw [List.length_set, List.length_set]; omega)
      have hK : (Clm.at0 bs (i : Nat)).tmod ((i + 1 : Nat) : Int) = (Clm.rkK bs i : Nat) := by
        have := Clm.tmod_in bb.1 (show 0 < ((i + 1 : Nat) : Int) by omega)
        have e : Clm.rkK bs i = ((Clm.at0 bs i).tmod ((i + 1 : Nat) : Int)).toNat := rfl
        omega
      have e := nl22 again bs (Clm.rkO bs cs i) (Clm.rkF bs cs.length i) a b c d ta tb tc td w cs.length (i : Nat) cs.length n2 n3 n4 n5 u2 u3 u4 u5
      rw [q1] at e
      rw [e, wrap_succ (by omega)]
      simp only [dec_lt hi, dec_ge, cond_true, toNat_cast, g0, gb, oM, Nat.add_zero, decide_eq_true (show (i : Int) < ((5 : Nat) : Int) by omega), decide_eq_true (show (i : Int) < 5 by omega), decide_eq_false (show ¬ ((i + 1 : Nat) : Int) = 0 by omega), Bool.not_false]
      rw [wrapi (x := Clm.at0 bs (i : Nat)) (by omega) (by omega), hK]
      simp only [dec_lt (show Clm.rkK bs i < cs.length by omega), dec_lt hi, dec_ge, cond_true, toNat_cast, g1, g2, g3, g4, g5, g6, oM]
      rfl)
    (fun again => by
      have e := nl22 again bs (Clm.rkO bs cs cs.length) (Clm.rkF bs cs.length cs.length) a b c d ta tb tc td w cs.length (cs.length : Nat) cs.length n2 n3 n4 n5 u2 u3 u4 u5
      rw [l1] at e
      rw [e]
      simp only [dec_ll, cond_false])
  exact ⟨mm, hm.trans (by rw [leaf_val hv2])⟩)
theorem fromL_get {fr l m : List Int} (h : Clm.fromL fr l m = true) : l.length = fr.length ∧ m.length = fr.length ∧ ∀ i : Nat, i < fr.length → ∃ y : Nat, y < l.length ∧ Clm.at0 fr i = (y : Int) ∧ Clm.at0 m i = Clm.at0 l (y : Nat) := by
  unfold Clm.fromL Clm.fromB at h
  simp only [Bool.and_eq_true, decide_eq_true_eq, List.all_eq_true, List.mem_range, beq_iff_eq] at h
  refine ⟨h.1.1, h.1.2, fun i hi => ?_⟩
  obtain ⟨⟨⟨h1, h2⟩, h3⟩, h4⟩ := h.2 i hi
  obtain ⟨y, hy⟩ := Int.eq_ofNat_of_zero_le h1
  exact ⟨y, by omega, hy, by rw [h4, hy]⟩
theorem l9_36_run : ∀ base kv H o kv' H', (l9_36 base kv H).val = some (o, kv', H') → LoopOK TO1 9 36 base kv H o kv' H' := l9_36_ok TO1_ok (by kernel_rfl) (by
  intro fr a b c d e f g h ta tb tc td te tf tg th k k2 n z z2 n2 n3 n4 n5 m2 m3 m4 m5 u2 u3 u4 u5 v2 v3 v4 v5 r hv
  obtain ⟨hl, hv2⟩ := guard_val hv
  simp only [Bool.and_eq_true, decide_eq_true_eq] at hl
  obtain ⟨⟨⟨⟨⟨⟨⟨hk0, hk4⟩, rfl⟩, rfl⟩, h5⟩, x1⟩, x2⟩, hF⟩ := hl
  unfold Clm.lens4 at x1 x2
  simp only [Bool.and_eq_true, decide_eq_true_eq] at x1 x2
  obtain ⟨⟨⟨rfl, rfl⟩, rfl⟩, rfl⟩ := x1
  obtain ⟨⟨⟨rfl, rfl⟩, rfl⟩, rfl⟩ := x2
  have run : ∀ (kvf : Int → List AV) (H : Hp) (R : List AV), (∀ (again : Ag) (j : Nat), j < fr.length → lpStep TO1 9 36 0 (lpc TO1 9 36) again (kvf j) H = again (kvf (j + 1 : Nat)) H) → (∀ again : Ag, lpStep TO1 9 36 0 (lpc TO1 9 36) again (kvf fr.length) H = some (.ext 10, R, H)) → ∃ mm, lpRun TO1 9 36 0 (lpc TO1 9 36) mm (kvf (0 : Nat)) H = some (.ext 10, R, H) := fun kvf H R h1 h2 =>
    steps_of (T := TO1) (fid := 9) (lid := 36) (base := 0) (c := lpc TO1 9 36) fr.length (fun j => kvf (j : Nat)) (fun _ => H) (.ext 10, R, H) (fun j hj again => h1 again j hj) (fun again => h2 again)
  rw [leaf_val hv2]
  have p0 : ∀ a b c d : List Int, Clm.pickI 0 a b c d = a := fun _ _ _ _ => rfl
  have p1 : ∀ a b c d : List Int, Clm.pickI 1 a b c d = b := fun _ _ _ _ => rfl
  have p2 : ∀ a b c d : List Int, Clm.pickI 2 a b c d = c := fun _ _ _ _ => rfl
  have p3 : ∀ a b c d : List Int, Clm.pickI 3 a b c d = d := fun _ _ _ _ => rfl
  obtain rfl | rfl | rfl | rfl : k = 0 ∨ k = 1 ∨ k = 2 ∨ k = 3 := by omega
  all_goals (
    simp only [p0, p1, p2, p3] at hF
    obtain ⟨hla, hlm, hF⟩ := fromL_get hF
    refine run (fun j => [.dead, ps 0, .os 1 0 0 z true true true, ps 2, vi _, vi k2, .os 1 0 0 fr.length true true true, vi fr.length, vi j]) _ _ (fun again j hj => ?_) (fun again => ?_)
    · obtain ⟨y, hy, e1, e2⟩ := hF j hj
      have g0 := at_get hj
      have g1 := at_get hy
      have hj2 := hj
      rw [← hlm] at hj2
      have g2 := at_get hj2
      first | rw [nl36_0] | rw [nl36_1] | rw [nl36_2] | rw [nl36_3]
      simp only [dec_lt hj, dec_ge, cond_true, toNat_cast, g0, g2, oM, e1, dec_lt (show y < fr.length by omega), g1, e2, bne_self_eq_false, cond_false]
      rw [wrap_succ (by omega)]
    · first | rw [nl36_0] | rw [nl36_1] | rw [nl36_2] | rw [nl36_3]
      simp only [dec_ll, cond_false]))
theorem TR3_ok : TabOK TR3 := TO1_ok.addLoop fun b k H o k' H' hv => by refine LoopOK.tab ?_ ?_ ?_ ?_ (l9_36_run b k H o k' H' hv) <;> rfl
theorem l9_33_run : ∀ base kv H o kv' H', (l9_33 base kv H).val = some (o, kv', H') → LoopOK TR3 9 33 base kv H o kv' H' := l9_33_ok TR3_ok (by kernel_rfl) (by
  intro fr a b c d e f g h ta tb tc td te tf tg th z n2 n3 n4 n5 m2 m3 m4 m5 u2 u3 u4 u5 v2 v3 v4 v5 r hv
  obtain ⟨hl, hv2⟩ := guard_val hv
  simp only [Bool.and_eq_true, decide_eq_true_eq] at hl
  obtain ⟨⟨⟨⟨⟨⟨⟨rfl, h5⟩, x1⟩, x2⟩, r1⟩, r2⟩, r3⟩, r4⟩ := hl
  refine ⟨6, ?_⟩
  rw [nr33]
  have w1 : IntKind.i64.wrap (0 + 1) = 1 := rfl
  have w2 : IntKind.i64.wrap (1 + 1) = 2 := rfl
  have w3 : IntKind.i64.wrap (2 + 1) = 3 := rfl
  rw [w1, w2, w3]
  have p0 : ∀ a b c d : List Int, Clm.pickI 0 a b c d = a := fun _ _ _ _ => rfl
  have p1 : ∀ a b c d : List Int, Clm.pickI 1 a b c d = b := fun _ _ _ _ => rfl
  have p2 : ∀ a b c d : List Int, Clm.pickI 2 a b c d = c := fun _ _ _ _ => rfl
  have p3 : ∀ a b c d : List Int, Clm.pickI 3 a b c d = d := fun _ _ _ _ => rfl
  rw [p0, p0, p1, p1, p2, p2, p3, p3]
  simp only [decide_true, decide_eq_true h5, x1, x2, r1, r2, r3, r4, Bool.and_self, cond_true, decide_eq_true (show (0 : Int) ≤ 0 by omega), decide_eq_true (show (0 : Int) ≤ 1 by omega), decide_eq_true (show (0 : Int) ≤ 2 by omega), decide_eq_true (show (0 : Int) ≤ 3 by omega), decide_eq_true (show (0 : Nat) ≤ 0 by omega), decide_eq_true (show (0 : Nat) < 4 by omega), decide_eq_true (show (0 : Int) < 4 by omega), decide_eq_true (show (1 : Int) < 4 by omega), decide_eq_true (show (2 : Int) < 4 by omega), decide_eq_true (show (3 : Int) < 4 by omega)]
  rw [leaf_val hv2])
theorem TR4_ok (W : Int) (C : List Int) : TabOK (TR4 W C) := by
  have h := TR0_ok W C
  have h := h.addLoop (g := 9) (lid := 6) (r := l9_6) fun b k H o k' H' hv => by refine LoopOK.tab ?_ ?_ ?_ ?_ (l9_6_run b k H o k' H' hv) <;> rfl
  have h := h.addLoop (g := 9) (lid := 22) (r := l9_22) fun b k H o k' H' hv => by refine LoopOK.tab ?_ ?_ ?_ ?_ (l9_22_run b k H o k' H' hv) <;> rfl
  have h := h.addLoop (g := 9) (lid := 33) (r := l9_33) fun b k H o k' H' hv => by refine LoopOK.tab ?_ ?_ ?_ ?_ (l9_33_run b k H o k' H' hv) <;> rfl
  exact h
end Go.Ev.Clm
