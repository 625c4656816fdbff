/- Queued, walked. -/
import Derived.Test.YtfemekpcgieldaaTs
set_option linter.unusedVariables false
set_option linter.unusedSimpArgs false
namespace Go.Ev.Clm
open Go Go.Ev
set_option maxRecDepth 1000000
set_option linter.unusedVariables false
set_option linter.unusedSimpArgs false
theorem TU0_ok : TabOK TU0 :=
  ⟨fun f a H v H' hv => by refine CallOK.tab ?_ ?_ (TO1_ok.calls f a H v H' hv) <;> rfl, fun f l b k H o k' H' hv => by refine LoopOK.tab ?_ ?_ ?_ ?_ (TO1_ok.loops f l b k H o k' H' hv) <;> rfl, TO1_ok.fns, TO1_ok.mixed⟩
theorem l72_2_run : ∀ base kv H o kv' H', (l72_2 base kv H).val = some (o, kv', H') → LoopOK TU0 72 2 base kv H o kv' H' := l72_2_ok TU0_ok (by kernel_rfl) (by
  intro l v n r hv
  obtain ⟨hl, hv2⟩ := guard_val hv
  simp only [Bool.and_eq_true, decide_eq_true_eq] at hl
  obtain ⟨rfl, hs⟩ := hl
  have hs := sm_le hs
  obtain ⟨mm, hm⟩ := scan_of (T := TU0) (fid := 72) (lid := 2) (base := 0) (c := lpc TU0 72 2) l (fun x => v == x) (fun i => [lI l, vi v, vi 0, vi l.length, vi i]) [] (fun i => (.ret, [lI l, vi v, vi (i : Nat), vi l.length, vi (i : Nat)], [])) (.ext 0, [lI l, vi v, vi 0, vi l.length, vi l.length], [])
    (fun i x hx hi again => by
      rw [nl72]
      simp only [dec_lt hi, dec_ge, cond_true, toNat_cast, hx, oM]
      rw [wrap_succ (by omega)])
    (fun again => by
      rw [nl72]
      simp only [dec_ll, cond_false])
  have e1 : (l.any fun x => v == x) = Clm.has l v := by
    unfold Clm.has
    congr 1
    funext x
    rw [Bool.eq_iff_iff, beq_iff_eq, beq_iff_eq]
    exact eq_comm
  have e2 : (l.findIdx fun x => v == x) = l.findIdx fun x => x == v := by
    congr 1
    funext x
    rw [Bool.eq_iff_iff, beq_iff_eq, beq_iff_eq]
    exact eq_comm
  rw [e1, e2] at hm
  refine ⟨mm, hm.trans ?_⟩
  unfold Clm.idxI at hv2
  rcases br_val hv2 with ⟨h, hv⟩ | ⟨h, hv⟩
  · rw [h] at hv ⊢
    rw [leaf_val hv]; rfl
  · rw [h, leaf_val hv]; rfl)
theorem TU1_ok : TabOK TU1 := TU0_ok.addLoop fun b k H o k' H' hv => by refine LoopOK.tab ?_ ?_ ?_ ?_ (l72_2_run b k H o k' H' hv) <;> rfl
theorem c72_run : ∀ args H v H', (c72 args H).val = some (v, H') → CallOK TU1 72 args H v H' := c72_ok TU1_ok (by
  intro l v r hv
  obtain ⟨hl, hv2⟩ := guard_val hv
  rw [leaf_val hv2, nf72, hl]
  unfold Clm.idxI
  cases Clm.has l v <;> simp)
theorem TU2_ok : TabOK TU2 := TU1_ok.addCall fun a H v H' hv => by refine CallOK.tab ?_ ?_ (c72_run a H v H' hv) <;> rfl
theorem c49_run : ∀ args H v H', (c49 args H).val = some (v, H') → CallOK TU2 49 args H v H' := c49_ok TU2_ok (by
  intro l v r hv
  obtain ⟨hl, hv2⟩ := guard_val hv
  rw [leaf_val hv2, nf49, cond_t hl]
  have : decide (Clm.idxI l v ≥ 0) = Clm.has l v := by
    unfold Clm.idxI
    cases h : Clm.has l v with
    | true => exact decide_eq_true (Int.natCast_nonneg _)
    | false => rfl
  rw [this])
theorem c28w_run : ∀ args H v H', (c28w args H).val = some (v, H') → CallOK TO1 28 args H v H' := by
  intro args H v H' hv
  unfold c28w at hv
  split at hv
  · rename_i w cs od
    obtain ⟨h1, h2⟩ := guard_val hv
    refine CallOK.tab (T := T19) ?_ ?_ (c28_run _ _ _ _ ?_)
    · rfl
    · rfl
    · show (c28t cs od w).val = _
      unfold c28t
      rw [h1]
      exact h2
  · cases hv
theorem TU3_ok : TabOK TU3 := by
  have h := TU2_ok
  have h := h.addCall (g := 49) (r := c49) fun a H v H' hv => by refine CallOK.tab ?_ ?_ (c49_run a H v H' hv) <;> rfl
  have h := h.addCall (g := 28) (r := c28w) fun a H v H' hv => by refine CallOK.tab ?_ ?_ (c28w_run a H v H' hv) <;> rfl
  exact h
theorem at_get {l : List Int} {i : Nat} (h : i < l.length) : l[i]? = some (Clm.at0 l (i : Nat)) := by
  have := (at0_get (l := l) (i := (i : Int)) (by omega) (by omega)).1
  rwa [toNat_cast] at this
theorem l48_11_run : ∀ base kv H o kv' H', (l48_11 base kv H).val = some (o, kv', H') → LoopOK TU3 48 11 base kv H o kv' H' := l48_11_ok TU3_ok (by kernel_rfl) (by
  intro o o2 cs tot wt n many w left m k n1 n2 g t tt tw r hv
  obtain ⟨hl, hv2⟩ := guard_val hv
  simp only [Bool.and_eq_true, decide_eq_true_eq, beq_iff_eq] at hl
  obtain ⟨⟨⟨⟨⟨⟨⟨⟨⟨⟨rfl, rfl⟩, hc⟩, rfl⟩, hrep⟩, rfl⟩, rfl⟩, rfl⟩, hpre⟩, hol⟩, htot⟩ := hl
  obtain rfl := of_decide_eq_true hrep
  have ok := Clm.ok_of hc
  obtain ⟨hp1, hp2, hp3⟩ := Clm.preB_get hpre
  obtain ⟨ht1, ht2, ht3, ht4⟩ := Clm.totB_get htot
  have h5 := ok.len
  have q1 := Clm.qS_len left cs o2
  obtain ⟨mm, hm⟩ := steps_of (T := TU3) (fid := 48) (lid := 11) (base := 9) (c := lpc TU3 48 11) o2.length (fun i => [lI o2, ps 3, ps 4, ps 5, ps 6, vi (Clm.qS left cs o2 i).2, .os 9 0 0 cs.length true true true, lI o2, vi o2.length, vi (i : Nat)])
    (fun i => [some (cI n), some cF, some (cI many), some (cI left), some (cS 7 cs.length), some (cT 8 cs.length), some (cB g), some (rowI cs t), some (rowI (Clm.qAdd tot (Clm.qS left cs o2 i).1) tt), some (rowI (Clm.qS left cs o2 i).1 tw)])
    (.ext 2, [lI o2, ps 3, ps 4, ps 5, ps 6, vi (Clm.qS left cs o2 o2.length).2, .os 9 0 0 cs.length true true true, lI o2, vi o2.length, vi o2.length], [some (cI n), some cF, some (cI many), some (cI left), some (cS 7 cs.length), some (cT 8 cs.length), some (cB g), some (rowI cs t), some (rowI (Clm.qAdd tot (Clm.inOrd left cs o2)) tt), some (rowI (Clm.inOrd left cs o2) tw)])
    (fun i hi again => by
      obtain ⟨x, hx, hxm⟩ := get_i hi
      obtain ⟨hx0, hx1⟩ := hp3 x hxm
      obtain ⟨x, rfl⟩ := Int.eq_ofNat_of_zero_le hx0
      have hxn : x < cs.length := by omega
      have qi := q1 i
      have hz := Clm.qS_zero (w := left) (cs := cs) hp2 hx (fun y hy => (hp3 y hy).1) hxn
      have hlf := Clm.qS_left (o := o2) ok i
      have gc := at_get (l := cs) (i := x) hxn
      have gr := ok.rg hxn
      have gw := at_get (l := (Clm.qS left cs o2 i).1) (i := x) (by omega)
      have gt := at_get (l := Clm.qAdd tot (Clm.qS left cs o2 i).1) (i := x) (by rw [Clm.qAdd_len]; omega)
      have gw2 := at_get (l := ((Clm.qS left cs o2 i).1).set x (120 * min (Clm.qS left cs o2 i).2 (Clm.at0 cs (x : Nat)))) (i := x) (by rw [List.length_set]; omega)
      have gt2 : Clm.at0 (Clm.qAdd tot (Clm.qS left cs o2 i).1) (x : Nat) = Clm.at0 tot x := by rw [Clm.qAdd_at (by omega), hz]; omega
      have gv : Clm.at0 (((Clm.qS left cs o2 i).1).set x (120 * min (Clm.qS left cs o2 i).2 (Clm.at0 cs (x : Nat)))) (x : Nat) = 120 * min (Clm.qS left cs o2 i).2 (Clm.at0 cs (x : Nat)) := by rw [Clm.at0_set (by omega), if_pos rfl]
      have gtb := ht4 _ (Clm.at_mem (l := tot) (i := x) (by omega))
      have e := nl48 again o2 o2 cs (Clm.qAdd tot (Clm.qS left cs o2 i).1) (Clm.qS left cs o2 i).1 n many left (Clm.qS left cs o2 i).2 (i : Nat) cs.length cs.length cs.length g t tt tw
      rw [e]
      simp only [dec_lt hi, dec_ge, cond_true, toNat_cast, hx, oM, dec_lt hxn, gc, gw, gt, Clm.mn', Clm.mx']
      rw [wrapi (x := 120 * min (Clm.qS left cs o2 i).2 (Clm.at0 cs (x : Nat))) (by omega) (by omega), wrapi (x := (Clm.qS left cs o2 i).2 - Clm.at0 cs (x : Nat)) (by omega) (by omega)]
      simp only [gw2, oM]
      rw [gv, gt2, wrapi (x := Clm.at0 tot x + 120 * min (Clm.qS left cs o2 i).2 (Clm.at0 cs (x : Nat))) (by omega) (by omega), wrap_succ (by omega)]
      have s1 : (Clm.qAdd tot (Clm.qS left cs o2 i).1).set x (Clm.at0 tot x + 120 * min (Clm.qS left cs o2 i).2 (Clm.at0 cs (x : Nat))) = Clm.qAdd tot ((Clm.qS left cs o2 i).1.set x (120 * min (Clm.qS left cs o2 i).2 (Clm.at0 cs (x : Nat)))) := by
        rw [← gt2]
        exact Clm.qAdd_set (by omega) (by omega) hz
      rw [s1, Clm.qS_succ hx]
      have s2 : max 0 ((Clm.qS left cs o2 i).2 - Clm.at0 cs (x : Nat)) = (Clm.inStep cs (Clm.qS left cs o2 i) (x : Nat)).2 := by
        show _ = (Clm.qS left cs o2 i).2 - min (Clm.qS left cs o2 i).2 (Clm.at0 cs (x : Nat))
        omega
      rw [s2]
      have s3 : (Clm.inStep cs (Clm.qS left cs o2 i) (x : Nat)).1 = (Clm.qS left cs o2 i).1.set x (120 * min (Clm.qS left cs o2 i).2 (Clm.at0 cs (x : Nat))) := by
        show (Clm.qS left cs o2 i).1.set ((x : Nat) : Int).toNat _ = _
        rw [toNat_cast]
      rw [s3])
    (fun again => by
      rw [nl48]
      simp only [dec_ll, cond_false]
      have : (Clm.qS left cs o2 o2.length).1 = Clm.inOrd left cs o2 := by unfold Clm.qS Clm.inOrd; rw [List.take_length]
      rw [this])
  have z : (Clm.qS left cs o2 0) = (List.replicate cs.length 0, left) := rfl
  simp only [z, Clm.qAdd_zero] at hm
  exact ⟨mm, hm.trans (by rw [leaf_val hv2])⟩)
theorem TU4_ok : TabOK TU4 := TU3_ok.addLoop fun b k H o k' H' hv => by refine LoopOK.tab ?_ ?_ ?_ ?_ (l48_11_run b k H o k' H' hv) <;> rfl
theorem ordR_len {cs b : List Int} (h5 : cs.length ≤ 5) : (Clm.ordR cs b).length ≤ 3125 := by
  unfold Clm.ordR
  have h := Clm.ordI_count cs.length h5 (cs.length - b.length) b
  have : 5 ^ (cs.length - b.length) ≤ 5 ^ 5 := Nat.pow_le_pow_right (by omega) (by omega)
  omega
theorem l48_2_run (d : Nat) (hT : TabOK (Q0 d)) : ∀ base kv H o kv' H', (l48_2 d base kv H).val = some (o, kv', H') → LoopOK (Q0 d) 48 2 base kv H o kv' H' := l48_2_ok d hT (by kernel_rfl) (by
  intro b cs tot n many w q k n2 g t tt r hv
  obtain ⟨hl, hv2⟩ := guard_val hv
  simp only [Bool.and_eq_true, decide_eq_true_eq, beq_iff_eq] at hl
  obtain ⟨⟨⟨⟨⟨⟨⟨⟨⟨⟨hc, rfl⟩, rfl⟩, rfl⟩, rfl⟩, rfl⟩, hpre⟩, hbl⟩, hd⟩, htot⟩, hm⟩ := hl
  have ok := Clm.ok_of hc
  have h5 := ok.len
  have hR : Clm.ordR cs b = Clm.ordP cs.length b cs.length := by unfold Clm.ordR; rw [Clm.ordP_all hbl]
  rw [hR] at hv2 hm
  obtain ⟨ht1, ht2, ht3, ht4⟩ := Clm.totB_get htot
  obtain ⟨mm, hmm⟩ := steps_of (T := Q0 d) (fid := 48) (lid := 2) (base := 9) (c := lpc (Q0 d) 48 2) cs.length (fun i => [lI b, ps 1, vi cs.length, vi (i : Nat)])
    (fun i => [some (cI cs.length), some cF, some (cI (many + (Clm.ordP cs.length b i).length)), some (cI w), some (cS 7 cs.length), some (cT 8 cs.length), some (cB true), some (rowI cs t), some (rowI (Clm.qTot w cs (Clm.ordP cs.length b i) tot) tt)])
    (.ext 0, [lI b, ps 1, vi cs.length, vi cs.length], [some (cI cs.length), some cF, some (cI (many + (Clm.ordP cs.length b cs.length).length)), some (cI w), some (cS 7 cs.length), some (cT 8 cs.length), some (cB true), some (rowI cs t), some (rowI (Clm.qTot w cs (Clm.ordP cs.length b cs.length) tot) tt)])
    (fun i hi again => by
      have hsm : sm b = true := sm_of (k := 5) (by omega) (by omega)
      have hmo := Clm.ordP_mono cs.length b (p := i) (q := cs.length) (by omega)
      have hmo2 := Clm.ordP_mono cs.length b (p := i + 1) (q := cs.length) (by omega)
      have htb := Clm.totB_next ok htot (os := Clm.ordP cs.length b i) (Clm.ordP_perm hpre hbl (by omega)) (by omega)
      rw [nl48_2]
      simp only [dec_lt hi, cond_true, hsm]
      rw [Clm.ordP_succ, wrap_succ (by omega)]
      rw [Clm.ordP_succ] at hmo2
      cases hb : Clm.has b (i : Int) with
      | true => simp only [Bool.not_true, cond_false, cond_true, List.append_nil]
      | false =>
        have hp2 := Clm.preB_snoc hpre hbl hi hb
        have e3 : (b ++ [(i : Int)]).length = b.length + 1 := by simp
        have hR2 : Clm.ordR cs (b ++ [(i : Int)]) = Clm.ordI cs.length (cs.length - b.length - 1) (b ++ [(i : Int)]) := by
          unfold Clm.ordR
          rw [e3, Nat.sub_add_eq]
        rw [hb] at hmo2
        simp only [cond_false, List.length_append] at hmo2
        simp only [Bool.not_false, cond_true, cond_false, toNat_cast, List.take_length, decide_eq_true (show (b.length : Int) ≤ b.length by omega), decide_true, room_ok (show b.length + 1 ≤ 1000000 by omega) (show 8 ≤ 200 by omega), hc, hp2, htb, hR2, e3, decide_eq_true (show cs.length - (b.length + 1) < d by omega), beq_self_eq_true, Bool.and_self]
        rw [decide_eq_true (show many + ((Clm.ordP cs.length b i).length : Int) + ((Clm.ordI cs.length (cs.length - b.length - 1) (b ++ [(i : Int)])).length : Int) ≤ 1000000 by omega), Bool.and_self, cond_true, Clm.qTot_app, show many + ((Clm.ordP cs.length b i ++ Clm.ordI cs.length (cs.length - b.length - 1) (b ++ [(i : Int)])).length : Int) = many + ((Clm.ordP cs.length b i).length : Int) + ((Clm.ordI cs.length (cs.length - b.length - 1) (b ++ [(i : Int)])).length : Int) by rw [List.length_append]; omega])
    (fun again => by
      rw [nl48_2]
      simp only [dec_ll, cond_false])
  have z : Clm.ordP cs.length b 0 = [] := rfl
  simp only [z, Clm.qTot_nil ht1, List.length_nil, Int.ofNat_zero, Int.add_zero] at hmm
  exact ⟨mm, hmm.trans (by rw [leaf_val hv2])⟩)
theorem c48_run (d : Nat) (hT : TabOK (Q1 d)) : ∀ args H v H', (c48 (d + 1) args H).val = some (v, H') → CallOK (Q1 d) 48 args H v H' := c48_ok (d + 1) hT (by
  intro b cs tot n many w k n2 g t tt r hv
  obtain ⟨hl, hv2⟩ := guard_val hv
  simp only [Bool.and_eq_true, decide_eq_true_eq, beq_iff_eq] at hl
  obtain ⟨⟨⟨⟨⟨⟨⟨⟨hc, rfl⟩, rfl⟩, rfl⟩, rfl⟩, hpre⟩, hd⟩, htot⟩, hm⟩ := hl
  have ok := Clm.ok_of hc
  have h5 := ok.len
  obtain ⟨hp1, hp2, hp3⟩ := Clm.preB_get hpre
  obtain ⟨ht1, ht2, ht3, ht4⟩ := Clm.totB_get htot
  rw [nf48]
  rcases Nat.lt_or_ge b.length cs.length with h | h
  · simp only [dec_lt h, cond_true, hc, hpre, htot, decide_eq_true hm, decide_eq_true h, decide_eq_true (show cs.length - b.length ≤ d by omega), decide_true, beq_self_eq_true, Bool.and_self]
    rw [leaf_val hv2]
  · have he : b.length = cs.length := by omega
    have hR : Clm.ordR cs b = [b] := by unfold Clm.ordR; rw [he, Nat.sub_self]; rfl
    have hperm := Clm.preB_perm hpre he
    have oE := Clm.ordE_perm ok hperm
    have oV := (Clm.ord_div ok hperm).2
    have hrep : Clm.repOK (List.replicate cs.length 0) cs.length 0 = true := by unfold Clm.repOK; exact decide_eq_true rfl
    have hsm : sm (Clm.inOrd w cs b) = true := sm_of (k := 5) (by rw [Clm.inOrd_len]; exact h5) (by omega)
    rw [decide_eq_false (show ¬ (b.length : Int) < (cs.length : Int) by omega), wrapi (x := many + 1) (by omega) (by omega), show many + 1 - 1 = many by omega, oV]
    simp only [cond_false, cond_true, decide_eq_true (show (0 : Int) ≤ (cs.length : Int) by omega), toNat_cast, hc, hpre, htot, he, hrep, oE, hsm, decide_true, beq_self_eq_true, Bool.and_self, room_ok (show cs.length ≤ 1000000 by omega) (show 8 ≤ 200 by omega)]
    rw [leaf_val hv2, hR, Clm.qTot_one ht1]
    rfl)
theorem c48_zero : ∀ args H v H', (c48 0 args H).val = some (v, H') → CallOK TU4 48 args H v H' := c48_ok 0 TU4_ok (by
  intro b cs tot n many w k n2 g t tt r hv
  obtain ⟨hl, hv2⟩ := guard_val hv
  simp only [Bool.and_eq_true, decide_eq_true_eq, beq_iff_eq] at hl
  omega)
theorem Q0_ok : ∀ d, TabOK (Q0 d)
  | 0 => TU4_ok.addCall fun a H v H' hv => by refine CallOK.tab ?_ ?_ (c48_zero a H v H' hv) <;> rfl
  | d + 1 => by
    have h0 := Q0_ok d
    have h1 : TabOK (Q1 d) := h0.addLoop fun b k H o k' H' hv => by refine LoopOK.tab ?_ ?_ ?_ ?_ (l48_2_run d h0 b k H o k' H' hv) <;> rfl
    exact TU4_ok.addCall fun a H v H' hv => by refine CallOK.tab ?_ ?_ (c48_run d h1 a H v H' hv) <;> rfl
end Go.Ev.Clm
