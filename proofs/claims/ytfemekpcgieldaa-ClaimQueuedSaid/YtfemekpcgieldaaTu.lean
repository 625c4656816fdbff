/- Queued: the body. -/
import Derived.Test.YtfemekpcgieldaaTt
import Derived.Test.YtfemekpcgieldaaTj
set_option linter.unusedVariables false
set_option linter.unusedSimpArgs false
namespace Go.Ev.Clm
open Go Go.Ev
set_option maxRecDepth 1000000
set_option maxHeartbeats 0
set_option linter.unusedVariables false
def _root_.Clm.manyB (n : Nat) (many : Int) (a tot : List Int) : Bool := decide (a.length = n) && decide (tot.length = n) && (List.range n).all fun (i : Nat) => (many * Clm.at0 a i == Clm.at0 tot i) && decide (0 ≤ Clm.at0 tot i) && decide (Clm.at0 tot i ≤ 1000000000000)
noncomputable def TU5 (W : Int) (C : List Int) : Tab := (Q0 6).addCall 38 (c38v W C)
theorem nl13 (W : Int) (C : List Int) (again : Ag) (a tot : List Int) (many n i : Int) (k k2 : Nat) (t tt : TypeId) : lpStep (TU5 W C) 13 13 0 (lpc (TU5 W C) 13 13) again [vb false, ps 0, ps 1, osT 2 k, vi n, vi i] [some (cT 3 k2), some (cI many), some (rowI a t), some (rowI tot tt)] = (bif decide (i < n) then bif decide (0 ≤ i) then bif decide (i < (↑k : Int)) then oM a[i.toNat]? fun x => bif decide (0 ≤ i) then bif decide (i < (↑k2 : Int)) then oM tot[i.toNat]? fun x_1 => bif IntKind.i64.wrap (many * x) != x_1 then some (.ret, [vb false, .ps 0 0 0 0, .ps 1 0 0 0, .os 2 0 0 k true true true, vi n, vi i], [some ⟨[.os 3 0 0 k2 true true true], true, 22, false, true, none⟩, some ⟨[vi many], true, 3, false, false, none⟩, some ⟨[.run (.int .i64) a], false, t, false, false, none⟩, some ⟨[.run (.int .i64) tot], false, tt, false, false, none⟩]) else again [vb false, .ps 0 0 0 0, .ps 1 0 0 0, .os 2 0 0 k true true true, vi n, vi (IntKind.i64.wrap (i + 1))] [some ⟨[.os 3 0 0 k2 true true true], true, 22, false, true, none⟩, some ⟨[vi many], true, 3, false, false, none⟩, some ⟨[.run (.int .i64) a], false, t, false, false, none⟩, some ⟨[.run (.int .i64) tot], false, tt, false, false, none⟩] else none else none else none else none else some (.ext 0, [vb false, .ps 0 0 0 0, .ps 1 0 0 0, .os 2 0 0 k true true true, vi n, vi i], [some ⟨[.os 3 0 0 k2 true true true], true, 22, false, true, none⟩, some ⟨[vi many], true, 3, false, false, none⟩, some ⟨[.run (.int .i64) a], false, t, false, false, none⟩, some ⟨[.run (.int .i64) tot], false, tt, false, false, none⟩])) := by kernel_rfl
def l13_13t (a tot : List Int) (many n : Int) (k k2 : Nat) (t tt : TypeId) : Tree (Out × List AV × Hp) := .br (decide (0 ≤ n) && decide (n ≤ 5) && decide (k = n.toNat) && decide (k2 = n.toNat) && Clm.manyB n.toNat many a tot) (.leaf (.ext 0, [vb false, ps 0, ps 1, osT 2 k, vi n, vi n], [some (cT 3 k2), some (cI many), some (rowI a t), some (rowI tot tt)])) .fail
def l13_13 (base : Nat) (kv : List AV) (H : Hp) : Tree (Out × List AV × Hp) := match Nat.beq base 0, kv, H with
  | true, [(.sc (.bool false)), (.ps 0 0 0 0), (.ps 1 0 0 0), (.os 2 0 0 k true true true), (.sc (.int .i64 n)), (.sc (.int .i64 0))], [some ⟨[.os 3 0 0 k2 true true true], true, 22, false, true, none⟩, some ⟨[.sc (.int .i64 many)], true, 3, false, false, none⟩, some ⟨[.run (.int .i64) a], false, t, false, false, none⟩, some ⟨[.run (.int .i64) tot], false, tt, false, false, none⟩] => l13_13t a tot many n k k2 t tt
  | _, _, _ => .fail
theorem l13_13_ok {T : Tab} (hT : TabOK T) (hlo : loopOf T.fn 13 13 = some (lpc T 13 13)) (h : ∀ (a tot : List Int) (many n : Int) (k k2 : Nat) (t tt : TypeId) (r : Out × List AV × Hp), (l13_13t a tot many n k k2 t tt).val = some r → ∃ mm, lpRun T 13 13 0 (lpc T 13 13) mm [vb false, ps 0, ps 1, osT 2 k, vi n, vi 0] [some (cT 3 k2), some (cI many), some (rowI a t), some (rowI tot tt)] = some r) : ∀ base kv H o kv' H', (l13_13 base kv H).val = some (o, kv', H') → LoopOK T 13 13 base kv H o kv' H' := by
  intro base kv H o kv' H' hv
  unfold l13_13 at hv
  split at hv
  · rename_i hb
    obtain rfl := Nat.eq_of_beq_eq_true hb
    exact loop_ok hT hlo (h _ _ _ _ _ _ _ _ _ hv)
  · cases hv
noncomputable def TU6 (W : Int) (C : List Int) : Tab := (TU5 W C).addLoop 13 13 l13_13
theorem nf13 (W : Int) (C : List Int) (h x : Int) (cl : List Int) : evBody (TU6 W C) 13 [aQ3 h cl x] [] = (bif decide (List.map (fun (x : AV) => match x with | .run e l => l.length * e.size | _ => 1) [.sc (.int .u8 h), .run (.int .u16) cl, .sc (.int .u16 x)] = List.map (fun (x : AV) => match x with | .run e l => l.length * e.size | _ => 1) ((List.foldl (fun acc f => match acc, zeroC (Clm.TU6 W C).P 7 f.type with | some a, some c => some (a ++ c) | x, x_1 => none) (some []) [{ name := "Houses", type := 5, offset := 0, embedded := false, tag := "", pkgPath := "", byteOffset := 0 : Go.Field }, { name := "Claims", type := 38, offset := 1, embedded := false, tag := "", pkgPath := "", byteOffset := 2 : Go.Field }, { name := "Worth", type := 37, offset := 6, embedded := false, tag := "", pkgPath := "", byteOffset := 12 : Go.Field }]).getD [])) then bif Clm.qG h cl x 1000 W C then bif decide ((↑C.length : Int) = (↑C.length : Int)) then bif room (↑C.length : Int).toNat 8 then bif Clm.chk W C == 0 && decide ((↑C.length : Int) = (↑C.length : Int)) && decide (C.length = C.length) && decide ((↑C.length : Int).toNat = C.length) && true && Clm.preB C.length [] && decide (C.length - 0 < 6) && Clm.totB C.length (List.replicate (↑C.length : Int).toNat 0) 0 && decide (0 + (↑(Clm.ordR C []).length : Int) ≤ 1000000) then bif Clm.chk W C == 0 then bif (↑C.length : Int) != (↑C.length : Int) then some (vb false, []) else bif decide (0 ≤ (↑C.length : Int)) && decide ((↑C.length : Int) ≤ 5) && decide (C.length = (↑C.length : Int).toNat) && decide ((↑C.length : Int).toNat = (↑C.length : Int).toNat) && Clm.manyB (↑C.length : Int).toNat (0 + (↑(Clm.ordR C []).length : Int)) (Clm.avgV W C) (Clm.qTot W C (Clm.ordR C []) (List.replicate (↑C.length : Int).toNat 0)) then some (vb true, []) else none else none else none else none else none else none else none) := by kernel_rfl
end Go.Ev.Clm
namespace Go.Ev.Clm
open Go Go.Ev
set_option maxRecDepth 1000000
set_option linter.unusedVariables false
set_option linter.unusedSimpArgs false
theorem TU5_ok (W : Int) (C : List Int) : TabOK (TU5 W C) := (Q0_ok 6).addCall fun a H v H' hv => by refine CallOK.tab ?_ ?_ (c38v_run W C a H v H' hv) <;> rfl
theorem l13_13_run (W : Int) (C : List Int) : ∀ base kv H o kv' H', (l13_13 base kv H).val = some (o, kv', H') → LoopOK (TU5 W C) 13 13 base kv H o kv' H' := l13_13_ok (TU5_ok W C) (by kernel_rfl) (by
  intro a tot many n k k2 t tt r hv
  obtain ⟨hl, hv2⟩ := guard_val hv
  simp only [Bool.and_eq_true, decide_eq_true_eq] at hl
  obtain ⟨⟨⟨⟨h0, h5⟩, rfl⟩, rfl⟩, hm⟩ := hl
  obtain ⟨n, rfl⟩ := Int.eq_ofNat_of_zero_le h0
  rw [toNat_cast] at hm hv2
  unfold Clm.manyB at hm
  simp only [Bool.and_eq_true, decide_eq_true_eq, List.all_eq_true, List.mem_range, beq_iff_eq] at hm
  obtain ⟨⟨la, lt⟩, hm⟩ := hm
  rw [toNat_cast]
  obtain ⟨mm, hmm⟩ := steps_of (T := TU5 W C) (fid := 13) (lid := 13) (base := 0) (c := lpc (TU5 W C) 13 13) n (fun i => [vb false, ps 0, ps 1, .os 2 0 0 n true true true, vi n, vi (i : Nat)]) (fun _ => [some (cT 3 n), some (cI many), some (rowI a t), some (rowI tot tt)])
    (.ext 0, [vb false, ps 0, ps 1, .os 2 0 0 n true true true, vi n, vi n], [some (cT 3 n), some (cI many), some (rowI a t), some (rowI tot tt)])
    (fun i hi again => by
      obtain ⟨⟨e, b1⟩, b2⟩ := hm i hi
      have g1 := at_get (l := a) (i := i) (by omega)
      have g2 := at_get (l := tot) (i := i) (by omega)
      rw [nl13]
      simp only [dec_lt hi, dec_ge, cond_true, toNat_cast, g1, g2, oM]
      rw [wrapi (x := many * Clm.at0 a (i : Nat)) (by omega) (by omega), e, bne_self_eq_false, cond_false, wrap_succ (by omega)])
    (fun again => by
      rw [nl13]
      simp only [dec_ll, cond_false])
  exact ⟨mm, hmm.trans (by rw [leaf_val hv2])⟩)
theorem TU6_ok (W : Int) (C : List Int) : TabOK (TU6 W C) := (TU5_ok W C).addLoop fun b k H o k' H' hv => by refine LoopOK.tab ?_ ?_ ?_ ?_ (l13_13_run W C b k H o k' H' hv) <;> rfl
noncomputable def TUQ (m : Int) (q : Clm.Qu) : Tab := TU6 (Clm.quW q m) (Clm.quC q m)
theorem TUQ_ok (m : Int) (q : Clm.Qu) : TabOK (TUQ m q) := TU6_ok _ _
theorem queued_body (q : Clm.Qu) (hq : q.Fit) : evBody (TUQ 1000 q) 13 [.agg [.sc (.int .u8 q.houses), .run (.int .u16) q.claims, .sc (.int .u16 q.worth)] false] [] = some (vb true, []) := by
  have hG := qG_ok hq (m := 1000) (by omega) (by omega)
  have ok := Clm.qu_ok hq (most := 1000) (by omega) (by omega)
  have hcl := hq.c.1
  unfold TUQ
  generalize Clm.quW q 1000 = W at *
  generalize Clm.quC q 1000 = C at *
  have hn := ok.len
  have hc : Clm.chk W C = 0 := Clm.ok_iff ok
  have d4 := (Clm.avg_div ok).1
  have hr := room_ok (n := C.length) (b := 8) (by omega) (by omega)
  have hR : Clm.ordR C [] = Clm.orders C.length := rfl
  have hol := Clm.orders_len hn
  have hfl : (Clm.orders C.length).length ≤ 3125 := by rw [← hR]; exact ordR_len hn
  have hpre : Clm.preB C.length [] = true := Clm.preB_of (by simp) (by simp) (by simp)
  have htot : Clm.totB C.length (List.replicate C.length 0) 0 = true := by
    unfold Clm.totB
    simp
  have hmany : Clm.manyB C.length ((Clm.orders C.length).length : Int) (Clm.avgV W C) (Clm.qTot W C (Clm.orders C.length) (List.replicate C.length 0)) = true := by
    have hb := Clm.totB_next ok htot (os := Clm.orders C.length) (fun o ho => Clm.orders_perm hn ho) (by omega)
    obtain ⟨b1, b2, b3, b4⟩ := Clm.totB_get hb
    unfold Clm.manyB
    rw [d4.len, b1]
    simp only [decide_true, Bool.true_and, List.all_eq_true, List.mem_range, Bool.and_eq_true, beq_iff_eq, decide_eq_true_eq]
    intro i hi
    have := b4 _ (Clm.at_mem (l := Clm.qTot W C (Clm.orders C.length) (List.replicate C.length 0)) (i := i) (by omega))
    exact ⟨⟨Clm.qTot_all ok hi, this.1⟩, by omega⟩
  rw [nf13]
  refine (cond_t ?_).trans ?_
  · refine decide_eq_true ?_
    show ([1, q.claims.length * 1, 1] : List Nat) = _
    rw [hcl]
    kernel_rfl
  rw [hR]
  simp only [hG, hc, hr, hpre, htot, hmany, toNat_cast, Int.zero_add, Nat.sub_zero, decide_eq_true (show C.length < 6 by omega), decide_eq_true (show ((Clm.orders C.length).length : Int) ≤ 1000000 by omega), decide_eq_true (show (0 : Int) ≤ (C.length : Int) by omega), decide_eq_true (show (C.length : Int) ≤ 5 by omega), decide_true, beq_self_eq_true, bne_self_eq_false, Bool.and_self, cond_true, cond_false]
end Go.Ev.Clm
