/- Ranked: the body. -/
import Derived.Test.YtfemekpcgieldaaTp
import Derived.Test.YtfemekpcgieldaaTq
set_option linter.unusedVariables false
set_option linter.unusedSimpArgs false
namespace Go.Ev.Clm
open Go Go.Ev
set_option maxRecDepth 1000000
set_option linter.unusedVariables false
set_option maxHeartbeats 0
theorem nf9 (W : Int) (C : List Int) (h x : Int) (cl bs : List Int) : evBody (TR4 W C) 9 [aQ3 h cl x, aC bs] [] = (bif decide (List.map (fun (x : AV) => match x with | .run e l => l.length * e.size | _ => 1) [.sc (.int .u8 h), .run (.int .u16) cl, .sc (.int .u16 x)] = List.map (fun (x : AV) => match x with | .run e l => l.length * e.size | _ => 1) ((List.foldl (fun acc f => match acc, zeroC (Clm.TR4 W C).P 7 f.type with | some a, some c => some (a ++ c) | x, x_1 => none) (some []) [{ name := "Houses", type := 5, offset := 0, embedded := false, tag := "", pkgPath := "", byteOffset := 0 : Go.Field }, { name := "Claims", type := 38, offset := 1, embedded := false, tag := "", pkgPath := "", byteOffset := 2 : Go.Field }, { name := "Worth", type := 37, offset := 6, embedded := false, tag := "", pkgPath := "", byteOffset := 12 : Go.Field }]).getD [])) then bif decide (List.map (fun (x : AV) => match x with | .run e l => l.length * e.size | _ => 1) [.run (.int .u8) bs] = List.map (fun (x : AV) => match x with | .run e l => l.length * e.size | _ => 1) ((some [.run (.int .u8) (List.replicate 5 0)]).getD [])) then bif Clm.qG h cl x 60 W C then bif Clm.chk W C == 0 then bif decide (C.length = C.length) && decide (C.length = C.length) && decide (C.length = C.length) && decide (C.length = C.length) && decide (C.length = C.length) && decide (C.length ≤ 5) && Clm.sb C && Clm.rankB C (Clm.divV W C) && Clm.rankB C (Clm.gainV W C) && Clm.rankB C (Clm.lossV W C) && Clm.rankB C (Clm.avgV W C) then bif sm C && decide (0 < C.length) then bif decide ((↑C.length : Int) = (↑C.length : Int)) then bif room (↑C.length : Int).toNat 8 then bif decide (C.length = C.length) && decide ((↑C.length : Int).toNat = C.length) && decide ((↑(↑C.length : Int).toNat : Int) = (↑C.length : Int)) && Clm.repOK (List.replicate (↑C.length : Int).toNat 0) C.length 0 && decide (C.length ≤ 5) && decide (bs.length = 5) && Clm.u8B bs then bif Clm.chk W (Clm.rkO bs C C.length) == 0 then bif decide ((↑C.length : Int).toNat = (Clm.rkF bs C.length C.length).length) && decide ((Clm.rkF bs C.length C.length).length ≤ 5) && Clm.lens4 C.length C.length C.length C.length (Clm.rkF bs C.length C.length).length && Clm.lens4 (Clm.rkO bs C C.length).length (Clm.rkO bs C C.length).length (Clm.rkO bs C C.length).length (Clm.rkO bs C C.length).length (Clm.rkF bs C.length C.length).length && Clm.fromL (Clm.rkF bs C.length C.length) (Clm.divV W C) (Clm.divV W (Clm.rkO bs C C.length)) && Clm.fromL (Clm.rkF bs C.length C.length) (Clm.gainV W C) (Clm.gainV W (Clm.rkO bs C C.length)) && Clm.fromL (Clm.rkF bs C.length C.length) (Clm.lossV W C) (Clm.lossV W (Clm.rkO bs C C.length)) && Clm.fromL (Clm.rkF bs C.length C.length) (Clm.avgV W C) (Clm.avgV W (Clm.rkO bs C C.length)) then some (vb true, []) else none else none else none else none else none else none else none else none else none else none else none) := by kernel_rfl
end Go.Ev.Clm
namespace Go.Ev.Clm
open Go Go.Ev
set_option maxRecDepth 1000000
set_option maxHeartbeats 0
set_option linter.unusedVariables false
set_option linter.unusedSimpArgs false
noncomputable def TRQ (m : Int) (q : Clm.Qu) : Tab := TR4 (Clm.quW q m) (Clm.quC q m)
theorem TRQ_ok (m : Int) (q : Clm.Qu) : TabOK (TRQ m q) := TR4_ok _ _
theorem u8_of {l : List Int} (h : ∀ x ∈ l, 0 ≤ x ∧ x < 256) : Clm.u8B l = true := by
  unfold Clm.u8B
  simp only [Bool.and_eq_true, decide_eq_true_eq, List.all_eq_true]
  exact h
theorem ranked_body (q : Clm.Qu) (hq : q.Fit) (bs : List Int) (hb : bs.length = 5 ∧ ∀ x ∈ bs, 0 ≤ x ∧ x < 256) : evBody (TRQ 60 q) 9 [.agg [.sc (.int .u8 q.houses), .run (.int .u16) q.claims, .sc (.int .u16 q.worth)] false, .agg [.run (.int .u8) bs] false] [] = some (vb true, []) := by
  have hG := qG_ok hq (m := 60) (by omega) (by omega)
  have ok := Clm.qu_ok hq (most := 60) (by omega) (by omega)
  have hcl := hq.c.1
  unfold TRQ
  generalize Clm.quW q 60 = W at *
  generalize Clm.quC q 60 = C at *
  have hn := ok.len
  have hne : 0 < C.length := Clm.ok_ne ok
  have d1 := Clm.rule_div ok
  have d2 := (Clm.gain_div ok).1
  have d3 := (Clm.loss_div ok).1
  have d4 := (Clm.avg_div ok).1
  have r1 := Clm.rankB_of d1.len (Clm.div_sb ok d1) fun i j hi hj hc => Clm.rank_rule ok hi hj hc
  have r2 := Clm.rankB_of d2.len (Clm.div_sb ok d2) fun i j hi hj hc => Clm.rank_gain ok hi hj hc
  have r3 := Clm.rankB_of d3.len (Clm.div_sb ok d3) fun i j hi hj hc => Clm.rank_loss ok hi hj hc
  have r4 := Clm.rankB_of d4.len (Clm.div_sb ok d4) fun i j hi hj hc => Clm.rank_avg ok hi hj hc
  have hb0 : ∀ x ∈ bs, 0 ≤ x := fun x hx => (hb.2 x hx).1
  have f1 := Clm.rk_from (w := W) ok hb0 (F := Clm.divV) d1.len fun l i k h hi hk => Clm.rule_swp h.1 (by rw [h.2]; exact hi) (by rw [h.2]; exact hk)
  have f2 := Clm.rk_from (w := W) ok hb0 (F := Clm.gainV) d2.len fun l i k h hi hk => Clm.gain_swp h.1 (by rw [h.2]; exact hi) (by rw [h.2]; exact hk)
  have f3 := Clm.rk_from (w := W) ok hb0 (F := Clm.lossV) d3.len fun l i k h hi hk => Clm.loss_swp h.1 (by rw [h.2]; exact hi) (by rw [h.2]; exact hk)
  have f4 := Clm.rk_from (w := W) ok hb0 (F := Clm.avgV) d4.len fun l i k h hi hk => Clm.avg_swp h.1 (by rw [h.2]; exact hi) (by rw [h.2]; exact hk)
  have ok2 : Clm.OkW W (Clm.rkO bs C C.length) := (Clm.rk_goes (F := id) (ok := fun l => Clm.OkW W l ∧ l.length = C.length) hb0 (n := C.length) (fun l i k hl hi hk => ⟨Clm.ok_swp hl.1 (by omega) (by omega), by rw [Clm.swp_len]; exact hl.2⟩) (fun _ _ _ _ _ _ => rfl) ⟨ok, rfl⟩ C.length (Nat.le_refl _)).1.1
  have hc : Clm.chk W C = 0 := Clm.ok_iff ok
  have hc2 : Clm.chk W (Clm.rkO bs C C.length) = 0 := Clm.ok_iff ok2
  have hu := u8_of hb.2
  have s1 := sb_ok ok
  have s2 : sm C = true := sm_of (k := 5) hn (by omega)
  have hfl := Clm.rkF_len bs C.length C.length
  have hol := Clm.rkO_len bs C C.length
  have hrep : Clm.repOK (List.replicate C.length 0) C.length 0 = true := by unfold Clm.repOK; exact decide_eq_true rfl
  have hr := room_ok (n := C.length) (b := 8) (by omega) (by omega)
  rw [nf9]
  refine (cond_t ?_).trans ?_
  · refine decide_eq_true ?_
    show ([1, q.claims.length * 1, 1] : List Nat) = _
    rw [hcl]
    kernel_rfl
  refine (cond_t ?_).trans ?_
  · refine decide_eq_true ?_
    show ([bs.length * 1] : List Nat) = _
    rw [hb.1]
    kernel_rfl
  simp only [hG, hc, hc2, hu, s1, s2, r1, r2, r3, r4, f1, f2, f3, f4, hfl, hol, hr, hrep, Clm.lens4, toNat_cast, decide_eq_true hn, decide_eq_true hne, decide_eq_true hb.1, decide_true, beq_self_eq_true, Bool.and_self, cond_true]
end Go.Ev.Clm
