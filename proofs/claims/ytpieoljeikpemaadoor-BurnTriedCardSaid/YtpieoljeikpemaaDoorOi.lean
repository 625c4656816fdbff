/- BurnTried: the body. -/
import Derived.Test.YtpieoljeikpemaaDoorOg
import Derived.Test.YtpieoljeikpemaaDoorOd
import Derived.Test.YtpieoljeikpemaaDoorSg
import Derived.Test.YtpieoljeikpemaaDoorOh
set_option linter.unusedVariables false
set_option linter.unusedSimpArgs false
namespace Go.Ev.Burn
open Go Go.Ev
set_option maxRecDepth 1000000
set_option maxHeartbeats 0
set_option linter.unusedVariables false
noncomputable def TT (N : Int) (W : Ws) (D : List Int) : Tab := { ((S22.addCall 53 c53).addCall 50 (c50v N W D)) with nest := true }
theorem nf9 (N : Int) (W : Ws) (D : List Int) (pl x : Int) (b m : List Int) : evBody (TT N W D) 9 [.agg [.sc (.int .u8 pl), .run (.int .u8) b, .run (.int .u8) m, .sc (.int .u8 x)] false] [] = (bif decide (List.map (fun (x : AV) => match x with | .run e l => l.length * e.size | _ => 1) [.sc (.int .u8 pl), .run (.int .u8) b, .run (.int .u8) m, .sc (.int .u8 x)] = List.map (fun (x : AV) => match x with | .run e l => l.length * e.size | _ => 1) ((List.foldl (fun acc f => match acc, zeroC (Burn.TT N W D).P 7 f.type with | some a, some c => some (a ++ c) | x, x_1 => none) (some []) [{ name := "Places", type := 5, offset := 0, embedded := false, tag := "", pkgPath := "", byteOffset := 0 : Go.Field }, { name := "Back", type := 68, offset := 1, embedded := false, tag := "", pkgPath := "", byteOffset := 1 : Go.Field }, { name := "More", type := 70, offset := 10, embedded := false, tag := "", pkgPath := "", byteOffset := 10 : Go.Field }, { name := "Extra", type := 5, offset := 18, embedded := false, tag := "", pkgPath := "", byteOffset := 18 : Go.Field }]).getD [])) then bif Brn.skG pl x 9 b m N W D then bif decide (N = 1) then bif decide (List.map (fun (x : AV) => match x with | .run e l => l.length * e.size | _ => 1) [.run (.int .i64) D] = List.map (fun (x : AV) => match x with | .run e l => l.length * e.size | _ => 1) ((some [.run (.int .i64) (List.replicate 81 0)]).getD [])) then bif decide (1 ≤ N) && decide (N ≤ 9) && decide (D.length = 81) && decide (Brn.kD N D < 9) then bif Brn.chkP N [] == 0 then bif Brn.chk N [] == 0 then bif Brn.chk N [] == 0 then bif Brn.chk N [] == 0 then bif Brn.dayV N [] == (↑(Brn.headL (Brn.solD N D (Brn.kD N D + 1))).length : Int) then bif sm (Brn.fewV N []) then bif decide (Brn.fewV N [] = Brn.headL (Brn.solD N D (Brn.kD N D + 1))) then bif Brn.cntV N [] == (↑(Brn.solD N D (Brn.kD N D + 1)).length : Int) then some (vb true, []) else some (vb false, []) else some (vb false, []) else none else some (vb false, []) else some (vb false, []) else some (vb false, []) else some (vb false, []) else some (vb false, []) else none else none else bif decide (List.map (fun (x : AV) => match x with | .run e l => l.length * e.size | _ => 1) [.run (.int .i64) D] = List.map (fun (x : AV) => match x with | .run e l => l.length * e.size | _ => 1) ((some [.run (.int .i64) (List.replicate 81 0)]).getD [])) then bif decide (1 ≤ N) && decide (N ≤ 9) && decide (D.length = 81) && decide (Brn.kD N D < 9) then bif sm W then bif sm W then bif sm W then bif sm W then bif Brn.chkP N W == 0 then bif Brn.chk N W == 0 then bif Brn.chk N W == 0 then bif Brn.chk N W == 0 then bif Brn.dayV N W == (↑(Brn.headL (Brn.solD N D (Brn.kD N D + 1))).length : Int) then bif sm (Brn.fewV N W) then bif decide (Brn.fewV N W = Brn.headL (Brn.solD N D (Brn.kD N D + 1))) then bif Brn.cntV N W == (↑(Brn.solD N D (Brn.kD N D + 1)).length : Int) then some (vb true, []) else some (vb false, []) else some (vb false, []) else none else some (vb false, []) else some (vb false, []) else some (vb false, []) else some (vb false, []) else some (vb false, []) else none else none else none else none else none else none else none else none) := by kernel_rfl
end Go.Ev.Burn
namespace Brn
open Go
set_option linter.unusedVariables false
theorem kD_dd {n : Int} {ws : W} (h : Ok n ws) : kD n (distN n ws) + 1 = dd n ws ∧ solD n (distN n ws) (kD n (distN n ws) + 1) = best n ws ∧ kD n (distN n ws) < 9 := by
  have e : kD n (distN n ws) = (List.range 9).findIdx fun (k : Nat) => !(sols n ws ((k + 1 : Nat) : Int)).isEmpty := by
    unfold kD
    congr 1
    funext k
    rw [solD_eq h (by omega)]
  have e2 : kD n (distN n ws) + 1 = dd n ws := by rw [e]; rfl
  obtain ⟨d1, d2, _⟩ := dd_spec h
  have hhi := h.hi
  refine ⟨e2, ?_, by omega⟩
  rw [e2, solD_eq h d1]
  rfl
theorem tried_val {n : Int} {ws : W} (h : Ok n ws) (hc : chk n ws = 0) : fewV n ws = headL (best n ws) ∧ dayV n ws = ((headL (best n ws)).length : Int) ∧ cntV n ws = ((best n ws).length : Int) ∧ (headL (best n ws)).length ≤ 9 := by
  have hl := head_len h
  obtain ⟨d1, d2, _⟩ := dd_spec h
  have hhi := h.hi
  refine ⟨by unfold fewV; rw [hc]; rfl, by unfold dayV; rw [hc, hl]; rfl, by unfold cntV; rw [hc]; rfl, by omega⟩
end Brn
namespace Go.Ev.Burn
open Go Go.Ev
set_option maxRecDepth 1000000
set_option linter.unusedVariables false
set_option linter.unusedSimpArgs false
theorem TT_ok (N : Int) (W : Ws) (D : List Int) : TabOK (TT N W D) := by
  have h := S22_ok
  have h := h.addCall (g := 53) (r := c53) fun a H v H' hv => by refine CallOK.tab ?_ ?_ (c53_run a H v H' hv) <;> rfl
  have h := h.addCall (g := 50) (r := c50v N W D) fun a H v H' hv => by refine CallOK.tab ?_ ?_ (c50v_run N W D a H v H' hv) <;> rfl
  exact ⟨fun f a H v H' hv => by refine CallOK.tab ?_ ?_ (h.calls f a H v H' hv) <;> rfl, fun f l b k H o k' H' hv => by refine LoopOK.tab ?_ ?_ ?_ ?_ (h.loops f l b k H o k' H' hv) <;> rfl, h.fns, h.mixed⟩
theorem tried_body {pl x : Int} {b m : List Int} {N : Int} {W : Ws} {D : List Int} (hG : Brn.skG pl x 9 b m N W D = true) : evBody (TT N W D) 9 [.agg [.sc (.int .u8 pl), .run (.int .u8) b, .run (.int .u8) m, .sc (.int .u8 x)] false] [] = some (vb true, []) := by
  have M := made_of hG
  have ok := M.ok
  have hlo := ok.lo
  have hhi := ok.hi
  have hk := M.chk
  have hkP : Brn.chkP N W = 0 := by rw [Brn.chkP_eq]; exact hk
  obtain ⟨e1, e2, e3⟩ := Brn.kD_dd ok
  rw [← M.dist] at e1 e2 e3
  obtain ⟨f1, f2, f3, f4⟩ := Brn.tried_val ok hk
  have hsm : sm (Brn.headL (Brn.best N W)) = true := sm_of (k := 9) f4 (by omega)
  rw [nf9, cond_t (decide_eq_true (by show [1, b.length * 1, m.length * 1, 1] = _; rw [M.hb, M.hm]; kernel_rfl)), cond_t hG]
  have hD : (decide ([D.length * 1] = ([81] : List Nat))) = true := decide_eq_true (by rw [M.len])
  cases hN : decide (N = 1) with
  | true =>
    have hW := M.one (of_decide_eq_true hN)
    subst hW
    simp only [cond_true]
    rw [cond_t (by exact hD)]
    simp only [e2, f1, f2, f3, hk, hkP, hsm, decide_eq_true hlo, decide_eq_true hhi, decide_eq_true M.len, decide_eq_true e3, decide_true, beq_self_eq_true, Bool.and_self, cond_true]
  | false =>
    simp only [cond_false]
    rw [cond_t (by exact hD)]
    simp only [e2, f1, f2, f3, hk, hkP, hsm, M.sw, decide_eq_true hlo, decide_eq_true hhi, decide_eq_true M.len, decide_eq_true e3, decide_true, beq_self_eq_true, Bool.and_self, cond_true]
noncomputable def TTs (s : Brn.Sk) : Tab := TT (Brn.skN s 9) (Brn.skW s 9) (Brn.distN (Brn.skN s 9) (Brn.skW s 9))
theorem TTs_ok (s : Brn.Sk) : TabOK (TTs s) := TT_ok _ _ _
theorem tried_law (s : Brn.Sk) (r : s.Fit) : evBody (TTs s) 9 [aS s] [] = some (vb true, []) :=
  tried_body (skG_of r (by omega) (by omega))
end Go.Ev.Burn
