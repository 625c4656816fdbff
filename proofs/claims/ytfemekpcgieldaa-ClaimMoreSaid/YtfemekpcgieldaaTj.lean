/- The laws by numbers: tables and normal forms. -/
import Derived.Test.YtfemekpcgieldaaTi
set_option linter.unusedVariables false
set_option linter.unusedSimpArgs false
namespace Go.Ev.Clm
open Go Go.Ev
set_option maxRecDepth 1000000
set_option linter.unusedVariables false
abbrev osV (r k : Nat) (t : Bool) : AV := .os r 0 0 k true t true
def _root_.Clm.qG (h : Int) (cl : List Int) (x most W : Int) (C : List Int) : Bool := Clm.fitB ⟨h, cl, x⟩ && decide (1 ≤ most) && decide (most ≤ 1000) && decide (W = Clm.quW ⟨h, cl, x⟩ most) && decide (C = Clm.quC ⟨h, cl, x⟩ most)
def c38v (W : Int) (C : List Int) (args : List AV) (H : Hp) : Tree (AV × Hp) := match args, H with
  | [.agg [.sc (.int .u8 h), .run (.int .u16) cl, .sc (.int .u16 x)] false, .sc (.int .i64 most)], [] => .br (Clm.qG h cl x most W C) (.leaf (.tuple [vi W, osW 0 C.length], [some (rI C)])) .fail
  | _, _ => .fail
theorem c38v_run (W : Int) (C : List Int) : ∀ args H v H', (c38v W C args H).val = some (v, H') → CallOK T31 38 args H v H' := by
  intro args H v H' hv
  unfold c38v at hv
  split at hv
  · rename_i h cl x most
    obtain ⟨hl, hv2⟩ := guard_val hv
    unfold Clm.qG at hl
    simp only [Bool.and_eq_true, decide_eq_true_eq] at hl
    obtain ⟨⟨⟨⟨h1, h2⟩, h3⟩, rfl⟩, rfl⟩ := hl
    refine c38_run _ _ _ _ ?_
    show (c38t cl most h x).val = _
    unfold c38t
    rw [h1, decide_eq_true h2, decide_eq_true h3]
    exact hv2
  · cases hv
noncomputable def TV (W : Int) (C : List Int) : Tab := T32.addCall 38 (c38v W C)
theorem nf6 (W : Int) (C : List Int) (h x : Int) (cl bs : List Int) : evBody (TV W C) 6 [aQ3 h cl x, aB bs] [] = (bif decide (List.map (fun (x : AV) => match x with | .run e l => l.length * e.size | _ => 1) [.sc (.int .u8 h), .run (.int .u16) cl, .sc (.int .u16 x)] = List.map (fun (x : AV) => match x with | .run e l => l.length * e.size | _ => 1) ((List.foldl (fun acc f => match acc, zeroC (Clm.TV W C).P 7 f.type with | some a, some c => some (a ++ c) | x, x_1 => none) (some []) [{ name := "Houses", type := 5, offset := 0, embedded := false, tag := "", pkgPath := "", byteOffset := 0 : Go.Field }, { name := "Claims", type := 38, offset := 1, embedded := false, tag := "", pkgPath := "", byteOffset := 2 : Go.Field }, { name := "Worth", type := 37, offset := 6, embedded := false, tag := "", pkgPath := "", byteOffset := 12 : Go.Field }]).getD [])) then bif decide (List.map (fun (x : AV) => match x with | .run e l => l.length * e.size | _ => 1) [.run (.int .u32) bs] = List.map (fun (x : AV) => match x with | .run e l => l.length * e.size | _ => 1) ((some [.run (.int .u32) (List.replicate 5 0)]).getD [])) then bif Clm.qG h cl x 1000 W C then bif Clm.chk W C == 0 then bif decide (2 * W ≤ Clm.sumI C) then bif Clm.divB W C (Clm.divV W C) then bif Clm.chk W C != 0 then some (vb false, []) else bif Clm.sb C && Clm.sb (Clm.divV W C) && decide ((Clm.divV W C).length = C.length) && decide (C.length ≤ 5) then bif Clm.foundV C (Clm.divV W C) then some (vb false, []) else bif Clm.chk W C == 0 && Clm.u32B bs && decide (bs.length = 5) then bif Clm.sb C && Clm.sb (Clm.spread W C bs) && decide ((Clm.spread W C bs).length = C.length) && decide (C.length ≤ 5) then bif Clm.foundV C (Clm.spread W C bs) then bif Clm.validV W C (Clm.spread W C bs) != 0 then some (vb false, []) else bif Clm.validV W C (Clm.divV W C) != 0 then some (vb false, []) else bif Clm.whyE W C (Clm.divV W C) != 13 then some (vb false, []) else bif sm (Clm.spread W C bs) then bif true == decide (Clm.spread W C bs = Clm.divV W C) then some (vb false, []) else bif Clm.whyE W C (Clm.spread W C bs) == 0 then bif Clm.why1 W C (Clm.spread W C bs) == (↑(Clm.iOf C (Clm.spread W C bs)) : Int) then bif Clm.why2 W C (Clm.spread W C bs) == (↑(Clm.jOf C (Clm.spread W C bs) (Clm.iOf C (Clm.spread W C bs))) : Int) then some (vb true, []) else some (vb false, []) else some (vb false, []) else some (vb false, []) else none else bif Clm.validV W C (Clm.spread W C bs) != 0 then some (vb false, []) else bif Clm.validV W C (Clm.divV W C) != 0 then some (vb false, []) else bif Clm.whyE W C (Clm.divV W C) != 13 then some (vb false, []) else bif sm (Clm.spread W C bs) then bif false == decide (Clm.spread W C bs = Clm.divV W C) then some (vb false, []) else bif Clm.whyE W C (Clm.spread W C bs) == 13 then bif Clm.why1 W C (Clm.spread W C bs) == 0 then bif Clm.why2 W C (Clm.spread W C bs) == 0 then some (vb true, []) else some (vb false, []) else some (vb false, []) else some (vb false, []) else none else none else none else none else none else bif Clm.divB W C (Clm.divV W C) then bif Clm.chk W C != 0 then some (vb false, []) else bif Clm.sb C && Clm.sb (Clm.divV W C) && decide ((Clm.divV W C).length = C.length) && decide (C.length ≤ 5) then bif Clm.foundV C (Clm.divV W C) then some (vb false, []) else bif Clm.chk W C == 0 && Clm.u32B bs && decide (bs.length = 5) then bif Clm.sb C && Clm.sb (Clm.spread W C bs) && decide ((Clm.spread W C bs).length = C.length) && decide (C.length ≤ 5) then bif Clm.foundV C (Clm.spread W C bs) then bif Clm.validV W C (Clm.spread W C bs) != 0 then some (vb false, []) else bif Clm.validV W C (Clm.divV W C) != 0 then some (vb false, []) else bif Clm.whyE W C (Clm.divV W C) != 13 then some (vb false, []) else bif sm (Clm.spread W C bs) then bif true == decide (Clm.spread W C bs = Clm.divV W C) then some (vb false, []) else bif Clm.whyE W C (Clm.spread W C bs) == 0 then bif Clm.why1 W C (Clm.spread W C bs) == (↑(Clm.iOf C (Clm.spread W C bs)) : Int) then bif Clm.why2 W C (Clm.spread W C bs) == (↑(Clm.jOf C (Clm.spread W C bs) (Clm.iOf C (Clm.spread W C bs))) : Int) then some (vb true, []) else some (vb false, []) else some (vb false, []) else some (vb false, []) else none else bif Clm.validV W C (Clm.spread W C bs) != 0 then some (vb false, []) else bif Clm.validV W C (Clm.divV W C) != 0 then some (vb false, []) else bif Clm.whyE W C (Clm.divV W C) != 13 then some (vb false, []) else bif sm (Clm.spread W C bs) then bif false == decide (Clm.spread W C bs = Clm.divV W C) then some (vb false, []) else bif Clm.whyE W C (Clm.spread W C bs) == 13 then bif Clm.why1 W C (Clm.spread W C bs) == 0 then bif Clm.why2 W C (Clm.spread W C bs) == 0 then some (vb true, []) else some (vb false, []) else some (vb false, []) else some (vb false, []) else none else none else none else none else none else bif Clm.chk W C != 0 then some (vb false, []) else bif Clm.divB W C [] then bif Clm.chk W C != 0 then some (vb false, []) else bif Clm.sb C && Clm.sb [] && decide (0 = C.length) && decide (C.length ≤ 5) then bif Clm.foundV C [] then some (vb false, []) else bif Clm.chk W C == 0 && Clm.u32B bs && decide (bs.length = 5) then bif Clm.sb C && Clm.sb (Clm.spread W C bs) && decide ((Clm.spread W C bs).length = C.length) && decide (C.length ≤ 5) then bif Clm.foundV C (Clm.spread W C bs) then bif Clm.validV W C (Clm.spread W C bs) != 0 then some (vb false, []) else bif Clm.validV W C [] != 0 then some (vb false, []) else bif Clm.whyE W C [] != 13 then some (vb false, []) else bif sm (Clm.spread W C bs) then bif true == decide (Clm.spread W C bs = []) then some (vb false, []) else bif Clm.whyE W C (Clm.spread W C bs) == 0 then bif Clm.why1 W C (Clm.spread W C bs) == (↑(Clm.iOf C (Clm.spread W C bs)) : Int) then bif Clm.why2 W C (Clm.spread W C bs) == (↑(Clm.jOf C (Clm.spread W C bs) (Clm.iOf C (Clm.spread W C bs))) : Int) then some (vb true, []) else some (vb false, []) else some (vb false, []) else some (vb false, []) else none else bif Clm.validV W C (Clm.spread W C bs) != 0 then some (vb false, []) else bif Clm.validV W C [] != 0 then some (vb false, []) else bif Clm.whyE W C [] != 13 then some (vb false, []) else bif sm (Clm.spread W C bs) then bif false == decide (Clm.spread W C bs = []) then some (vb false, []) else bif Clm.whyE W C (Clm.spread W C bs) == 13 then bif Clm.why1 W C (Clm.spread W C bs) == 0 then bif Clm.why2 W C (Clm.spread W C bs) == 0 then some (vb true, []) else some (vb false, []) else some (vb false, []) else some (vb false, []) else none else none else none else none else none else none else none else none) := by kernel_rfl
end Go.Ev.Clm
namespace Go.Ev.Clm
open Go Go.Ev
set_option maxRecDepth 1000000
set_option linter.unusedVariables false
set_option linter.unusedSimpArgs false
theorem TV_ok (W : Int) (C : List Int) : TabOK (TV W C) := by
  have h := T32_ok
  have h := h.addCall (g := 38) (r := c38v W C) fun a H v H' hv => by refine CallOK.tab ?_ ?_ (c38v_run W C a H v H' hv) <;> rfl
  exact h
noncomputable def TQ (m : Int) (q : Clm.Qu) : Tab := TV (Clm.quW q m) (Clm.quC q m)
theorem TQ_ok (m : Int) (q : Clm.Qu) : TabOK (TQ m q) := TV_ok _ _
theorem qG_ok {q : Clm.Qu} (hq : q.Fit) {m : Int} (h1 : 1 ≤ m) (h2 : m ≤ 1000) : Clm.qG q.houses q.claims q.worth m (Clm.quW q m) (Clm.quC q m) = true := by
  unfold Clm.qG
  rw [decide_eq_true h1, decide_eq_true h2, show Clm.fitB ⟨q.houses, q.claims, q.worth⟩ = true from Clm.fit_of hq]
  simp
theorem not_found {cs gs : List Int} (h : Clm.foundV cs gs = false) {i j : Nat} (hij : i < j) (hj : j < cs.length) : Clm.apartV cs gs i j = false := by
  unfold Clm.foundV at h
  have h := of_decide_eq_false h
  have hle := iOf_le cs gs
  have hi := iOf_before (cs := cs) (gs := gs) (i := i) (by omega) (by omega)
  have hl := jOf_le cs gs i
  exact jOf_before (by omega) hij hj
theorem found_no {cs gs : List Int} (h : ∀ i j : Nat, i < j → j < cs.length → Clm.apartV cs gs i j = false) : Clm.foundV cs gs = false := by
  unfold Clm.foundV
  refine decide_eq_false fun hc => ?_
  have h1 := iOf_at hc
  have g := jOf_at h1
  rw [h _ _ g.1 h1] at g
  cases g.2
theorem div_sb {w : Int} {cs gs : List Int} (ok : Clm.OkW w cs) (d : Clm.Div w cs gs) : Clm.sb gs = true := Clm.sb_of fun x hx => by have := okG_in ok d.len d.g x hx; omega
theorem garment_body (q : Clm.Qu) (hq : q.Fit) (bs : List Int) (hb : bs.length = 5 ∧ ∀ x ∈ bs, 0 ≤ x ∧ x < 4294967296) : evBody (TQ 1000 q) 6 [.agg [.sc (.int .u8 q.houses), .run (.int .u16) q.claims, .sc (.int .u16 q.worth)] false, .agg [.run (.int .u32) bs] false] [] = some (vb true, []) := by
  have hG := qG_ok hq (m := 1000) (by omega) (by omega)
  have ok := Clm.qu_ok hq (most := 1000) (by omega) (by omega)
  have hcl := hq.c.1
  unfold TQ
  generalize Clm.quW q 1000 = W at *
  generalize Clm.quC q 1000 = C at *
  have hn := ok.len
  have dD := Clm.rule_div ok
  have dS := Clm.spread_div (bs := bs) ok (by omega) fun x hx => (hb.2 x hx).1
  have hc : Clm.chk W C = 0 := Clm.ok_iff ok
  have fD : Clm.foundV C (Clm.divV W C) = false := found_no fun i j hij hj => Clm.div_one ok (by omega) hj
  have vD : Clm.validV W C (Clm.divV W C) = 0 := Clm.valid_of ok dD
  have vS : Clm.validV W C (Clm.spread W C bs) = 0 := Clm.valid_of ok dS
  have wD : Clm.whyE W C (Clm.divV W C) = 13 := by unfold Clm.whyE; rw [vD, fD]; rfl
  have hB := Clm.divB_of ok dD
  have hu := Clm.u32_of hb.2
  have s1 := sb_ok ok
  have s2 := div_sb ok dD
  have s3 := div_sb ok dS
  have s4 : sm (Clm.spread W C bs) = true := sm_of (k := 5) (by rw [dS.len]; omega) (by omega)
  rw [nf6]
  refine (cond_t ?_).trans ?_
  · refine decide_eq_true ?_
    show ([1, q.claims.length * 1, 1] : List Nat) = _
    rw [hcl]
    kernel_rfl
  refine (cond_t ?_).trans ?_
  · refine decide_eq_true ?_
    show ([bs.length * 1] : List Nat) = _
    rw [hb.1]
    kernel_rfl
  simp only [hG, hc, hB, fD, vD, vS, wD, s1, s2, s3, s4, hu, dD.len, dS.len, decide_eq_true hn, decide_eq_true hb.1, decide_true, beq_self_eq_true, Bool.and_self, cond_true, cond_false, show ((0 : Int) != 0) = false from rfl, show ((13 : Int) != 13) = false from rfl]
  cases hf : Clm.foundV C (Clm.spread W C bs) with
  | true =>
    have hne : Clm.spread W C bs ≠ Clm.divV W C := fun e => by rw [e, fD] at hf; cases hf
    have e1 : Clm.whyE W C (Clm.spread W C bs) = 0 := by unfold Clm.whyE; rw [vS, hf]; rfl
    have e2 : Clm.why1 W C (Clm.spread W C bs) = (Clm.iOf C (Clm.spread W C bs) : Nat) := by unfold Clm.why1; rw [vS, hf]; rfl
    have e3 : Clm.why2 W C (Clm.spread W C bs) = (Clm.jOf C (Clm.spread W C bs) (Clm.iOf C (Clm.spread W C bs)) : Nat) := by unfold Clm.why2; rw [vS, hf]; rfl
    simp only [cond_true, e1, e2, e3, decide_eq_false hne, beq_self_eq_true]
    cases decide (2 * W ≤ Clm.sumI C) <;> rfl
  | false =>
    have he : Clm.spread W C bs = Clm.divV W C := Clm.uniq dS.len dD.len (dS.sum.trans dD.sum.symm) (fun i j hij hj => not_found hf hij hj) (fun i j hij hj => not_found fD hij hj)
    rw [he] at *
    have e2 : Clm.why1 W C (Clm.divV W C) = 0 := by unfold Clm.why1; rw [vD, fD]; rfl
    have e3 : Clm.why2 W C (Clm.divV W C) = 0 := by unfold Clm.why2; rw [vD, fD]; rfl
    simp only [cond_true, cond_false, wD, e2, e3, decide_true, beq_self_eq_true]
    cases decide (2 * W ≤ Clm.sumI C) <;> rfl
end Go.Ev.Clm
