/- LaneBars: the body's normal form. -/
import Derived.Test.YtlckdhlepjimeaaBb
import Derived.Test.YtlckdhlepjimeaaSe
import Derived.Test.YtlckdhlepjimeaaFc
import Derived.Test.YtlckdhlepjimeaaSg
import Derived.Test.YtlckdhlepjimeaaBc
set_option linter.unusedVariables false
set_option linter.unusedSimpArgs false
namespace Go.Ev.Lane
open Go Go.Ev
set_option maxRecDepth 1000000
set_option maxHeartbeats 0
set_option linter.unusedVariables false
noncomputable def ZH : Tab := ((((((Y6.addCall 37 c37).addCall 38 c38).addCall 39 c39).addCall 40 c40).addCall 14 c14).addCall 15 cTrue)
theorem nf6 (sh ya ti l : List Int) (a b : Int) : evBody ZH 6 [aP a b sh, aX ya ti, lI l] [] = (bif Lan.big sh ya ti then some (vb true, []) else bif decide ((↑l.length : Int) > 40) then some (vb true, []) else bif sm sh && sm ya && sm ti then bif Lan.chk a b sh ya ti != 0 then bif sm sh && sm ya && sm ti then bif Lan.chk a b sh ya ti == 0 then bif (Lan.barA a b sh ya ti).isSome then bif sm ([] : List Int) && decide (Lan.brL (Lan.barA a b sh ya ti) = []) then bif Lan.chk a b sh ya ti == 0 then bif sm sh && sm ya && sm ti && sm l then bif sm sh && sm ya && sm ti && sm l then bif Lan.prvP a b sh ya ti l == Lan.prvE a b sh ya ti l then some (vb true, []) else some (vb false, []) else none else none else some (vb false, []) else none else bif Lan.chk a b sh ya ti == 13 then bif sm sh && sm ya && sm ti && sm l then bif sm sh && sm ya && sm ti && sm l then bif Lan.prvP a b sh ya ti l == Lan.prvE a b sh ya ti l then some (vb true, []) else some (vb false, []) else none else none else some (vb false, []) else bif Lan.chk a b sh ya ti == Lan.chk a b sh ya ti then bif sm sh && sm ya && sm ti && sm l then bif sm sh && sm ya && sm ti && sm l then bif Lan.prvP a b sh ya ti l == Lan.prvE a b sh ya ti l then some (vb true, []) else some (vb false, []) else none else none else some (vb false, []) else none else bif !Lan.leadB a b sh ya ti 0 then bif sm sh && sm ya && sm ti then bif Lan.chk a b sh ya ti == 0 then bif (Lan.barA a b sh ya ti).isSome then bif sm ([] : List Int) && decide (Lan.brL (Lan.barA a b sh ya ti) = []) then bif sm sh && sm ya && sm ti && sm l then bif sm sh && sm ya && sm ti && sm l then bif Lan.prvP a b sh ya ti l == Lan.prvE a b sh ya ti l then some (vb true, []) else some (vb false, []) else none else none else none else some (vb false, []) else bif 0 == Lan.chk a b sh ya ti then bif sm sh && sm ya && sm ti && sm l then bif sm sh && sm ya && sm ti && sm l then bif Lan.prvP a b sh ya ti l == Lan.prvE a b sh ya ti l then some (vb true, []) else some (vb false, []) else none else none else some (vb false, []) else none else bif (Lan.o1 a b sh ya ti (a * b).toNat).isSome && decide (1 < ya.length) then bif sm sh && sm ya && sm ti then bif Lan.chk a b sh ya ti == 0 then bif (Lan.barA a b sh ya ti).isSome then bif sm [(↑(Lan.n1 a b sh ya ti) : Int)] && decide (Lan.brL (Lan.barA a b sh ya ti) = [(↑(Lan.n1 a b sh ya ti) : Int)]) then bif sm sh && sm ya && sm ti && sm l then bif sm sh && sm ya && sm ti && sm l then bif Lan.prvP a b sh ya ti l == Lan.prvE a b sh ya ti l then some (vb true, []) else some (vb false, []) else none else none else none else none else none else none else bif (Lan.o2 a b sh ya ti (a * b).toNat).isSome && decide (2 < ya.length) then bif sm sh && sm ya && sm ti then bif Lan.chk a b sh ya ti == 0 then bif (Lan.barA a b sh ya ti).isSome then bif sm [(↑(Lan.n2 a b sh ya ti).fst : Int), (↑(Lan.n2 a b sh ya ti).snd : Int)] && decide (Lan.brL (Lan.barA a b sh ya ti) = [(↑(Lan.n2 a b sh ya ti).fst : Int), (↑(Lan.n2 a b sh ya ti).snd : Int)]) then bif sm sh && sm ya && sm ti && sm l then bif sm sh && sm ya && sm ti && sm l then bif Lan.prvP a b sh ya ti l == Lan.prvE a b sh ya ti l then some (vb true, []) else some (vb false, []) else none else none else none else none else none else none else bif sm sh && sm ya && sm ti then bif Lan.chk a b sh ya ti == 0 then bif (Lan.barA a b sh ya ti).isSome then bif sm ([] : List Int) && decide (Lan.brL (Lan.barA a b sh ya ti) = []) then some (vb false, []) else none else bif sm sh && sm ya && sm ti && sm l then bif sm sh && sm ya && sm ti && sm l then bif Lan.prvP a b sh ya ti l == Lan.prvE a b sh ya ti l then some (vb true, []) else some (vb false, []) else none else none else bif 13 == Lan.chk a b sh ya ti then bif sm sh && sm ya && sm ti && sm l then bif sm sh && sm ya && sm ti && sm l then bif Lan.prvP a b sh ya ti l == Lan.prvE a b sh ya ti l then some (vb true, []) else some (vb false, []) else none else none else some (vb false, []) else none else none) := by kernel_rfl
end Go.Ev.Lane
namespace Go.Ev.Lane
open Go Go.Ev
set_option maxRecDepth 1000000
set_option linter.unusedVariables false
set_option linter.unusedSimpArgs false
end Go.Ev.Lane
namespace Lan
open Go
theorem ofN_one (n : Nat) : ofN [(n : Int)] = 2 ^ n := by
  unfold ofN
  simp
theorem ofN_two (n m : Nat) : ofN [(n : Int), (m : Int)] = 2 ^ n ||| 2 ^ m := by
  unfold ofN
  simp
theorem in16_nat {n : Nat} (h : n < 16) : (decide (0 ≤ (n : Int)) && decide ((n : Int) < 16)) = true := by
  rw [decide_eq_true (by omega), decide_eq_true (by omega)]; rfl
theorem bar_lead {a b : Int} {sh ya ti l : List Int} (hk : ChkOK a b sh ya ti) (hl : in16 l = true) : barB a b sh ya ti l = (decide (l.length < ya.length) && !leadB a b sh ya ti (ofN l)) := by
  unfold barB
  rw [lead_iff hk hl, Bool.not_not]
theorem findSome_congr {α β : Type} {f g : α → Option β} : ∀ {l : List α}, (∀ x ∈ l, f x = g x) → l.findSome? f = l.findSome? g
  | [], _ => rfl
  | x :: l, h => by
    rw [List.findSome?_cons, List.findSome?_cons, h x (by simp), findSome_congr fun y hy => h y (by simp [hy])]
theorem brd1 {a b : Int} {sh ya ti : List Int} (hk : ChkOK a b sh ya ti) (hl : 1 < ya.length) : (brd a b sh ya ti 1 []).map (·.2) = (o1 a b sh ya ti (a * b).toNat).map fun n => [(n : Int)] := by
  have hab := (wrong_wrap hk.side).2.2
  rw [Ev.Lane.brd_range]
  have e : (frm []).toNat = 0 := rfl
  rw [e, Nat.sub_zero, ← List.range_eq_range']
  have h1 : ((List.range (a * b).toNat).findSome? fun (n : Nat) => (brd a b sh ya ti 0 ([] ++ [(n : Int)])).map fun r => (n, r.2)) = (List.range (a * b).toNat).findSome? fun n => (bif sk1 a b sh ya ti n then some n else none : Option Nat).map fun r => (n, [(r : Int)]) := by
    refine findSome_congr fun n hn => ?_
    have hn := List.mem_range.1 hn
    have h16 : in16 [(n : Int)] = true := by unfold in16; rw [List.all_cons, in16_nat (by omega)]; rfl
    show (bif barB a b sh ya ti [(n : Int)] then some (0, [(n : Int)]) else none).map _ = _
    rw [bar_lead hk h16, ofN_one, show decide ([(n : Int)].length < ya.length) = true from decide_eq_true hl]
    unfold sk1
    cases leadB a b sh ya ti (2 ^ n) <;> rfl
  rw [h1]
  unfold o1
  generalize List.range (a * b).toNat = l
  induction l with
  | nil => rfl
  | cons x l ih =>
    rw [List.findSome?_cons, List.find?_cons]
    cases sk1 a b sh ya ti x with
    | true => rfl
    | false => exact ih
theorem brd1n {a b : Int} {sh ya ti : List Int} (hk : ChkOK a b sh ya ti) (hl : 2 < ya.length) {n : Nat} (hn : (n : Int) < a * b) : brd a b sh ya ti 1 [(n : Int)] = (sk2 a b sh ya ti n).map fun (m : Nat) => (m, [(n : Int), (m : Int)]) := by
  have hab := (wrong_wrap hk.side).2.2
  rw [Ev.Lane.brd_range]
  have e : (frm [(n : Int)]).toNat = n + 1 := by
    show ((n : Int) + 1).toNat = n + 1
    omega
  rw [e]
  have h1 : ((List.range' (n + 1) ((a * b).toNat - (n + 1))).findSome? fun (m : Nat) => (brd a b sh ya ti 0 ([(n : Int)] ++ [(m : Int)])).map fun r => (m, r.2)) = (List.range' (n + 1) ((a * b).toNat - (n + 1))).findSome? fun m => (bif !leadB a b sh ya ti (2 ^ n ||| 2 ^ m) then some m else none : Option Nat).map fun r => (m, [(n : Int), (r : Int)]) := by
    refine findSome_congr fun m hm => ?_
    have hm := List.mem_range'_1.1 hm
    have h16 : in16 [(n : Int), (m : Int)] = true := by unfold in16; rw [List.all_cons, List.all_cons, in16_nat (show n < 16 by omega), in16_nat (show m < 16 by omega)]; rfl
    show (bif barB a b sh ya ti [(n : Int), (m : Int)] then some (0, [(n : Int), (m : Int)]) else none).map _ = _
    rw [bar_lead hk h16, ofN_two, show decide ([(n : Int), (m : Int)].length < ya.length) = true from decide_eq_true hl]
    cases leadB a b sh ya ti (2 ^ n ||| 2 ^ m) <;> rfl
  rw [h1]
  unfold sk2
  generalize List.range' (n + 1) ((a * b).toNat - (n + 1)) = l
  induction l with
  | nil => rfl
  | cons x l ih =>
    rw [List.findSome?_cons, List.find?_cons]
    cases leadB a b sh ya ti (2 ^ n ||| 2 ^ x) with
    | false => rfl
    | true => exact ih
theorem brd2 {a b : Int} {sh ya ti : List Int} (hk : ChkOK a b sh ya ti) (hl : 2 < ya.length) : (brd a b sh ya ti 2 []).map (·.2) = (o2 a b sh ya ti (a * b).toNat).map fun x => [(x.1 : Int), (x.2 : Int)] := by
  have hab := (wrong_wrap hk.side).2.2
  have hpos := (wrong_wrap hk.side).2.1
  rw [Ev.Lane.brd_range]
  have e : (frm []).toNat = 0 := rfl
  rw [e, Nat.sub_zero, ← List.range_eq_range']
  have h1 : ((List.range (a * b).toNat).findSome? fun (n : Nat) => (brd a b sh ya ti 1 ([] ++ [(n : Int)])).map fun r => (n, r.2)) = (List.range (a * b).toNat).findSome? fun n => (sk2 a b sh ya ti n).map fun (m : Nat) => (n, [(n : Int), (m : Int)]) := by
    refine findSome_congr fun n hn => ?_
    have hn := List.mem_range.1 hn
    show (brd a b sh ya ti 1 [(n : Int)]).map _ = _
    rw [brd1n hk hl (show (n : Int) < a * b by omega), Option.map_map]
    rfl
  rw [h1]
  unfold o2
  generalize List.range (a * b).toNat = l
  induction l with
  | nil => rfl
  | cons x l ih =>
    rw [List.findSome?_cons, List.findSome?_cons]
    cases sk2 a b sh ya ti x with
    | some m => rfl
    | none => exact ih
theorem barA_eq {a b : Int} {sh ya ti : List Int} (hk : ChkOK a b sh ya ti) : (barA a b sh ya ti).map (·.2) = bif !leadB a b sh ya ti 0 then some [] else bif (o1 a b sh ya ti (a * b).toNat).isSome && decide (1 < ya.length) then some [(n1 a b sh ya ti : Int)] else bif (o2 a b sh ya ti (a * b).toNat).isSome && decide (2 < ya.length) then some [((n2 a b sh ya ti).1 : Int), ((n2 a b sh ya ti).2 : Int)] else none := by
  have hp := hk.pos
  have hf := hk.few
  have e0 : (brd a b sh ya ti 0 []).map (·.2) = bif !leadB a b sh ya ti 0 then some [] else none := by
    show (bif barB a b sh ya ti [] then some (0, ([] : List Int)) else none).map _ = _
    rw [bar_lead hk rfl, show ofN [] = 0 from rfl, show decide (([] : List Int).length < ya.length) = true from decide_eq_true hp]
    cases leadB a b sh ya ti 0 <;> rfl
  have key : ∀ l : List Nat, (l.findSome? fun (m : Nat) => (brd a b sh ya ti m []).map fun r => (m, r.2)).map (·.2) = l.foldr (fun m z => ((brd a b sh ya ti m []).map (·.2)).or z) none := by
    intro l
    induction l with
    | nil => rfl
    | cons m l ih =>
      rw [List.findSome?_cons, List.foldr_cons, ← ih]
      cases brd a b sh ya ti m [] <;> rfl
  unfold barA n1 n2
  rw [key]
  have hcases : ya.length = 1 ∨ ya.length = 2 ∨ ya.length = 3 := by omega
  rcases hcases with h | h | h
  · rw [h, show List.range 1 = [0] from rfl, List.foldr_cons, e0]
    cases leadB a b sh ya ti 0 with
    | false => rfl
    | true => cases (o1 a b sh ya ti (a * b).toNat).isSome <;> cases (o2 a b sh ya ti (a * b).toNat).isSome <;> rfl
  · rw [h, show List.range 2 = [0, 1] from rfl, List.foldr_cons, List.foldr_cons, e0, brd1 hk (by omega)]
    cases leadB a b sh ya ti 0 with
    | false => rfl
    | true =>
      cases o1 a b sh ya ti (a * b).toNat with
      | some n => rfl
      | none => cases (o2 a b sh ya ti (a * b).toNat).isSome <;> rfl
  · rw [h, show List.range 3 = [0, 1, 2] from rfl, List.foldr_cons, List.foldr_cons, List.foldr_cons, e0, brd1 hk (by omega), brd2 hk (by omega)]
    cases leadB a b sh ya ti 0 with
    | false => rfl
    | true =>
      cases o1 a b sh ya ti (a * b).toNat with
      | some n => rfl
      | none => cases o2 a b sh ya ti (a * b).toNat <;> rfl
theorem prv_eq (a b : Int) (sh ya ti l : List Int) : (prvP a b sh ya ti l == prvE a b sh ya ti l) = true := by
  rw [beq_iff_eq]
  unfold prvP prvE
  cases hc : chk a b sh ya ti != 0 with
  | true => rfl
  | false =>
    have hk := chk_ok (by simpa using hc)
    cases ha : ascE a b l != 0 with
    | true => rfl
    | false =>
      rw [bar_lead hk (Ev.Lane.asc_16 hk.side (by simpa using ha))]
      simp only [cond_false]
      by_cases h : ya.length ≤ l.length
      · rw [decide_eq_true h, decide_eq_false (show ¬ l.length < ya.length by omega)]; rfl
      · rw [decide_eq_false h, decide_eq_true (show l.length < ya.length by omega)]
        cases leadB a b sh ya ti (ofN l) <;> rfl
end Lan
namespace Go.Ev.Lane
open Go Go.Ev
set_option maxRecDepth 1000000
set_option linter.unusedVariables false
set_option linter.unusedSimpArgs false
theorem ZH_ok : TabOK ZH := by
  have h := Y6_ok
  have h := h.addCall (g := 37) (r := c37) fun a H v H' hv => by refine CallOK.tab ?_ ?_ (c37_run a H v H' hv) <;> rfl
  have h := h.addCall (g := 38) (r := c38) fun a H v H' hv => by refine CallOK.tab ?_ ?_ (c38_run a H v H' hv) <;> rfl
  have h := h.addCall (g := 39) (r := c39) fun a H v H' hv => by refine CallOK.tab ?_ ?_ (c39_run a H v H' hv) <;> rfl
  have h := h.addCall (g := 40) (r := c40) fun a H v H' hv => by refine CallOK.tab ?_ ?_ (c40_run a H v H' hv) <;> rfl
  have h := h.addCall (g := 14) (r := c14) fun a H v H' hv => by refine CallOK.tab ?_ ?_ (c14_run a H v H' hv) <;> rfl
  exact h.addCall (g := 15) (r := cTrue) fun a H v H' hv => by refine CallOK.tab ?_ ?_ (cTrue_run a H v H' hv) <;> rfl
theorem bars_body (a b : Int) (sh ya ti l : List Int) : evBody ZH 6 [aP a b sh, aX ya ti, lI l] [] = some (vb true, []) := by
  refine (nf6 ..).trans ?_
  cases hb : Lan.big sh ya ti with
  | true => rfl
  | false =>
    have hs := Lan.big_no hb
    by_cases h40 : (l.length : Int) > 40
    · rw [decide_eq_true h40]; rfl
    · have hsl : sm l = true := decide_eq_true (by omega)
      have hpr := Lan.prv_eq a b sh ya ti l
      rw [decide_eq_false h40]
      simp only [cond_false, hs.1, hs.2.1, hs.2.2, hsl, hpr, Bool.and_self, cond_true]
      cases hc : Lan.chk a b sh ya ti == 0 with
      | false =>
        rw [show (Lan.chk a b sh ya ti != 0) = true by rw [bne, hc]; rfl]
        simp only [cond_true, cond_false, beq_self_eq_true]
      | true =>
        rw [show (Lan.chk a b sh ya ti != 0) = false by rw [bne, hc]; rfl]
        have hk := Lan.chk_ok (beq_iff_eq.1 hc)
        have hA := Lan.barA_eq hk
        have hq := beq_iff_eq.1 hc
        simp only [cond_true, cond_false]
        have yes : ∀ z, (Lan.barA a b sh ya ti).map (·.2) = some z → (Lan.barA a b sh ya ti).isSome = true ∧ Lan.brL (Lan.barA a b sh ya ti) = z := fun z hz => by
          unfold Lan.brL
          cases h : Lan.barA a b sh ya ti with
          | none => rw [h] at hz; cases hz
          | some x => rw [h] at hz; cases hz; exact ⟨rfl, rfl⟩
        cases h0 : !Lan.leadB a b sh ya ti 0 with
        | true =>
          rw [h0, cond_true] at hA
          obtain ⟨a1, a2⟩ := yes _ hA
          simp only [cond_true, a1, a2, decide_true, show sm ([] : List Int) = true from rfl, Bool.and_self]
        | false =>
          rw [h0, cond_false] at hA
          cases h1 : (Lan.o1 a b sh ya ti (a * b).toNat).isSome && decide (1 < ya.length) with
          | true =>
            rw [h1, cond_true] at hA
            obtain ⟨a1, a2⟩ := yes _ hA
            simp only [cond_true, cond_false, a1, a2, decide_true, show sm [(Lan.n1 a b sh ya ti : Int)] = true from rfl, Bool.and_self]
          | false =>
            rw [h1, cond_false] at hA
            cases h2 : (Lan.o2 a b sh ya ti (a * b).toNat).isSome && decide (2 < ya.length) with
            | true =>
              rw [h2, cond_true] at hA
              obtain ⟨a1, a2⟩ := yes _ hA
              simp only [cond_true, cond_false, a1, a2, decide_true, show sm [((Lan.n2 a b sh ya ti).1 : Int), ((Lan.n2 a b sh ya ti).2 : Int)] = true from rfl, Bool.and_self]
            | false =>
              rw [h2, cond_false] at hA
              have hn : (Lan.barA a b sh ya ti).isSome = false := by
                cases h : Lan.barA a b sh ya ti with
                | none => rfl
                | some x => rw [h] at hA; cases hA
              simp only [cond_true, cond_false, hn]
end Go.Ev.Lane
