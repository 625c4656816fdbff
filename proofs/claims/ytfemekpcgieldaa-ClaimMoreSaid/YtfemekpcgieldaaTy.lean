/- More: the body. -/
import Derived.Test.YtfemekpcgieldaaTw
import Derived.Test.YtfemekpcgieldaaTx
set_option linter.unusedVariables false
set_option linter.unusedSimpArgs false
namespace Go.Ev.Clm
open Go Go.Ev
set_option maxRecDepth 1000000
set_option maxHeartbeats 0
set_option linter.unusedVariables false
theorem nf14 (W : Int) (C : List Int) (h x : Int) (cl bs : List Int) : evBody (TM4 W C) 14 [.agg [.sc (.int .u8 h), .run (.int .u16) cl, .sc (.int .u16 x)] false, aCM bs] [] = (bif decide (List.map (fun (x : AV) => match x with | .run e l => l.length * e.size | _ => 1) [.sc (.int .u8 h), .run (.int .u16) cl, .sc (.int .u16 x)] = List.map (fun (x : AV) => match x with | .run e l => l.length * e.size | _ => 1) ((List.foldl (fun acc f => match acc, zeroC (Clm.TM4 W C).P 7 f.type with | some a, some c => some (a ++ c) | x, x_1 => none) (some []) [{ name := "Houses", type := 5, offset := 0, embedded := false, tag := "", pkgPath := "", byteOffset := 0 : Go.Field }, { name := "Claims", type := 38, offset := 1, embedded := false, tag := "", pkgPath := "", byteOffset := 2 : Go.Field }, { name := "Worth", type := 37, offset := 6, embedded := false, tag := "", pkgPath := "", byteOffset := 12 : Go.Field }]).getD [])) then bif decide (List.map (fun (x : AV) => match x with | .run e l => l.length * e.size | _ => 1) [.run (.int .u8) bs] = List.map (fun (x : AV) => match x with | .run e l => l.length * e.size | _ => 1) ((some [.run (.int .u8) (List.replicate 5 0)]).getD [])) then bif Clm.qG h cl x 300 W C then bif decide (0 ≤ (↑C.length : Int)) && decide ((↑C.length : Int) ≤ 5) then bif decide ((↑C.length : Int) = (↑(↑C.length : Int).toNat : Int)) && decide ((↑C.length : Int).toNat ≤ 5) && decide (1 ≤ (↑C.length : Int).toNat) && decide (Clm.rngI (↑C.length : Int).toNat = Clm.rngI (↑C.length : Int).toNat) && decide (bs.length = 5) && Clm.u8M bs then bif Clm.chk W C == 0 then bif Clm.ordE W C (Clm.moO bs (↑C.length : Int).toNat) == 0 then bif Clm.divB W C (Clm.ordV W C (Clm.moO bs (↑C.length : Int).toNat)) then bif sm C && Clm.sb C then bif decide (W < Clm.sumI C) then bif Clm.chk (IntKind.i64.wrap (W + 1)) C == 0 then bif Clm.ordE (IntKind.i64.wrap (W + 1)) C (Clm.moO bs (↑C.length : Int).toNat) == 0 then bif Clm.divB (IntKind.i64.wrap (W + 1)) C (Clm.ordV (IntKind.i64.wrap (W + 1)) C (Clm.moO bs (↑C.length : Int).toNat)) then bif decide (C.length = C.length) && decide (C.length = C.length) && decide (C.length = C.length) && Clm.lensM C.length C.length C.length C.length C.length && Clm.lensM C.length C.length C.length C.length C.length && decide (C.length ≤ 5) && Clm.moreB C (Clm.divV W C) (Clm.divV (IntKind.i64.wrap (W + 1)) C) && Clm.moreB C (Clm.gainV W C) (Clm.gainV (IntKind.i64.wrap (W + 1)) C) && Clm.moreB C (Clm.lossV W C) (Clm.lossV (IntKind.i64.wrap (W + 1)) C) && Clm.moreB C (Clm.avgV W C) (Clm.avgV (IntKind.i64.wrap (W + 1)) C) && decide ((↑C.length : Int) = (↑C.length : Int)) && Clm.moreB C (Clm.ordV W C (Clm.moO bs (↑C.length : Int).toNat)) (Clm.ordV (IntKind.i64.wrap (W + 1)) C (Clm.moO bs (↑C.length : Int).toNat)) then bif sm C && Clm.sb C then bif (Clm.sumI C).tmod 2 == 1 then bif decide (0 < (↑C.length : Int)) then oM C[0]? fun x => bif decide (0 < (↑C.length : Int)) then oM C[0]? fun x_1 => bif sm (C.set 0 (IntKind.i64.wrap (x + 1))) && Clm.sb (C.set 0 (IntKind.i64.wrap (x + 1))) then bif Clm.chk (IntKind.i64.wrap ((Clm.sumI (C.set 0 (IntKind.i64.wrap (x + 1)))).tdiv 2)) (C.set 0 (IntKind.i64.wrap (x + 1))) == 0 then bif decide (C.length = (C.set 0 (IntKind.i64.wrap (x + 1))).length) && decide ((↑C.length : Int) = (↑(C.set 0 (IntKind.i64.wrap (x + 1))).length : Int)) && Clm.lensM (C.set 0 (IntKind.i64.wrap (x + 1))).length (C.set 0 (IntKind.i64.wrap (x + 1))).length (C.set 0 (IntKind.i64.wrap (x + 1))).length (C.set 0 (IntKind.i64.wrap (x + 1))).length (C.set 0 (IntKind.i64.wrap (x + 1))).length && decide ((C.set 0 (IntKind.i64.wrap (x + 1))).length ≤ 5) && Clm.sb (C.set 0 (IntKind.i64.wrap (x + 1))) && Clm.halfB (C.set 0 (IntKind.i64.wrap (x + 1))) (Clm.divV (IntKind.i64.wrap ((Clm.sumI (C.set 0 (IntKind.i64.wrap (x + 1)))).tdiv 2)) (C.set 0 (IntKind.i64.wrap (x + 1)))) && Clm.halfB (C.set 0 (IntKind.i64.wrap (x + 1))) (Clm.avgV (IntKind.i64.wrap ((Clm.sumI (C.set 0 (IntKind.i64.wrap (x + 1)))).tdiv 2)) (C.set 0 (IntKind.i64.wrap (x + 1)))) then some (vb true, []) else none else none else none else none else none else bif sm C && Clm.sb C then bif Clm.chk (IntKind.i64.wrap ((Clm.sumI C).tdiv 2)) C == 0 then bif decide (C.length = C.length) && decide ((↑C.length : Int) = (↑C.length : Int)) && Clm.lensM C.length C.length C.length C.length C.length && decide (C.length ≤ 5) && Clm.sb C && Clm.halfB C (Clm.divV (IntKind.i64.wrap ((Clm.sumI C).tdiv 2)) C) && Clm.halfB C (Clm.avgV (IntKind.i64.wrap ((Clm.sumI C).tdiv 2)) C) then some (vb true, []) else none else none else none else none else none else none else none else none else bif sm C && Clm.sb C then bif (Clm.sumI C).tmod 2 == 1 then bif decide (0 < (↑C.length : Int)) then oM C[0]? fun x => bif decide (0 < (↑C.length : Int)) then oM C[0]? fun x_1 => bif sm (C.set 0 (IntKind.i64.wrap (x + 1))) && Clm.sb (C.set 0 (IntKind.i64.wrap (x + 1))) then bif Clm.chk (IntKind.i64.wrap ((Clm.sumI (C.set 0 (IntKind.i64.wrap (x + 1)))).tdiv 2)) (C.set 0 (IntKind.i64.wrap (x + 1))) == 0 then bif decide (C.length = (C.set 0 (IntKind.i64.wrap (x + 1))).length) && decide ((↑C.length : Int) = (↑(C.set 0 (IntKind.i64.wrap (x + 1))).length : Int)) && Clm.lensM (C.set 0 (IntKind.i64.wrap (x + 1))).length (C.set 0 (IntKind.i64.wrap (x + 1))).length (C.set 0 (IntKind.i64.wrap (x + 1))).length (C.set 0 (IntKind.i64.wrap (x + 1))).length (C.set 0 (IntKind.i64.wrap (x + 1))).length && decide ((C.set 0 (IntKind.i64.wrap (x + 1))).length ≤ 5) && Clm.sb (C.set 0 (IntKind.i64.wrap (x + 1))) && Clm.halfB (C.set 0 (IntKind.i64.wrap (x + 1))) (Clm.divV (IntKind.i64.wrap ((Clm.sumI (C.set 0 (IntKind.i64.wrap (x + 1)))).tdiv 2)) (C.set 0 (IntKind.i64.wrap (x + 1)))) && Clm.halfB (C.set 0 (IntKind.i64.wrap (x + 1))) (Clm.avgV (IntKind.i64.wrap ((Clm.sumI (C.set 0 (IntKind.i64.wrap (x + 1)))).tdiv 2)) (C.set 0 (IntKind.i64.wrap (x + 1)))) then some (vb true, []) else none else none else none else none else none else bif sm C && Clm.sb C then bif Clm.chk (IntKind.i64.wrap ((Clm.sumI C).tdiv 2)) C == 0 then bif decide (C.length = C.length) && decide ((↑C.length : Int) = (↑C.length : Int)) && Clm.lensM C.length C.length C.length C.length C.length && decide (C.length ≤ 5) && Clm.sb C && Clm.halfB C (Clm.divV (IntKind.i64.wrap ((Clm.sumI C).tdiv 2)) C) && Clm.halfB C (Clm.avgV (IntKind.i64.wrap ((Clm.sumI C).tdiv 2)) C) then some (vb true, []) else none else none else none else none else none else none else none else none else none else none else none else none else none) := by kernel_rfl
end Go.Ev.Clm
namespace Go.Ev.Clm
open Go Go.Ev
set_option maxRecDepth 1000000
set_option maxHeartbeats 0
set_option linter.unusedVariables false
set_option linter.unusedSimpArgs false
noncomputable def TMQ (m : Int) (q : Clm.Qu) : Tab := TM4 (Clm.quW q m) (Clm.quC q m)
theorem TMQ_ok (m : Int) (q : Clm.Qu) : TabOK (TMQ m q) := TM4_ok _ _
theorem u8M_of {l : List Int} (h : ∀ x ∈ l, 0 ≤ x ∧ x < 256) : Clm.u8M l = true := by
  unfold Clm.u8M
  simp only [Bool.and_eq_true, decide_eq_true_eq, List.all_eq_true]
  exact h
theorem moreB_of {cs l m : List Int} (h1 : l.length = cs.length) (h2 : m.length = cs.length) (h : ∀ i : Nat, i < cs.length → Clm.at0 l i ≤ Clm.at0 m i) : Clm.moreB cs l m = true := by
  unfold Clm.moreB
  simp only [Bool.and_eq_true, decide_eq_true_eq, List.all_eq_true, List.mem_range]
  exact ⟨⟨h1, h2⟩, h⟩
theorem half_all {W : Int} {C : List Int} (ok : Clm.OkW W C) (hs : 2 * ((Clm.sumI C).tdiv 2) = Clm.sumI C) :
    IntKind.i64.wrap ((Clm.sumI C).tdiv 2) = (Clm.sumI C).tdiv 2 ∧ Clm.chk ((Clm.sumI C).tdiv 2) C = 0 ∧ Clm.halfB C (Clm.divV ((Clm.sumI C).tdiv 2) C) = true ∧ Clm.halfB C (Clm.avgV ((Clm.sumI C).tdiv 2) C) = true ∧ sm C = true ∧ Clm.sb C = true := by
  have hlo := ok.lo
  have hhi := ok.hi
  have hn := ok.len
  have hb : Clm.sumI C ≤ 5000 := by
    have := Clm.sumI_bd (l := C) (B := 1000) (by omega) fun x hx => by have := ok.rng x hx; omega
    omega
  have ok2 : Clm.OkW ((Clm.sumI C).tdiv 2) C := ⟨ok.ne, ok.len, ok.rng, by omega, by omega⟩
  have d1 := Clm.rule_div ok2
  have d2 := (Clm.avg_div ok2).1
  refine ⟨wrapi (by omega) (by omega), Clm.ok_iff ok2, ?_, ?_, sm_of (k := 5) hn (by omega), sb_ok ok⟩
  · unfold Clm.halfB
    simp only [d1.len, decide_true, Bool.true_and, List.all_eq_true, List.mem_range, beq_iff_eq]
    exact fun i hi => Clm.half_rule ok2 hs hi
  · unfold Clm.halfB
    simp only [d2.len, decide_true, Bool.true_and, List.all_eq_true, List.mem_range, beq_iff_eq]
    exact fun i hi => Clm.half_avg ok2 hs hi
theorem more_body (q : Clm.Qu) (hq : q.Fit) (bs : List Int) (hb : bs.length = 5 ∧ ∀ x ∈ bs, 0 ≤ x ∧ x < 256) : evBody (TMQ 300 q) 14 [.agg [.sc (.int .u8 q.houses), .run (.int .u16) q.claims, .sc (.int .u16 q.worth)] false, .agg [.run (.int .u8) bs] false] [] = some (vb true, []) := by
  have hG := qG_ok hq (m := 300) (by omega) (by omega)
  have ok := Clm.qu_ok hq (most := 300) (by omega) (by omega)
  have hin := Clm.qu_in hq (m := 300) (by omega)
  have hcl := hq.c.1
  unfold TMQ
  generalize Clm.quW q 300 = W at *
  generalize Clm.quC q 300 = C at *
  have hn := ok.len
  have hne : 0 < C.length := List.length_pos_iff.2 ok.ne
  have hlo := ok.lo
  have hhi := ok.hi
  have hb0 : ∀ x ∈ bs, 0 ≤ x := fun x hx => (hb.2 x hx).1
  have ho := Clm.mo_perm hb0 C.length
  have hu := u8M_of hb.2
  have hc : Clm.chk W C = 0 := Clm.ok_iff ok
  have hE := Clm.ordE_perm ok ho
  have dO := (Clm.ord_div ok ho).1
  have hD := Clm.divB_of ok dO
  have d1 := Clm.rule_div ok
  have d2 := (Clm.gain_div ok).1
  have d3 := (Clm.loss_div ok).1
  have d4 := (Clm.avg_div ok).1
  have s1 := sb_ok ok
  have s2 : sm C = true := sm_of (k := 5) hn (by omega)
  have hl1 : Clm.lensM C.length C.length C.length C.length C.length = true := by unfold Clm.lensM; simp only [decide_true, Bool.and_self]
  have hb5 : Clm.sumI C ≤ 5000 := by
    have := Clm.sumI_bd (l := C) (B := 1000) (by omega) fun x hx => by have := ok.rng x hx; omega
    omega
  rw [nf14]
  refine (cond_t ?_).trans ?_
  · refine decide_eq_true ?_
    show ([1, q.claims.length * 1, 1] : List Nat) = _
    rw [hcl]
    kernel_rfl
  refine (cond_t ?_).trans ?_
  · refine decide_eq_true ?_
    show ([bs.length * 1] : List Nat) = _
    rw [hb.1]
    kernel_rfl
  rw [wrapi (x := W + 1) (by omega) (by omega)]
  have tail : ∀ X : Option (AV × Hp), X = some (vb true, []) → ∀ Y : Option (AV × Hp), Y = some (vb true, []) → ∀ b : Bool, (bif b then X else Y) = some (vb true, []) := fun X hX Y hY b => by cases b <;> assumption
  have hs0 := Int.tmod_eq_emod_of_nonneg (a := Clm.sumI C) (b := 2) (by omega)
  have hd0 := Int.tdiv_eq_ediv_of_nonneg (a := Clm.sumI C) (b := 2) (by omega)
  -- more than the worth
  have hmore : W < Clm.sumI C → Clm.chk (W + 1) C = 0 ∧ Clm.ordE (W + 1) C (Clm.moO bs C.length) = 0 ∧ Clm.divB (W + 1) C (Clm.ordV (W + 1) C (Clm.moO bs C.length)) = true ∧ Clm.moreB C (Clm.divV W C) (Clm.divV (W + 1) C) = true ∧ Clm.moreB C (Clm.gainV W C) (Clm.gainV (W + 1) C) = true ∧ Clm.moreB C (Clm.lossV W C) (Clm.lossV (W + 1) C) = true ∧ Clm.moreB C (Clm.avgV W C) (Clm.avgV (W + 1) C) = true ∧ Clm.moreB C (Clm.ordV W C (Clm.moO bs C.length)) (Clm.ordV (W + 1) C (Clm.moO bs C.length)) = true := fun hlt => by
    have ok1 : Clm.OkW (W + 1) C := ⟨ok.ne, ok.len, ok.rng, by omega, by omega⟩
    have e1 := Clm.rule_div ok1
    have e2 := (Clm.gain_div ok1).1
    have e3 := (Clm.loss_div ok1).1
    have e4 := (Clm.avg_div ok1).1
    have eO := (Clm.ord_div ok1 ho).1
    exact ⟨Clm.ok_iff ok1, Clm.ordE_perm ok1 ho, Clm.divB_of ok1 eO, moreB_of d1.len e1.len fun i hi => Clm.more_rule ok ok1 (by omega) hi, moreB_of d2.len e2.len fun i hi => Clm.more_gain ok ok1 (by omega) hi, moreB_of d3.len e3.len fun i hi => Clm.more_loss ok ok1 (by omega) hi, moreB_of d4.len e4.len fun i hi => Clm.more_avg ok ok1 (by omega) hi, moreB_of dO.len eO.len fun i hi => Clm.more_ord ok ok1 (by omega) ho hi⟩
  cases hp : (Clm.sumI C).tmod 2 == 1 with
  | true =>
    have hp := beq_iff_eq.1 hp
    obtain ⟨c, l, rfl⟩ := List.exists_cons_of_ne_nil ok.ne
    have hset : (c :: l).set 0 (c + 1) = (c + 1) :: l := rfl
    have hsum : Clm.sumI ((c + 1) :: l) = Clm.sumI (c :: l) + 1 := by rw [Clm.sumI_cons, Clm.sumI_cons]; omega
    have hd1 := Int.tdiv_eq_ediv_of_nonneg (a := Clm.sumI ((c + 1) :: l)) (b := 2) (by omega)
    have hc1 := hin c (by simp)
    have ok3 : Clm.OkW W ((c + 1) :: l) := ⟨by simp, ok.len, fun x hx => by
      rcases List.mem_cons.1 hx with rfl | hx
      · omega
      · exact ok.rng x (by simp [hx]), ok.lo, by omega⟩
    obtain ⟨t1, t2, t3, t4, t5, t6⟩ := half_all ok3 (by omega)
    have hlen : ((c + 1) :: l).length = (c :: l).length := rfl
    have g0 : (c :: l)[0]? = some c := rfl
    cases hlt : decide (W < Clm.sumI (c :: l)) with
    | true =>
      obtain ⟨m1, m2, m3, m4, m5, m6, m7, m8⟩ := hmore (of_decide_eq_true hlt)
      simp only [hG, hc, hE, hD, hu, s1, s2, hl1, m1, m2, m3, m4, m5, m6, m7, m8, t1, t2, t3, t4, t5, t6, g0, hset, hlen, oM, wrapi (x := c + 1) (by omega) (by omega), toNat_cast, decide_eq_true hn, decide_eq_true hb.1, decide_eq_true (show (0 : Int) ≤ ((c :: l).length : Int) by omega), decide_eq_true (show ((c :: l).length : Int) ≤ 5 by omega), decide_eq_true (show 1 ≤ (c :: l).length by omega), decide_eq_true (show (0 : Int) < ((c :: l).length : Int) by omega), decide_true, beq_self_eq_true, Bool.and_self, cond_true]
    | false =>
      simp only [hG, hc, hE, hD, hu, s1, s2, hl1, t1, t2, t3, t4, t5, t6, g0, hset, hlen, oM, wrapi (x := c + 1) (by omega) (by omega), toNat_cast, decide_eq_true hn, decide_eq_true hb.1, decide_eq_true (show (0 : Int) ≤ ((c :: l).length : Int) by omega), decide_eq_true (show ((c :: l).length : Int) ≤ 5 by omega), decide_eq_true (show 1 ≤ (c :: l).length by omega), decide_eq_true (show (0 : Int) < ((c :: l).length : Int) by omega), decide_true, beq_self_eq_true, Bool.and_self, cond_true, cond_false]
  | false =>
    have hp := beq_eq_false_iff_ne.1 hp
    obtain ⟨t1, t2, t3, t4, t5, t6⟩ := half_all ok (by omega)
    cases hlt : decide (W < Clm.sumI C) with
    | true =>
      obtain ⟨m1, m2, m3, m4, m5, m6, m7, m8⟩ := hmore (of_decide_eq_true hlt)
      simp only [hG, hc, hE, hD, hu, s1, s2, hl1, m1, m2, m3, m4, m5, m6, m7, m8, t1, t2, t3, t4, toNat_cast, decide_eq_true hn, decide_eq_true hb.1, decide_eq_true (show (0 : Int) ≤ (C.length : Int) by omega), decide_eq_true (show (C.length : Int) ≤ 5 by omega), decide_eq_true (show 1 ≤ C.length by omega), decide_true, beq_self_eq_true, Bool.and_self, cond_true, cond_false]
    | false =>
      simp only [hG, hc, hE, hD, hu, s1, s2, hl1, t1, t2, t3, t4, toNat_cast, decide_eq_true hn, decide_eq_true hb.1, decide_eq_true (show (0 : Int) ≤ (C.length : Int) by omega), decide_eq_true (show (C.length : Int) ≤ 5 by omega), decide_eq_true (show 1 ≤ C.length by omega), decide_true, beq_self_eq_true, Bool.and_self, cond_true, cond_false]
end Go.Ev.Clm
