/- Split: tables and normal forms. -/
import Derived.Test.YtfemekpcgieldaaTk
set_option linter.unusedVariables false
set_option linter.unusedSimpArgs false
namespace Go.Ev.Clm
open Go Go.Ev
set_option maxRecDepth 1000000
set_option linter.unusedVariables false
theorem nl11_4 (W : Int) (C : List Int) (again : Ag) (cs out : List Int) (t : TypeId) (w m i : Int) (k : Nat) : lpStep (TO W C) 11 4 0 (lpc (TO W C) 11 4) again [vi w, osW 0 k, osW 1 out.length, osW 0 k, vi m, vi i] [some (rowI cs t), some (rI out)] = (bif decide (i < m) then bif decide (0 ≤ i) then bif decide (i < (↑k : Int)) then oM cs[i.toNat]? fun x => bif room (out.length + 1) 8 then again [vi w, osW 0 k, osW 1 (out.length + 1), osW 0 k, vi m, vi (IntKind.i64.wrap (i + 1))] [some ⟨[.run (.int .i64) cs], false, t, false, false, none⟩, some ⟨[.run (.int .i64) (out ++ [IntKind.i64.wrap (2 * x)])], false, 3, false, false, none⟩] else none else none else none else some (.ext 0, [vi w, osW 0 k, osW 1 out.length, osW 0 k, vi m, vi i], [some ⟨[.run (.int .i64) cs], false, t, false, false, none⟩, some ⟨[.run (.int .i64) out], false, Clm.tyI out, false, false, none⟩])) := by kernel_rfl
def l11_4t (cs : List Int) (t : TypeId) (w m : Int) (k k2 : Nat) : Tree (Out × List AV × Hp) := .br (decide (k2 = k) && decide (k = cs.length) && decide (m = cs.length) && decide (cs.length ≤ 5) && Clm.sb cs) (.leaf (.ext 0, [vi w, osW 0 k, osW 1 k, osW 0 k, vi m, vi m], [some (rowI cs t), some (rI (Clm.times 2 cs))])) .fail
def l11_4 (base : Nat) (kv : List AV) (H : Hp) : Tree (Out × List AV × Hp) := match Nat.beq base 0, kv, H with
  | true, [(.sc (.int .i64 w)), (.os 0 0 0 k true false true), (.os 1 0 0 0 true false true), (.os 0 0 0 k2 true false true), (.sc (.int .i64 m)), (.sc (.int .i64 0))], [some ⟨[.run (.int .i64) cs], false, t, false, false, none⟩, some ⟨[.run (.int .i64) []], false, 0, false, false, none⟩] => l11_4t cs t w m k k2
  | _, _, _ => .fail
theorem l11_4_ok {T : Tab} (hT : TabOK T) (hlo : loopOf T.fn 11 4 = some (lpc T 11 4)) (h : ∀ (cs : List Int) (t : TypeId) (w m : Int) (k k2 : Nat) (r : Out × List AV × Hp), (l11_4t cs t w m k k2).val = some r → ∃ mm, lpRun T 11 4 0 (lpc T 11 4) mm [vi w, osW 0 k, osW 1 0, osW 0 k2, vi m, vi 0] [some (rowI cs t), some (rowI [] 0)] = some r) : ∀ base kv H o kv' H', (l11_4 base kv H).val = some (o, kv', H') → LoopOK T 11 4 base kv H o kv' H' := by
  intro base kv H o kv' H' hv
  unfold l11_4 at hv
  split at hv
  · rename_i hb
    obtain rfl := Nat.eq_of_beq_eq_true hb
    exact loop_ok hT hlo (h _ _ _ _ _ _ _ hv)
  · cases hv
theorem nl11_15 (W : Int) (C : List Int) (again : Ag) (c d cs : List Int) (uc : Bool) (kc kd k : Nat) (tc td t : TypeId) (m i : Int) : lpStep (TO W C) 11 15 0 (lpc (TO W C) 11 15) again [.dead, osV 0 kc uc, osT 1 kd, osW 2 k, vi m, vi i] [some (rowI c tc), some (rowI d td), some (rowI cs t)] = (bif decide (i < m) then bif decide (0 ≤ i) then bif decide (i < (↑k : Int)) then oM cs[i.toNat]? fun x => bif decide (0 ≤ i) then bif decide (i < (↑kc : Int)) then oM c[i.toNat]? fun x_1 => bif decide (0 ≤ i) then bif decide (i < (↑kd : Int)) then oM d[i.toNat]? fun x_2 => bif x_1 != IntKind.i64.wrap (IntKind.i64.wrap (120 * x) + x_2) then some (.ret, [vb false, .os 0 0 0 kc true uc true, .os 1 0 0 kd true true true, osW 2 k, vi m, vi i], [some ⟨[.run (.int .i64) c], false, tc, false, false, none⟩, some ⟨[.run (.int .i64) d], false, td, false, false, none⟩, some ⟨[.run (.int .i64) cs], false, t, false, false, none⟩]) else again [.dead, .os 0 0 0 kc true uc true, .os 1 0 0 kd true true true, osW 2 k, vi m, vi (IntKind.i64.wrap (i + 1))] [some ⟨[.run (.int .i64) c], false, tc, false, false, none⟩, some ⟨[.run (.int .i64) d], false, td, false, false, none⟩, some ⟨[.run (.int .i64) cs], false, t, false, false, none⟩] else none else none else none else none else none else none else some (.ext 2, [.dead, .os 0 0 0 kc true uc true, .os 1 0 0 kd true true true, osW 2 k, vi m, vi i], [some ⟨[.run (.int .i64) c], false, tc, false, false, none⟩, some ⟨[.run (.int .i64) d], false, td, false, false, none⟩, some ⟨[.run (.int .i64) cs], false, t, false, false, none⟩])) := by kernel_rfl
def l11_15t (c d cs : List Int) (uc : Bool) (kc kd k : Nat) (tc td t : TypeId) (m : Int) : Tree (Out × List AV × Hp) := .br (decide (k = cs.length) && decide (m = cs.length) && decide (kc = cs.length) && decide (kd = cs.length) && decide (cs.length ≤ 5) && Clm.sb cs && Clm.splitB cs c d) (.leaf (.ext 2, [.dead, osV 0 kc uc, osT 1 kd, osW 2 k, vi m, vi m], [some (rowI c tc), some (rowI d td), some (rowI cs t)])) .fail
def l11_15 (base : Nat) (kv : List AV) (H : Hp) : Tree (Out × List AV × Hp) := match Nat.beq base 0, kv, H with
  | true, [.dead, (.os 0 0 0 kc true uc true), (.os 1 0 0 kd true true true), (.os 2 0 0 k true false true), (.sc (.int .i64 m)), (.sc (.int .i64 0))], [some ⟨[.run (.int .i64) c], false, tc, false, false, none⟩, some ⟨[.run (.int .i64) d], false, td, false, false, none⟩, some ⟨[.run (.int .i64) cs], false, t, false, false, none⟩] => l11_15t c d cs uc kc kd k tc td t m
  | _, _, _ => .fail
theorem l11_15_ok {T : Tab} (hT : TabOK T) (hlo : loopOf T.fn 11 15 = some (lpc T 11 15)) (h : ∀ (c d cs : List Int) (uc : Bool) (kc kd k : Nat) (tc td t : TypeId) (m : Int) (r : Out × List AV × Hp), (l11_15t c d cs uc kc kd k tc td t m).val = some r → ∃ mm, lpRun T 11 15 0 (lpc T 11 15) mm [.dead, osV 0 kc uc, osT 1 kd, osW 2 k, vi m, vi 0] [some (rowI c tc), some (rowI d td), some (rowI cs t)] = some r) : ∀ base kv H o kv' H', (l11_15 base kv H).val = some (o, kv', H') → LoopOK T 11 15 base kv H o kv' H' := by
  intro base kv H o kv' H' hv
  unfold l11_15 at hv
  split at hv
  · rename_i hb
    obtain rfl := Nat.eq_of_beq_eq_true hb
    exact loop_ok hT hlo (h _ _ _ _ _ _ _ _ _ _ _ _ hv)
  · cases hv
noncomputable def TS (W : Int) (C : List Int) : Tab := ((TO W C).addLoop 11 4 l11_4).addLoop 11 15 l11_15
theorem nf11 (W : Int) (C : List Int) (h x : Int) (cl : List Int) : evBody (TS W C) 11 [aQ3 h cl x] [] = (bif decide (List.map (fun (x : AV) => match x with | .run e l => l.length * e.size | _ => 1) [.sc (.int .u8 h), .run (.int .u16) cl, .sc (.int .u16 x)] = List.map (fun (x : AV) => match x with | .run e l => l.length * e.size | _ => 1) ((List.foldl (fun acc f => match acc, zeroC (Clm.TS W C).P 7 f.type with | some a, some c => some (a ++ c) | x, x_1 => none) (some []) [{ name := "Houses", type := 5, offset := 0, embedded := false, tag := "", pkgPath := "", byteOffset := 0 : Go.Field }, { name := "Claims", type := 38, offset := 1, embedded := false, tag := "", pkgPath := "", byteOffset := 2 : Go.Field }, { name := "Worth", type := 37, offset := 6, embedded := false, tag := "", pkgPath := "", byteOffset := 12 : Go.Field }]).getD [])) then bif Clm.qG h cl x 500 W C then bif decide (C.length = C.length) && decide (C.length = C.length) && decide ((↑C.length : Int) = (↑C.length : Int)) && decide (C.length ≤ 5) && Clm.sb C then bif Clm.chk W (Clm.times 2 C) == 0 then bif decide (2 * W ≤ Clm.sumI (Clm.times 2 C)) then bif Clm.chk W C == 0 then bif sm C && Clm.sb C then bif Clm.chk (IntKind.i64.wrap (Clm.sumI C + W)) (Clm.times 2 C) == 0 then bif decide (2 * IntKind.i64.wrap (Clm.sumI C + W) ≤ Clm.sumI (Clm.times 2 C)) then bif Clm.chk W C == 0 then bif sm (Clm.divV W (Clm.times 2 C)) then bif !decide (Clm.divV W (Clm.times 2 C) = Clm.gainV W C) then some (vb false, []) else bif (↑(Clm.times 2 C).length : Int) != (↑C.length : Int) then some (vb false, []) else bif (↑C.length : Int) != (↑C.length : Int) then some (vb false, []) else bif decide (C.length = C.length) && decide ((↑C.length : Int) = (↑C.length : Int)) && decide ((Clm.times 2 C).length = C.length) && decide (C.length = C.length) && decide (C.length ≤ 5) && Clm.sb C && Clm.splitB C (Clm.divV (IntKind.i64.wrap (Clm.sumI C + W)) (Clm.times 2 C)) (Clm.lossV W C) then some (vb true, []) else none else none else none else bif Clm.chk W C == 0 then bif sm (Clm.divV W (Clm.times 2 C)) then bif !decide (Clm.divV W (Clm.times 2 C) = Clm.gainV W C) then some (vb false, []) else bif (↑(Clm.times 2 C).length : Int) != (↑C.length : Int) then some (vb false, []) else bif (↑C.length : Int) != (↑C.length : Int) then some (vb false, []) else bif decide (C.length = C.length) && decide ((↑C.length : Int) = (↑C.length : Int)) && decide ((Clm.times 2 C).length = C.length) && decide (C.length = C.length) && decide (C.length ≤ 5) && Clm.sb C && Clm.splitB C (Clm.divV (IntKind.i64.wrap (Clm.sumI C + W)) (Clm.times 2 C)) (Clm.lossV W C) then some (vb true, []) else none else none else none else none else none else none else bif Clm.chk W C == 0 then bif sm C && Clm.sb C then bif Clm.chk (IntKind.i64.wrap (Clm.sumI C + W)) (Clm.times 2 C) == 0 then bif decide (2 * IntKind.i64.wrap (Clm.sumI C + W) ≤ Clm.sumI (Clm.times 2 C)) then bif Clm.chk W C == 0 then bif sm (Clm.divV W (Clm.times 2 C)) then bif !decide (Clm.divV W (Clm.times 2 C) = Clm.gainV W C) then some (vb false, []) else bif (↑(Clm.times 2 C).length : Int) != (↑C.length : Int) then some (vb false, []) else bif (↑C.length : Int) != (↑C.length : Int) then some (vb false, []) else bif decide (C.length = C.length) && decide ((↑C.length : Int) = (↑C.length : Int)) && decide ((Clm.times 2 C).length = C.length) && decide (C.length = C.length) && decide (C.length ≤ 5) && Clm.sb C && Clm.splitB C (Clm.divV (IntKind.i64.wrap (Clm.sumI C + W)) (Clm.times 2 C)) (Clm.lossV W C) then some (vb true, []) else none else none else none else bif Clm.chk W C == 0 then bif sm (Clm.divV W (Clm.times 2 C)) then bif !decide (Clm.divV W (Clm.times 2 C) = Clm.gainV W C) then some (vb false, []) else bif (↑(Clm.times 2 C).length : Int) != (↑C.length : Int) then some (vb false, []) else bif (↑C.length : Int) != (↑C.length : Int) then some (vb false, []) else bif decide (C.length = C.length) && decide ((↑C.length : Int) = (↑C.length : Int)) && decide ((Clm.times 2 C).length = C.length) && decide (C.length = C.length) && decide (C.length ≤ 5) && Clm.sb C && Clm.splitB C (Clm.divV (IntKind.i64.wrap (Clm.sumI C + W)) (Clm.times 2 C)) (Clm.lossV W C) then some (vb true, []) else none else none else none else none else none else none else none else none else none else none) := by kernel_rfl
end Go.Ev.Clm
namespace Go.Ev.Clm
open Go Go.Ev
set_option maxRecDepth 1000000
set_option linter.unusedVariables false
set_option linter.unusedSimpArgs false
theorem l11_4_run (W : Int) (C : List Int) : ∀ base kv H o kv' H', (l11_4 base kv H).val = some (o, kv', H') → LoopOK (TO W C) 11 4 base kv H o kv' H' := l11_4_ok (TO_ok W C) (by kernel_rfl) (by
  intro cs t w m k k2 r hv
  obtain ⟨hl, hv2⟩ := guard_val hv
  simp only [Bool.and_eq_true, decide_eq_true_eq] at hl
  obtain ⟨⟨⟨⟨rfl, rfl⟩, rfl⟩, h5⟩, hsb⟩ := hl
  have hlen : ∀ i, i ≤ cs.length → (Clm.times 2 (cs.take i)).length = i := fun i hi => by simp [Clm.times]; omega
  obtain ⟨mm, hm⟩ := steps_of (T := TO W C) (fid := 11) (lid := 4) (base := 0) (c := lpc (TO W C) 11 4) cs.length (fun i => [vi w, osW 0 cs.length, osW 1 (Clm.times 2 (cs.take i)).length, osW 0 cs.length, vi cs.length, vi (i : Nat)]) (fun i => [some (rowI cs t), some (rI (Clm.times 2 (cs.take i)))]) (.ext 0, [vi w, osW 0 cs.length, osW 1 cs.length, osW 0 cs.length, vi cs.length, vi cs.length], [some (rowI cs t), some (rI (Clm.times 2 cs))])
    (fun i hi again => by
      obtain ⟨x, hx, hmx⟩ := get_i hi
      have c := Clm.sb_get hsb hmx
      have e : Clm.times 2 (cs.take (i + 1)) = Clm.times 2 (cs.take i) ++ [2 * x] := Clm.map_take _ hx
      rw [nl11_4]
      simp only [dec_lt hi, dec_ge, cond_true, toNat_cast, hx, oM]
      rw [room_ok (by rw [hlen i (by omega)]; omega) (by omega), cond_true, wrap_succ (by omega), wrapi (x := 2 * x) (by omega) (by omega), e, rI, tyI_snoc, List.length_append, List.length_singleton])
    (fun again => by
      rw [nl11_4, List.take_length]
      simp only [dec_ll, cond_false]
      rw [Clm.times_len])
  exact ⟨mm, hm.trans (by rw [leaf_val hv2])⟩)
theorem l11_15_run (W : Int) (C : List Int) : ∀ base kv H o kv' H', (l11_15 base kv H).val = some (o, kv', H') → LoopOK (TO W C) 11 15 base kv H o kv' H' := l11_15_ok (TO_ok W C) (by kernel_rfl) (by
  intro c d cs uc kc kd k tc td t m r hv
  obtain ⟨hl, hv2⟩ := guard_val hv
  simp only [Bool.and_eq_true, decide_eq_true_eq] at hl
  obtain ⟨⟨⟨⟨⟨⟨rfl, rfl⟩, rfl⟩, rfl⟩, h5⟩, hsb⟩, hq⟩ := hl
  unfold Clm.splitB at hq
  simp only [Bool.and_eq_true, decide_eq_true_eq, List.all_eq_true, beq_iff_eq] at hq
  obtain ⟨⟨⟨q1, q2⟩, q3⟩, q4⟩ := hq
  obtain ⟨mm, hm⟩ := steps_of (T := TO W C) (fid := 11) (lid := 15) (base := 0) (c := lpc (TO W C) 11 15) cs.length (fun i => [.dead, osV 0 cs.length uc, osT 1 cs.length, osW 2 cs.length, vi cs.length, vi (i : Nat)]) (fun _ => [some (rowI c tc), some (rowI d td), some (rowI cs t)]) (.ext 2, [.dead, osV 0 cs.length uc, osT 1 cs.length, osW 2 cs.length, vi cs.length, vi cs.length], [some (rowI c tc), some (rowI d td), some (rowI cs t)])
    (fun i hi again => by
      obtain ⟨g0, m0⟩ := at0_get (l := cs) (i := (i : Int)) (by omega) (by omega)
      obtain ⟨g1, m1⟩ := at0_get (l := c) (i := (i : Int)) (by omega) (by omega)
      obtain ⟨g2, m2⟩ := at0_get (l := d) (i := (i : Int)) (by omega) (by omega)
      have b0 := Clm.sb_get hsb m0
      have b2 := Clm.sb_get q3 m2
      have e := q4 i (List.mem_range.2 hi)
      rw [toNat_cast] at g0 g1 g2
      rw [nl11_15]
      simp only [dec_lt hi, dec_ge, cond_true, toNat_cast, g0, g1, g2, oM]
      rw [wrapi (x := 120 * Clm.at0 cs i) (by omega) (by omega), wrapi (x := 120 * Clm.at0 cs i + Clm.at0 d i) (by omega) (by omega), e]
      simp only [bne_self_eq_false, cond_false]
      rw [wrap_succ (by omega)])
    (fun again => by
      rw [nl11_15]
      simp only [dec_ll, cond_false])
  exact ⟨mm, hm.trans (by rw [leaf_val hv2])⟩)
theorem TS_ok (W : Int) (C : List Int) : TabOK (TS W C) := by
  have h := TO_ok W C
  have h := h.addLoop (g := 11) (lid := 4) (r := l11_4) fun b k H o k' H' hv => by refine LoopOK.tab ?_ ?_ ?_ ?_ (l11_4_run W C b k H o k' H' hv) <;> rfl
  have h := h.addLoop (g := 11) (lid := 15) (r := l11_15) fun b k H o k' H' hv => by refine LoopOK.tab ?_ ?_ ?_ ?_ (l11_15_run W C b k H o k' H' hv) <;> rfl
  exact h
noncomputable def TSQ (m : Int) (q : Clm.Qu) : Tab := TS (Clm.quW q m) (Clm.quC q m)
theorem TSQ_ok (m : Int) (q : Clm.Qu) : TabOK (TSQ m q) := TS_ok _ _
theorem split_body (q : Clm.Qu) (hq : q.Fit) : evBody (TSQ 500 q) 11 [.agg [.sc (.int .u8 q.houses), .run (.int .u16) q.claims, .sc (.int .u16 q.worth)] false] [] = some (vb true, []) := by
  have hG := qG_ok hq (m := 500) (by omega) (by omega)
  have ok := Clm.qu_ok hq (most := 500) (by omega) (by omega)
  have hin : ∀ x ∈ Clm.quC q 500, x ≤ 500 := fun x hx => (Clm.qu_in hq (by omega) x hx).2
  have hcl := hq.c.1
  unfold TSQ
  generalize Clm.quW q 500 = W at *
  generalize Clm.quC q 500 = C at *
  have hn := ok.len
  have hlo := ok.lo
  have hhi := ok.hi
  have hs := ok.sum
  have k1 := Clm.ok_two ok hin (v := W) (by omega) (by omega)
  have k2 := Clm.ok_two ok hin (v := Clm.sumI C + W) (by omega) (by omega)
  have hc : Clm.chk W C = 0 := Clm.ok_iff ok
  have hc1 : Clm.chk W (Clm.times 2 C) = 0 := Clm.ok_iff k1
  have hc2 : Clm.chk (Clm.sumI C + W) (Clm.times 2 C) = 0 := Clm.ok_iff k2
  have d1 := Clm.rule_div k2
  have d2 := (Clm.loss_div ok).1
  have hq1 : Clm.splitB C (Clm.divV (Clm.sumI C + W) (Clm.times 2 C)) (Clm.lossV W C) = true := by
    unfold Clm.splitB
    rw [decide_eq_true (d1.len.trans (Clm.times_len 2 C)), decide_eq_true d2.len, Clm.div_sb ok d2]
    simp only [Bool.true_and, List.all_eq_true, beq_iff_eq]
    exact fun i hi => Clm.split_high ok hin (List.mem_range.1 hi)
  have s0 : sm C = true := sm_of (k := 5) hn (by omega)
  have s1 := sb_ok ok
  have s2 : sm (Clm.gainV W C) = true := sm_of (k := 5) (by rw [(Clm.gain_div ok).1.len]; exact hn) (by omega)
  have hl := Clm.times_len 2 C
  rw [nf11]
  refine (cond_t ?_).trans ?_
  · refine decide_eq_true ?_
    show ([1, q.claims.length * 1, 1] : List Nat) = _
    rw [hcl]
    kernel_rfl
  rw [wrapi (x := Clm.sumI C + W) (by omega) (by omega)]
  simp only [Clm.split_low ok hin, hG, hc, hc1, hc2, hq1, s0, s1, s2, hl, decide_eq_true hn, decide_true, beq_self_eq_true, bne_self_eq_false, Bool.not_true, Bool.and_self, cond_true, cond_false, Bool.cond_self]
end Go.Ev.Clm
