/- Shown: tables and normal forms. -/
import Derived.Test.YtfemekpcgieldaaTj
import Derived.Test.YtfemekpcgieldaaSd
import Derived.Test.YtfemekpcgieldaaSb
import Derived.Test.YtfemekpcgieldaaTk
set_option linter.unusedVariables false
set_option linter.unusedSimpArgs false
namespace Go.Ev.Clm
open Go Go.Ev
set_option maxRecDepth 1000000
set_option linter.unusedVariables false
theorem nl7_8 (W : Int) (C : List Int) (again : Ag) (cs o : List Int) (w n i m u v j : Int) (kc ko : Nat) (tc to' : TypeId) : lpStep (TV W C) 7 8 0 (lpc (TV W C) 7 8) again [vb false, vi w, osW 0 cs.length, osW 1 o.length, vi n, vi i, vi m, vi u, vi v, vi j] [some (rowI cs tc), some (rowI o to')] = (bif decide (j < v) then bif decide (0 ≤ i) then bif decide (i < (↑o.length : Int)) then oM o[i.toNat]? fun x => bif decide (0 ≤ i) then bif decide (i < (↑o.length : Int)) then oM o[i.toNat]? fun x_1 => bif decide (0 ≤ j) then bif decide (j < (↑o.length : Int)) then oM o[j.toNat]? fun x_2 => bif decide (0 ≤ i) then bif decide (i < (↑cs.length : Int)) then oM cs[i.toNat]? fun x_3 => bif decide (0 ≤ j) then bif decide (j < (↑cs.length : Int)) then oM cs[j.toNat]? fun x_4 => bif Clm.sm3 (IntKind.i64.wrap (x_1 + x_2)) (IntKind.i64.wrap (120 * x_3)) (IntKind.i64.wrap (120 * x_4)) then bif IntKind.i64.wrap (2 * x) != Clm.pairV (IntKind.i64.wrap (x_1 + x_2)) (IntKind.i64.wrap (120 * x_3)) (IntKind.i64.wrap (120 * x_4)) then bif i == j then bif Clm.provV w cs o i j != 6 then some (.ret, [vb false, vi w, osW 0 cs.length, osW 1 o.length, vi n, vi i, vi m, vi u, vi v, vi j], [some { c := [.run (.int .i64) cs], vr := false, ty := tc, fz := false, loose := false : Row }, some ⟨[.run (.int .i64) o], false, to', false, false, none⟩]) else again [vb false, vi w, osW 0 cs.length, osW 1 o.length, vi n, vi i, vi m, vi u, vi v, vi (IntKind.i64.wrap (j + 1))] [some ⟨[.run (.int .i64) cs], false, tc, false, false, none⟩, some ⟨[.run (.int .i64) o], false, to', false, false, none⟩] else bif Clm.provV w cs o i j != 0 then some (.ret, [vb false, vi w, osW 0 cs.length, osW 1 o.length, vi n, vi i, vi m, vi u, vi v, vi j], [some { c := [.run (.int .i64) cs], vr := false, ty := tc, fz := false, loose := false : Row }, some ⟨[.run (.int .i64) o], false, to', false, false, none⟩]) else again [vb false, vi w, osW 0 cs.length, osW 1 o.length, vi n, vi i, vi m, vi u, vi v, vi (IntKind.i64.wrap (j + 1))] [some ⟨[.run (.int .i64) cs], false, tc, false, false, none⟩, some ⟨[.run (.int .i64) o], false, to', false, false, none⟩] else bif i == j then bif Clm.provV w cs o i j != 6 then some (.ret, [vb false, vi w, osW 0 cs.length, osW 1 o.length, vi n, vi i, vi m, vi u, vi v, vi j], [some { c := [.run (.int .i64) cs], vr := false, ty := tc, fz := false, loose := false : Row }, some ⟨[.run (.int .i64) o], false, to', false, false, none⟩]) else again [vb false, vi w, osW 0 cs.length, osW 1 o.length, vi n, vi i, vi m, vi u, vi v, vi (IntKind.i64.wrap (j + 1))] [some ⟨[.run (.int .i64) cs], false, tc, false, false, none⟩, some ⟨[.run (.int .i64) o], false, to', false, false, none⟩] else bif Clm.provV w cs o i j != 14 then some (.ret, [vb false, vi w, osW 0 cs.length, osW 1 o.length, vi n, vi i, vi m, vi u, vi v, vi j], [some { c := [.run (.int .i64) cs], vr := false, ty := tc, fz := false, loose := false : Row }, some ⟨[.run (.int .i64) o], false, to', false, false, none⟩]) else again [vb false, vi w, osW 0 cs.length, osW 1 o.length, vi n, vi i, vi m, vi u, vi v, vi (IntKind.i64.wrap (j + 1))] [some ⟨[.run (.int .i64) cs], false, tc, false, false, none⟩, some ⟨[.run (.int .i64) o], false, to', false, false, none⟩] else none else none else none else none else none else none else none else none else none else none else none else some (.ext 2, [vb false, vi w, osW 0 cs.length, osW 1 o.length, vi n, vi i, vi m, vi u, vi v, vi j], [some ⟨[.run (.int .i64) cs], false, tc, false, false, none⟩, some ⟨[.run (.int .i64) o], false, to', false, false, none⟩])) := by kernel_rfl
def l7_8t (cs o : List Int) (w n i m u v : Int) (kc ko : Nat) (tc t : TypeId) : Tree (Out × List AV × Hp) := .br (decide (kc = cs.length) && decide (ko = o.length) && decide (n = cs.length) && decide (v = cs.length) && (Clm.validV w cs o == 0) && decide (0 ≤ i) && decide (i < cs.length)) (.leaf (.ext 2, [vb false, vi w, osW 0 kc, osW 1 ko, vi n, vi i, vi m, vi u, vi v, vi v], [some (rowI cs tc), some (rowI o t)])) .fail
def l7_8 (base : Nat) (kv : List AV) (H : Hp) : Tree (Out × List AV × Hp) := match Nat.beq base 0, kv, H with
  | true, [(.sc (.bool false)), (.sc (.int .i64 w)), (.os 0 0 0 kc true false true), (.os 1 0 0 ko true false true), (.sc (.int .i64 n)), (.sc (.int .i64 i)), (.sc (.int .i64 m)), (.sc (.int .i64 u)), (.sc (.int .i64 v)), (.sc (.int .i64 0))], [some ⟨[.run (.int .i64) cs], false, tc, false, false, none⟩, some ⟨[.run (.int .i64) o], false, t, false, false, none⟩] => l7_8t cs o w n i m u v kc ko tc t
  | _, _, _ => .fail
theorem l7_8_ok {T : Tab} (hT : TabOK T) (hlo : loopOf T.fn 7 8 = some (lpc T 7 8)) (h : ∀ (cs o : List Int) (w n i m u v : Int) (kc ko : Nat) (tc t : TypeId) (r : Out × List AV × Hp), (l7_8t cs o w n i m u v kc ko tc t).val = some r → ∃ mm, lpRun T 7 8 0 (lpc T 7 8) mm [vb false, vi w, osW 0 kc, osW 1 ko, vi n, vi i, vi m, vi u, vi v, vi 0] [some (rowI cs tc), some (rowI o t)] = some r) : ∀ base kv H o kv' H', (l7_8 base kv H).val = some (o, kv', H') → LoopOK T 7 8 base kv H o kv' H' := by
  intro base kv H o kv' H' hv
  unfold l7_8 at hv
  split at hv
  · rename_i hb
    obtain rfl := Nat.eq_of_beq_eq_true hb
    exact loop_ok hT hlo (h _ _ _ _ _ _ _ _ _ _ _ _ _ hv)
  · cases hv
noncomputable def TW (W : Int) (C : List Int) : Tab := (TV W C).addLoop 7 8 l7_8
theorem nl7_5 (W : Int) (C : List Int) (again : Ag) (cs o : List Int) (w n m i : Int) (kc ko : Nat) (tc to' : TypeId) : lpStep (TW W C) 7 5 0 (lpc (TW W C) 7 5) again [vb false, vi w, osW 0 kc, osW 1 ko, vi n, vi m, vi i] [some (rowI cs tc), some (rowI o to')] = (bif decide (i < m) then bif decide (kc = cs.length) && decide (ko = o.length) && decide (n = (↑cs.length : Int)) && decide (n = (↑cs.length : Int)) && Clm.validV w cs o == 0 && decide (0 ≤ i) && decide (i < (↑cs.length : Int)) then again [vb false, vi w, osW 0 kc, osW 1 ko, vi n, vi m, vi (IntKind.i64.wrap (i + 1))] [some ⟨[.run (.int .i64) cs], false, tc, false, false, none⟩, some ⟨[.run (.int .i64) o], false, to', false, false, none⟩] else none else some (.ext 0, [vb false, vi w, osW 0 kc, osW 1 ko, vi n, vi m, vi i], [some ⟨[.run (.int .i64) cs], false, tc, false, false, none⟩, some ⟨[.run (.int .i64) o], false, to', false, false, none⟩])) := by kernel_rfl
def l7_5t (cs o : List Int) (w n m : Int) (kc ko : Nat) (tc t : TypeId) : Tree (Out × List AV × Hp) := .br (decide (kc = cs.length) && decide (ko = o.length) && decide (n = cs.length) && decide (m = cs.length) && (Clm.validV w cs o == 0)) (.leaf (.ext 0, [vb false, vi w, osW 0 kc, osW 1 ko, vi n, vi m, vi m], [some (rowI cs tc), some (rowI o t)])) .fail
def l7_5 (base : Nat) (kv : List AV) (H : Hp) : Tree (Out × List AV × Hp) := match Nat.beq base 0, kv, H with
  | true, [(.sc (.bool false)), (.sc (.int .i64 w)), (.os 0 0 0 kc true false true), (.os 1 0 0 ko true false true), (.sc (.int .i64 n)), (.sc (.int .i64 m)), (.sc (.int .i64 0))], [some ⟨[.run (.int .i64) cs], false, tc, false, false, none⟩, some ⟨[.run (.int .i64) o], false, t, false, false, none⟩] => l7_5t cs o w n m kc ko tc t
  | _, _, _ => .fail
theorem l7_5_ok {T : Tab} (hT : TabOK T) (hlo : loopOf T.fn 7 5 = some (lpc T 7 5)) (h : ∀ (cs o : List Int) (w n m : Int) (kc ko : Nat) (tc t : TypeId) (r : Out × List AV × Hp), (l7_5t cs o w n m kc ko tc t).val = some r → ∃ mm, lpRun T 7 5 0 (lpc T 7 5) mm [vb false, vi w, osW 0 kc, osW 1 ko, vi n, vi m, vi 0] [some (rowI cs tc), some (rowI o t)] = some r) : ∀ base kv H o kv' H', (l7_5 base kv H).val = some (o, kv', H') → LoopOK T 7 5 base kv H o kv' H' := by
  intro base kv H o kv' H' hv
  unfold l7_5 at hv
  split at hv
  · rename_i hb
    obtain rfl := Nat.eq_of_beq_eq_true hb
    exact loop_ok hT hlo (h _ _ _ _ _ _ _ _ _ _ hv)
  · cases hv
noncomputable def TX (W : Int) (C : List Int) : Tab := (TW W C).addLoop 7 5 l7_5
theorem nf7 (W : Int) (C : List Int) (h x : Int) (cl bs : List Int) : evBody (TX W C) 7 [aQ3 h cl x, aB bs] [] = (bif decide (List.map (fun (x : AV) => match x with | .run e l => l.length * e.size | _ => 1) [.sc (.int .u8 h), .run (.int .u16) cl, .sc (.int .u16 x)] = List.map (fun (x : AV) => match x with | .run e l => l.length * e.size | _ => 1) ((List.foldl (fun acc f => match acc, zeroC (Clm.TX W C).P 7 f.type with | some a, some c => some (a ++ c) | x, x_1 => none) (some []) [{ name := "Houses", type := 5, offset := 0, embedded := false, tag := "", pkgPath := "", byteOffset := 0 : Go.Field }, { name := "Claims", type := 38, offset := 1, embedded := false, tag := "", pkgPath := "", byteOffset := 2 : Go.Field }, { name := "Worth", type := 37, offset := 6, embedded := false, tag := "", pkgPath := "", byteOffset := 12 : Go.Field }]).getD [])) then bif decide (List.map (fun (x : AV) => match x with | .run e l => l.length * e.size | _ => 1) [.run (.int .u32) bs] = List.map (fun (x : AV) => match x with | .run e l => l.length * e.size | _ => 1) ((some [.run (.int .u32) (List.replicate 5 0)]).getD [])) then bif Clm.qG h cl x 1000 W C then bif Clm.chk W C == 0 && Clm.u32B bs && decide (bs.length = 5) then bif decide (C.length = C.length) && decide (C.length = (Clm.spread W C bs).length) && decide ((↑C.length : Int) = (↑C.length : Int)) && decide ((↑C.length : Int) = (↑C.length : Int)) && Clm.validV W C (Clm.spread W C bs) == 0 then bif sm (Clm.spread W C bs) && decide (0 < (Clm.spread W C bs).length) then bif decide (0 < (↑(Clm.spread W C bs).length : Int)) then oM (Clm.spread W C bs)[0]? fun x => bif decide (0 < (↑(Clm.spread W C bs).length : Int)) then oM (Clm.spread W C bs)[0]? fun x_1 => bif decide (0 < (↑(Clm.spread W C bs).length : Int)) then oM ((Clm.spread W C bs).set 0 (IntKind.i64.wrap (x + 1)))[0]? fun x_2 => bif decide (0 < (↑C.length : Int)) then oM C[0]? fun x_3 => bif decide (x_2 > IntKind.i64.wrap (120 * x_3)) then bif Clm.provV W C (Clm.spread W C bs) 0 (↑C.length : Int) == 2 then bif Clm.validV W C ((Clm.spread W C bs).set 0 (IntKind.i64.wrap (x + 1))) == 1 then bif decide (1 ≤ (↑C.length : Int)) then bif decide (1 + (C.length - 1) ≤ (Clm.spread W C bs).length) then bif Clm.validV W C (List.take (C.length - 1) (List.drop 1 (Clm.spread W C bs))) == 5 then some (vb true, []) else some (vb false, []) else none else none else some (vb false, []) else some (vb false, []) else bif Clm.provV W C (Clm.spread W C bs) 0 (↑C.length : Int) == 2 then bif Clm.validV W C ((Clm.spread W C bs).set 0 (IntKind.i64.wrap (x + 1))) == 17 then bif decide (1 ≤ (↑C.length : Int)) then bif decide (1 + (C.length - 1) ≤ (Clm.spread W C bs).length) then bif Clm.validV W C (List.take (C.length - 1) (List.drop 1 (Clm.spread W C bs))) == 5 then some (vb true, []) else some (vb false, []) else none else none else some (vb false, []) else some (vb false, []) else none else none else none else none else none else none else none else none else none else none) := by kernel_rfl
end Go.Ev.Clm
namespace Clm
open Go
set_option linter.unusedVariables false
theorem more_val {w : Int} {cs gs : List Int} (h : OkW w cs) (d : Div w cs gs) : validV w cs (gs.set 0 (at0 gs 0 + 1)) = bif decide (at0 gs 0 + 1 > 120 * at0 cs 0) then 1 else 17 := by
  have hl := d.len
  have ne := h.ne
  cases cs with
  | nil => exact absurd rfl ne
  | cons c cs =>
    cases gs with
    | nil => simp at hl
    | cons g gs =>
      have hg := d.g
      unfold okG at hg
      rw [List.zip_cons_cons, List.all_cons, Bool.and_eq_true] at hg
      have hi := inR_iff.1 hg.1
      have hs := d.sum
      rw [sumI_cons] at hs
      simp only at hi
      show validV w (c :: cs) ((g + 1) :: gs) = bif decide (g + 1 > 120 * c) then 1 else 17
      unfold validV
      have e : okG (c :: cs) ((g + 1) :: gs) = inR (g + 1) 0 (120 * c) := by
        unfold okG
        rw [List.zip_cons_cons, List.all_cons, hg.2, Bool.and_true]
      rw [ok_iff h, decide_eq_true (show ((g + 1) :: gs).length = (c :: cs).length by simpa using hl), e, sumI_cons]
      have e2 : (g + 1 + sumI gs == 120 * w) = false := beq_eq_false_iff_ne.2 (by omega)
      rw [e2]
      cases hc : decide (g + 1 > 120 * c) with
      | true =>
        have hc := of_decide_eq_true hc
        have e3 : inR (g + 1) 0 (120 * c) = false := by
          rw [Bool.eq_false_iff]
          intro h3
          have := inR_iff.1 h3
          omega
        rw [e3]; rfl
      | false =>
        have hc := of_decide_eq_false hc
        have e3 : inR (g + 1) 0 (120 * c) = true := inR_iff.2 (by omega)
        rw [e3]; rfl
theorem less_val {w : Int} {cs gs : List Int} (h : OkW w cs) (hl : gs.length ≠ cs.length) : validV w cs gs = 5 := by
  unfold validV
  rw [ok_iff h, decide_eq_false hl]; rfl
theorem prov_val {w : Int} {cs gs : List Int} (hv : validV w cs gs = 0) {i j : Nat} (hi : i < cs.length) (hj : j < cs.length) : provV w cs gs i j = bif (i : Int) == (j : Int) then 6 else bif apartV cs gs i j then 0 else 14 := by
  unfold provV
  have e1 : inR (i : Int) 0 ((cs.length : Int) - 1) = true := inR_iff.2 (by omega)
  have e2 : inR (j : Int) 0 ((cs.length : Int) - 1) = true := inR_iff.2 (by omega)
  rw [hv, e1, e2]
  rfl
theorem prov_none {w : Int} {cs gs : List Int} (hv : validV w cs gs = 0) : provV w cs gs 0 (cs.length : Int) = 2 := by
  unfold provV
  have e2 : inR (cs.length : Int) 0 ((cs.length : Int) - 1) = false := by
    rw [Bool.eq_false_iff]
    intro h3
    have := inR_iff.1 h3
    omega
  rw [hv, e2]
  simp
end Clm
namespace Go.Ev.Clm
open Go Go.Ev
set_option maxRecDepth 1000000
set_option linter.unusedVariables false
set_option linter.unusedSimpArgs false
theorem l7_8_run (W : Int) (C : List Int) : ∀ base kv H o kv' H', (l7_8 base kv H).val = some (o, kv', H') → LoopOK (TV W C) 7 8 base kv H o kv' H' := l7_8_ok (TV_ok W C) (by kernel_rfl) (by
  intro cs o w n i m u v kc ko tc t r hv
  obtain ⟨hl, hv2⟩ := guard_val hv
  simp only [Bool.and_eq_true, decide_eq_true_eq] at hl
  obtain ⟨⟨⟨⟨⟨⟨rfl, rfl⟩, rfl⟩, rfl⟩, h5⟩, h6⟩, h7⟩ := hl
  obtain ⟨i, rfl⟩ := Int.eq_ofNat_of_zero_le h6
  have hi : i < cs.length := by omega
  have hv0 := beq_iff_eq.1 h5
  have V := okv_of hv0
  have hb := okG_in V.ok V.len V.g
  have hlen := V.len
  have hn5 := V.ok.len
  obtain ⟨mm, hm⟩ := steps_of (T := TV W C) (fid := 7) (lid := 8) (base := 0) (c := lpc (TV W C) 7 8) cs.length (fun j => [vb false, vi w, osW 0 cs.length, osW 1 o.length, vi cs.length, vi i, vi m, vi u, vi cs.length, vi (j : Nat)]) (fun _ => [some (rowI cs tc), some (rowI o t)]) (.ext 2, [vb false, vi w, osW 0 cs.length, osW 1 o.length, vi cs.length, vi i, vi m, vi u, vi cs.length, vi cs.length], [some (rowI cs tc), some (rowI o t)])
    (fun j hj again => by
      obtain ⟨a1, b1⟩ := at0_get (l := o) (i := (i : Int)) (by omega) (by omega)
      obtain ⟨a2, b2⟩ := at0_get (l := o) (i := (j : Int)) (by omega) (by omega)
      obtain ⟨a3, b3⟩ := at0_get (l := cs) (i := (i : Int)) (by omega) (by omega)
      obtain ⟨a4, b4⟩ := at0_get (l := cs) (i := (j : Int)) (by omega) (by omega)
      have d1 := hb _ b1
      have d2 := hb _ b2
      have d3 := V.ok.rng _ b3
      have d4 := V.ok.rng _ b4
      rw [nl7_8 (kc := 0) (ko := 0)]
      simp only [dec_lt hj, dec_lt hi, dec_lt (show i < o.length by omega), dec_lt (show j < o.length by omega), dec_ge, cond_true, a1, a2, a3, a4, oM]
      rw [wrapi (x := Clm.at0 o i + Clm.at0 o j) (by omega) (by omega), wrapi (x := 120 * Clm.at0 cs i) (by omega) (by omega), wrapi (x := 120 * Clm.at0 cs j) (by omega) (by omega), wrapi (x := 2 * Clm.at0 o i) (by omega) (by omega)]
      refine (cond_t ?_).trans ?_
      · unfold Clm.sm3 Clm.sm1
        simp only [Bool.and_eq_true, decide_eq_true_eq]
        omega
      · rw [wrap_succ (by omega), Clm.prov_val hv0 hi hj]
        have : (2 * Clm.at0 o i != Clm.pairV (Clm.at0 o i + Clm.at0 o j) (120 * Clm.at0 cs i) (120 * Clm.at0 cs j)) = Clm.apartV cs o i j := by
          unfold Clm.apartV
          rw [Clm.gar_pair, bne_comm]
        rw [this]
        cases Clm.apartV cs o i j <;> cases ((i : Int) == (j : Int)) <;> rfl)
    (fun again => by
      rw [nl7_8 (kc := 0) (ko := 0)]
      simp only [dec_ll, cond_false])
  exact ⟨mm, hm.trans (by rw [leaf_val hv2])⟩)
theorem TW_ok (W : Int) (C : List Int) : TabOK (TW W C) := (TV_ok W C).addLoop fun b k H o k' H' hv => by refine LoopOK.tab ?_ ?_ ?_ ?_ (l7_8_run W C b k H o k' H' hv) <;> rfl
theorem l7_5_run (W : Int) (C : List Int) : ∀ base kv H o kv' H', (l7_5 base kv H).val = some (o, kv', H') → LoopOK (TW W C) 7 5 base kv H o kv' H' := l7_5_ok (TW_ok W C) (by kernel_rfl) (by
  intro cs o w n m kc ko tc t r hv
  obtain ⟨hl, hv2⟩ := guard_val hv
  simp only [Bool.and_eq_true, decide_eq_true_eq] at hl
  obtain ⟨⟨⟨⟨rfl, rfl⟩, rfl⟩, rfl⟩, h5⟩ := hl
  have V := okv_of (beq_iff_eq.1 h5)
  have hn := V.ok.len
  obtain ⟨mm, hm⟩ := steps_of (T := TW W C) (fid := 7) (lid := 5) (base := 0) (c := lpc (TW W C) 7 5) cs.length (fun j => [vb false, vi w, osW 0 cs.length, osW 1 o.length, vi cs.length, vi cs.length, vi (j : Nat)]) (fun _ => [some (rowI cs tc), some (rowI o t)]) (.ext 0, [vb false, vi w, osW 0 cs.length, osW 1 o.length, vi cs.length, vi cs.length, vi cs.length], [some (rowI cs tc), some (rowI o t)])
    (fun j hj again => by
      rw [nl7_5]
      simp only [dec_lt hj, dec_ge, decide_true, h5, Bool.and_self, cond_true]
      rw [wrap_succ (by omega)])
    (fun again => by
      rw [nl7_5]
      simp only [dec_ll, cond_false])
  exact ⟨mm, hm.trans (by rw [leaf_val hv2])⟩)
theorem TX_ok (W : Int) (C : List Int) : TabOK (TX W C) := (TW_ok W C).addLoop fun b k H o k' H' hv => by refine LoopOK.tab ?_ ?_ ?_ ?_ (l7_5_run W C b k H o k' H' hv) <;> rfl
noncomputable def TXQ (m : Int) (q : Clm.Qu) : Tab := TX (Clm.quW q m) (Clm.quC q m)
theorem TXQ_ok (m : Int) (q : Clm.Qu) : TabOK (TXQ m q) := TX_ok _ _
theorem shown_body (q : Clm.Qu) (hq : q.Fit) (bs : List Int) (hb : bs.length = 5 ∧ ∀ x ∈ bs, 0 ≤ x ∧ x < 4294967296) : evBody (TXQ 1000 q) 7 [.agg [.sc (.int .u8 q.houses), .run (.int .u16) q.claims, .sc (.int .u16 q.worth)] false, .agg [.run (.int .u32) bs] false] [] = some (vb true, []) := by
  have hG := qG_ok hq (m := 1000) (by omega) (by omega)
  have ok := Clm.qu_ok hq (most := 1000) (by omega) (by omega)
  have hcl := hq.c.1
  unfold TXQ
  generalize Clm.quW q 1000 = W at *
  generalize Clm.quC q 1000 = C at *
  have hn := ok.len
  have dS := Clm.spread_div (bs := bs) ok (by omega) fun x hx => (hb.2 x hx).1
  have hc : Clm.chk W C = 0 := Clm.ok_iff ok
  have vS : Clm.validV W C (Clm.spread W C bs) = 0 := Clm.valid_of ok dS
  have hu := Clm.u32_of hb.2
  have hb1 := okG_in ok dS.len dS.g
  have hne : 1 ≤ C.length := by have := ok.ne; cases C with | nil => exact absurd rfl this | cons _ _ => simp
  have hm := Clm.more_val ok dS
  have hp := Clm.prov_none vS
  have hlS := dS.len
  generalize hS : Clm.spread W C bs = S at *
  obtain ⟨a1, b1⟩ := at0_get (l := S) (i := 0) (by omega) (by omega)
  obtain ⟨a3, b3⟩ := at0_get (l := C) (i := 0) (by omega) (by omega)
  have d1 := hb1 _ b1
  have d3 := ok.rng _ b3
  have hless : Clm.validV W C (List.take (C.length - 1) (List.drop 1 S)) = 5 := Clm.less_val ok (by simp; omega)
  have a1 : S[0]? = some (Clm.at0 S 0) := a1
  have a3 : C[0]? = some (Clm.at0 C 0) := a3
  have a2 : (S.set 0 (Clm.at0 S 0 + 1))[0]? = some (Clm.at0 S 0 + 1) := List.getElem?_set_self (by omega)
  rw [nf7]
  refine (cond_t ?_).trans ?_
  · refine decide_eq_true ?_
    show ([1, q.claims.length * 1, 1] : List Nat) = _
    rw [hcl]
    kernel_rfl
  refine (cond_t ?_).trans ?_
  · refine decide_eq_true ?_
    show ([bs.length * 1] : List Nat) = _
    rw [hb.1]
    kernel_rfl
  have w1 : IntKind.i64.wrap (Clm.at0 S 0 + 1) = Clm.at0 S 0 + 1 := wrapi (by omega) (by omega)
  have w2 : IntKind.i64.wrap (120 * Clm.at0 C 0) = 120 * Clm.at0 C 0 := wrapi (by omega) (by omega)
  have s1 : sm S = true := sm_of (k := 5) (by omega) (by omega)
  simp only [hG, hc, hu, hS, vS, hp, hless, s1, a1, a3, oM, w1, w2, a2, decide_eq_true hb.1, hlS, decide_eq_true (show 0 < C.length by omega), decide_eq_true (show (0 : Int) < (C.length : Int) by omega), decide_eq_true (show (1 : Int) ≤ (C.length : Int) by omega), decide_eq_true (show 1 + (C.length - 1) ≤ C.length by omega), decide_true, beq_self_eq_true, Bool.and_self, cond_true]
  cases hd : decide (Clm.at0 S 0 + 1 > 120 * Clm.at0 C 0) with
  | true =>
    rw [hd] at hm
    have hm : Clm.validV W C (S.set 0 (Clm.at0 S 0 + 1)) = 1 := hm
    simp only [hm, cond_true, beq_self_eq_true]
  | false =>
    rw [hd] at hm
    have hm : Clm.validV W C (S.set 0 (Clm.at0 S 0 + 1)) = 17 := hm
    simp only [hm, cond_true, cond_false, beq_self_eq_true]
end Go.Ev.Clm
