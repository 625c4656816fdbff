/- Dual: tables and normal forms. -/
import Derived.Test.YtfemekpcgieldaaTj
import Derived.Test.YtfemekpcgieldaaSd
set_option linter.unusedVariables false
set_option linter.unusedSimpArgs false
namespace Go.Ev.Clm
open Go Go.Ev
set_option maxRecDepth 1000000
set_option linter.unusedVariables false
def c17ot (l : List Int) (w : Int) : Tree (AV × Hp) := .br (Clm.chk w l == 0) (.br (decide (2 * w ≤ Clm.sumI l)) (.leaf (.tuple [osW 0 l.length, vi 0], [some (rowI (Clm.divV w l) 3)])) (.leaf (.tuple [osT 0 l.length, vi 0], [some (rowI (Clm.divV w l) 3)]))) .fail
def c17o (args : List AV) (H : Hp) : Tree (AV × Hp) := match args, H with
  | [(.sc (.int .i64 w)), (.sl (.int .i64) l false)], [] => c17ot l w
  | _, _ => .fail
theorem c17o_ok {T : Tab} (hT : TabOK T) (h : ∀ (l : List Int) (w : Int) (r : AV × Hp), (c17ot l w).val = some r → evBody T 17 [vi w, lI l] [] = some r) : ∀ args H v H', (c17o args H).val = some (v, H') → CallOK T 17 args H v H' := by
  intro args H v H' hv
  unfold c17o at hv
  split at hv
  · exact evBody_sound hT (h _ _ _ hv)
  · cases hv
def c19ot (l : List Int) (w : Int) : Tree (AV × Hp) := .br (Clm.chk w l == 0) (.leaf (.tuple [osW 0 l.length, vi 0], [some (rowI (Clm.gainV w l) 3)])) .fail
def c19o (args : List AV) (H : Hp) : Tree (AV × Hp) := match args, H with
  | [(.sc (.int .i64 w)), (.sl (.int .i64) l false)], [] => c19ot l w
  | _, _ => .fail
theorem c19o_ok {T : Tab} (hT : TabOK T) (h : ∀ (l : List Int) (w : Int) (r : AV × Hp), (c19ot l w).val = some r → evBody T 19 [vi w, lI l] [] = some r) : ∀ args H v H', (c19o args H).val = some (v, H') → CallOK T 19 args H v H' := by
  intro args H v H' hv
  unfold c19o at hv
  split at hv
  · exact evBody_sound hT (h _ _ _ hv)
  · cases hv
def c21ot (l : List Int) (w : Int) : Tree (AV × Hp) := .br (Clm.chk w l == 0) (.leaf (.tuple [osT 0 l.length, vi 0], [some (rowI (Clm.lossV w l) 3)])) .fail
def c21o (args : List AV) (H : Hp) : Tree (AV × Hp) := match args, H with
  | [(.sc (.int .i64 w)), (.sl (.int .i64) l false)], [] => c21ot l w
  | _, _ => .fail
theorem c21o_ok {T : Tab} (hT : TabOK T) (h : ∀ (l : List Int) (w : Int) (r : AV × Hp), (c21ot l w).val = some r → evBody T 21 [vi w, lI l] [] = some r) : ∀ args H v H', (c21o args H).val = some (v, H') → CallOK T 21 args H v H' := by
  intro args H v H' hv
  unfold c21o at hv
  split at hv
  · exact evBody_sound hT (h _ _ _ hv)
  · cases hv
def c30ot (l : List Int) (w : Int) : Tree (AV × Hp) := .br (Clm.chk w l == 0) (.leaf (.tuple [osT 0 l.length, vi 0], [some (rowI (Clm.avgV w l) 3)])) .fail
def c30o (args : List AV) (H : Hp) : Tree (AV × Hp) := match args, H with
  | [(.sc (.int .i64 w)), (.sl (.int .i64) l false)], [] => c30ot l w
  | _, _ => .fail
theorem c30o_ok {T : Tab} (hT : TabOK T) (h : ∀ (l : List Int) (w : Int) (r : AV × Hp), (c30ot l w).val = some r → evBody T 30 [vi w, lI l] [] = some r) : ∀ args H v H', (c30o args H).val = some (v, H') → CallOK T 30 args H v H' := by
  intro args H v H' hv
  unfold c30o at hv
  split at hv
  · exact evBody_sound hT (h _ _ _ hv)
  · cases hv
theorem c17o_run : ∀ args H v H', (c17o args H).val = some (v, H') → CallOK T10 17 args H v H' := by
  intro args H v H' hv
  unfold c17o at hv
  split at hv
  · rename_i w l
    obtain ⟨h1, h2⟩ := guard_val hv
    refine c17_run _ _ _ _ ?_
    show (c17t l w).val = _
    unfold c17t
    rw [h1]
    exact h2
  · cases hv
theorem c19o_run : ∀ args H v H', (c19o args H).val = some (v, H') → CallOK T10 19 args H v H' := by
  intro args H v H' hv
  unfold c19o at hv
  split at hv
  · rename_i w l
    obtain ⟨h1, h2⟩ := guard_val hv
    refine c19_run _ _ _ _ ?_
    show (c19t l w).val = _
    unfold c19t
    rw [h1]
    exact h2
  · cases hv
theorem c21o_run : ∀ args H v H', (c21o args H).val = some (v, H') → CallOK T10 21 args H v H' := by
  intro args H v H' hv
  unfold c21o at hv
  split at hv
  · rename_i w l
    obtain ⟨h1, h2⟩ := guard_val hv
    refine c21_run _ _ _ _ ?_
    show (c21t l w).val = _
    unfold c21t
    rw [h1]
    exact h2
  · cases hv
theorem c30o_run : ∀ args H v H', (c30o args H).val = some (v, H') → CallOK T23 30 args H v H' := by
  intro args H v H' hv
  unfold c30o at hv
  split at hv
  · rename_i w l
    obtain ⟨h1, h2⟩ := guard_val hv
    refine c30_run _ _ _ _ ?_
    show (c30t l w).val = _
    unfold c30t
    rw [h1]
    exact h2
  · cases hv
noncomputable def TO (W : Int) (C : List Int) : Tab := ((((TV W C).addCall 17 c17o).addCall 19 c19o).addCall 21 c21o).addCall 30 c30o
theorem nl8_12 (W : Int) (C : List Int) (again : Ag) (a b c d l m cs : List Int) (ta tb : TypeId) (ua ub : Bool) (ka kb kc kd kl km : Nat) (tc td tl tm t : TypeId) (i : Int) : lpStep (TO W C) 8 12 0 (lpc (TO W C) 8 12) again [vb false, osV 0 ka ua, osV 1 kb ub, osT 2 kc, osT 3 kd, osW 4 kl, osT 5 km, osW 6 cs.length, vi cs.length, vi i] [some (rowI a ta), some (rowI b tb), some (rowI c tc), some (rowI d td), some (rowI l tl), some (rowI m tm), some (rowI cs t)] = (bif decide (i < (↑cs.length : Int)) then bif decide (0 ≤ i) then bif decide (i < (↑cs.length : Int)) then oM cs[i.toNat]? fun x => bif decide (0 ≤ i) then bif decide (i < (↑ka : Int)) then oM a[i.toNat]? fun x_1 => bif decide (0 ≤ i) then bif decide (i < (↑kb : Int)) then oM b[i.toNat]? fun x_2 => bif IntKind.i64.wrap (x_1 + x_2) != IntKind.i64.wrap (120 * x) then some (.ret, [vb false, .os 0 0 0 ka true ua true, .os 1 0 0 kb true ub true, .os 2 0 0 kc true true true, .os 3 0 0 kd true true true, osW 4 kl, .os 5 0 0 km true true true, osW 6 cs.length, vi (↑cs.length : Int), vi i], [some ⟨[.run (.int .i64) a], false, ta, false, false, none⟩, some ⟨[.run (.int .i64) b], false, tb, false, false, none⟩, some ⟨[.run (.int .i64) c], false, tc, false, false, none⟩, some ⟨[.run (.int .i64) d], false, td, false, false, none⟩, some ⟨[.run (.int .i64) l], false, tl, false, false, none⟩, some ⟨[.run (.int .i64) m], false, tm, false, false, none⟩, some ⟨[.run (.int .i64) cs], false, t, false, false, none⟩]) else bif decide (0 ≤ i) then bif decide (i < (↑kc : Int)) then oM c[i.toNat]? fun x_3 => bif decide (0 ≤ i) then bif decide (i < (↑kd : Int)) then oM d[i.toNat]? fun x_4 => bif IntKind.i64.wrap (x_3 + x_4) != IntKind.i64.wrap (120 * x) then some (.ret, [vb false, .os 0 0 0 ka true ua true, .os 1 0 0 kb true ub true, .os 2 0 0 kc true true true, .os 3 0 0 kd true true true, osW 4 kl, .os 5 0 0 km true true true, osW 6 cs.length, vi (↑cs.length : Int), vi i], [some ⟨[.run (.int .i64) a], false, ta, false, false, none⟩, some ⟨[.run (.int .i64) b], false, tb, false, false, none⟩, some ⟨[.run (.int .i64) c], false, tc, false, false, none⟩, some ⟨[.run (.int .i64) d], false, td, false, false, none⟩, some ⟨[.run (.int .i64) l], false, tl, false, false, none⟩, some ⟨[.run (.int .i64) m], false, tm, false, false, none⟩, some ⟨[.run (.int .i64) cs], false, t, false, false, none⟩]) else bif decide (0 ≤ i) then bif decide (i < (↑kl : Int)) then oM l[i.toNat]? fun x_5 => bif decide (0 ≤ i) then bif decide (i < (↑km : Int)) then oM m[i.toNat]? fun x_6 => bif IntKind.i64.wrap (x_5 + x_6) != IntKind.i64.wrap (120 * x) then some (.ret, [vb false, .os 0 0 0 ka true ua true, .os 1 0 0 kb true ub true, .os 2 0 0 kc true true true, .os 3 0 0 kd true true true, osW 4 kl, .os 5 0 0 km true true true, osW 6 cs.length, vi (↑cs.length : Int), vi i], [some ⟨[.run (.int .i64) a], false, ta, false, false, none⟩, some ⟨[.run (.int .i64) b], false, tb, false, false, none⟩, some ⟨[.run (.int .i64) c], false, tc, false, false, none⟩, some ⟨[.run (.int .i64) d], false, td, false, false, none⟩, some ⟨[.run (.int .i64) l], false, tl, false, false, none⟩, some ⟨[.run (.int .i64) m], false, tm, false, false, none⟩, some ⟨[.run (.int .i64) cs], false, t, false, false, none⟩]) else again [vb false, .os 0 0 0 ka true ua true, .os 1 0 0 kb true ub true, .os 2 0 0 kc true true true, .os 3 0 0 kd true true true, osW 4 kl, .os 5 0 0 km true true true, osW 6 cs.length, vi (↑cs.length : Int), vi (IntKind.i64.wrap (i + 1))] [some ⟨[.run (.int .i64) a], false, ta, false, false, none⟩, some ⟨[.run (.int .i64) b], false, tb, false, false, none⟩, some ⟨[.run (.int .i64) c], false, tc, false, false, none⟩, some ⟨[.run (.int .i64) d], false, td, false, false, none⟩, some ⟨[.run (.int .i64) l], false, tl, false, false, none⟩, some ⟨[.run (.int .i64) m], false, tm, false, false, none⟩, some ⟨[.run (.int .i64) cs], false, t, false, false, none⟩] else none else none else none else none else none else none else none else none else none else none else none else none else none else none else some (.ext 0, [vb false, .os 0 0 0 ka true ua true, .os 1 0 0 kb true ub true, .os 2 0 0 kc true true true, .os 3 0 0 kd true true true, osW 4 kl, .os 5 0 0 km true true true, osW 6 cs.length, vi (↑cs.length : Int), vi i], [some ⟨[.run (.int .i64) a], false, ta, false, false, none⟩, some ⟨[.run (.int .i64) b], false, tb, false, false, none⟩, some ⟨[.run (.int .i64) c], false, tc, false, false, none⟩, some ⟨[.run (.int .i64) d], false, td, false, false, none⟩, some ⟨[.run (.int .i64) l], false, tl, false, false, none⟩, some ⟨[.run (.int .i64) m], false, tm, false, false, none⟩, some ⟨[.run (.int .i64) cs], false, t, false, false, none⟩])) := by kernel_rfl
def l8_12t (a b c d l m cs : List Int) (ta tb : TypeId) (ua ub : Bool) (ka kb kc kd kl km z : Nat) (tc td tl tm t : TypeId) (n : Int) : Tree (Out × List AV × Hp) := .br (decide (z = cs.length) && decide (n = cs.length) && decide (ka = cs.length) && decide (kb = cs.length) && decide (kc = cs.length) && decide (kd = cs.length) && decide (kl = cs.length) && decide (km = cs.length) && decide (cs.length ≤ 5) && Clm.sb cs && Clm.dualB cs a b && Clm.dualB cs c d && Clm.dualB cs l m) (.leaf (.ext 0, [vb false, osV 0 ka ua, osV 1 kb ub, osT 2 kc, osT 3 kd, osW 4 kl, osT 5 km, osW 6 z, vi n, vi n], [some (rowI a ta), some (rowI b tb), some (rowI c tc), some (rowI d td), some (rowI l tl), some (rowI m tm), some (rowI cs t)])) .fail
def l8_12 (base : Nat) (kv : List AV) (H : Hp) : Tree (Out × List AV × Hp) := match Nat.beq base 0, kv, H with
  | true, [(.sc (.bool false)), (.os 0 0 0 ka true ua true), (.os 1 0 0 kb true ub true), (.os 2 0 0 kc true true true), (.os 3 0 0 kd true true true), (.os 4 0 0 kl true false true), (.os 5 0 0 km true true true), (.os 6 0 0 z true false true), (.sc (.int .i64 n)), (.sc (.int .i64 0))], [some ⟨[.run (.int .i64) a], false, ta, false, false, none⟩, some ⟨[.run (.int .i64) b], false, tb, false, false, none⟩, some ⟨[.run (.int .i64) c], false, tc, false, false, none⟩, some ⟨[.run (.int .i64) d], false, td, false, false, none⟩, some ⟨[.run (.int .i64) l], false, tl, false, false, none⟩, some ⟨[.run (.int .i64) m], false, tm, false, false, none⟩, some ⟨[.run (.int .i64) cs], false, t, false, false, none⟩] => l8_12t a b c d l m cs ta tb ua ub ka kb kc kd kl km z tc td tl tm t n
  | _, _, _ => .fail
theorem l8_12_ok {T : Tab} (hT : TabOK T) (hlo : loopOf T.fn 8 12 = some (lpc T 8 12)) (h : ∀ (a b c d l m cs : List Int) (ta tb : TypeId) (ua ub : Bool) (ka kb kc kd kl km z : Nat) (tc td tl tm t : TypeId) (n : Int) (r : Out × List AV × Hp), (l8_12t a b c d l m cs ta tb ua ub ka kb kc kd kl km z tc td tl tm t n).val = some r → ∃ mm, lpRun T 8 12 0 (lpc T 8 12) mm [vb false, osV 0 ka ua, osV 1 kb ub, osT 2 kc, osT 3 kd, osW 4 kl, osT 5 km, osW 6 z, vi n, vi 0] [some (rowI a ta), some (rowI b tb), some (rowI c tc), some (rowI d td), some (rowI l tl), some (rowI m tm), some (rowI cs t)] = some r) : ∀ base kv H o kv' H', (l8_12 base kv H).val = some (o, kv', H') → LoopOK T 8 12 base kv H o kv' H' := by
  intro base kv H o kv' H' hv
  unfold l8_12 at hv
  split at hv
  · rename_i hb
    obtain rfl := Nat.eq_of_beq_eq_true hb
    exact loop_ok hT hlo (h _ _ _ _ _ _ _ _ _ _ _ _ _ _ _ _ _ _ _ _ _ _ _ _ _ hv)
  · cases hv
noncomputable def TD (W : Int) (C : List Int) : Tab := (TO W C).addLoop 8 12 l8_12
theorem nf8 (W : Int) (C : List Int) (h x : Int) (cl : List Int) : evBody (TD W C) 8 [aQ3 h cl x] [] = (bif decide (List.map (fun (x : AV) => match x with | .run e l => l.length * e.size | _ => 1) [.sc (.int .u8 h), .run (.int .u16) cl, .sc (.int .u16 x)] = List.map (fun (x : AV) => match x with | .run e l => l.length * e.size | _ => 1) ((List.foldl (fun acc f => match acc, zeroC (Clm.TD W C).P 7 f.type with | some a, some c => some (a ++ c) | x, x_1 => none) (some []) [{ name := "Houses", type := 5, offset := 0, embedded := false, tag := "", pkgPath := "", byteOffset := 0 : Go.Field }, { name := "Claims", type := 38, offset := 1, embedded := false, tag := "", pkgPath := "", byteOffset := 2 : Go.Field }, { name := "Worth", type := 37, offset := 6, embedded := false, tag := "", pkgPath := "", byteOffset := 12 : Go.Field }]).getD [])) then bif Clm.qG h cl x 1000 W C then bif sm C && Clm.sb C then bif Clm.chk W C == 0 then bif decide (2 * W ≤ Clm.sumI C) then bif Clm.chk (IntKind.i64.wrap (Clm.sumI C - W)) C == 0 then bif decide (2 * IntKind.i64.wrap (Clm.sumI C - W) ≤ Clm.sumI C) then bif Clm.chk W C == 0 then bif Clm.chk (IntKind.i64.wrap (Clm.sumI C - W)) C == 0 then bif Clm.chk W C == 0 then bif Clm.chk (IntKind.i64.wrap (Clm.sumI C - W)) C == 0 then bif Clm.divB W C (Clm.divV W C) then bif Clm.divB (IntKind.i64.wrap (Clm.sumI C - W)) C (Clm.divV (IntKind.i64.wrap (Clm.sumI C - W)) C) then bif Clm.divB W C (Clm.avgV W C) then bif Clm.divB (IntKind.i64.wrap (Clm.sumI C - W)) C (Clm.avgV (IntKind.i64.wrap (Clm.sumI C - W)) C) then bif Clm.divB W C (Clm.gainV W C) then bif Clm.divB (IntKind.i64.wrap (Clm.sumI C - W)) C (Clm.lossV (IntKind.i64.wrap (Clm.sumI C - W)) C) then bif decide (C.length = C.length) && decide ((↑C.length : Int) = (↑C.length : Int)) && decide (C.length = C.length) && decide (C.length = C.length) && decide (C.length = C.length) && decide (C.length = C.length) && decide (C.length = C.length) && decide (C.length = C.length) && decide (C.length ≤ 5) && Clm.sb C && Clm.dualB C (Clm.divV W C) (Clm.divV (IntKind.i64.wrap (Clm.sumI C - W)) C) && Clm.dualB C (Clm.avgV W C) (Clm.avgV (IntKind.i64.wrap (Clm.sumI C - W)) C) && Clm.dualB C (Clm.gainV W C) (Clm.lossV (IntKind.i64.wrap (Clm.sumI C - W)) C) then some (vb true, []) else none else none else none else none else none else none else none else none else none else none else none else bif Clm.chk W C == 0 then bif Clm.chk (IntKind.i64.wrap (Clm.sumI C - W)) C == 0 then bif Clm.chk W C == 0 then bif Clm.chk (IntKind.i64.wrap (Clm.sumI C - W)) C == 0 then bif Clm.divB W C (Clm.divV W C) then bif Clm.divB (IntKind.i64.wrap (Clm.sumI C - W)) C (Clm.divV (IntKind.i64.wrap (Clm.sumI C - W)) C) then bif Clm.divB W C (Clm.avgV W C) then bif Clm.divB (IntKind.i64.wrap (Clm.sumI C - W)) C (Clm.avgV (IntKind.i64.wrap (Clm.sumI C - W)) C) then bif Clm.divB W C (Clm.gainV W C) then bif Clm.divB (IntKind.i64.wrap (Clm.sumI C - W)) C (Clm.lossV (IntKind.i64.wrap (Clm.sumI C - W)) C) then bif decide (C.length = C.length) && decide ((↑C.length : Int) = (↑C.length : Int)) && decide (C.length = C.length) && decide (C.length = C.length) && decide (C.length = C.length) && decide (C.length = C.length) && decide (C.length = C.length) && decide (C.length = C.length) && decide (C.length ≤ 5) && Clm.sb C && Clm.dualB C (Clm.divV W C) (Clm.divV (IntKind.i64.wrap (Clm.sumI C - W)) C) && Clm.dualB C (Clm.avgV W C) (Clm.avgV (IntKind.i64.wrap (Clm.sumI C - W)) C) && Clm.dualB C (Clm.gainV W C) (Clm.lossV (IntKind.i64.wrap (Clm.sumI C - W)) C) then some (vb true, []) else none else none else none else none else none else none else none else none else none else none else none else none else bif Clm.chk (IntKind.i64.wrap (Clm.sumI C - W)) C == 0 then bif decide (2 * IntKind.i64.wrap (Clm.sumI C - W) ≤ Clm.sumI C) then bif Clm.chk W C == 0 then bif Clm.chk (IntKind.i64.wrap (Clm.sumI C - W)) C == 0 then bif Clm.chk W C == 0 then bif Clm.chk (IntKind.i64.wrap (Clm.sumI C - W)) C == 0 then bif Clm.divB W C (Clm.divV W C) then bif Clm.divB (IntKind.i64.wrap (Clm.sumI C - W)) C (Clm.divV (IntKind.i64.wrap (Clm.sumI C - W)) C) then bif Clm.divB W C (Clm.avgV W C) then bif Clm.divB (IntKind.i64.wrap (Clm.sumI C - W)) C (Clm.avgV (IntKind.i64.wrap (Clm.sumI C - W)) C) then bif Clm.divB W C (Clm.gainV W C) then bif Clm.divB (IntKind.i64.wrap (Clm.sumI C - W)) C (Clm.lossV (IntKind.i64.wrap (Clm.sumI C - W)) C) then bif decide (C.length = C.length) && decide ((↑C.length : Int) = (↑C.length : Int)) && decide (C.length = C.length) && decide (C.length = C.length) && decide (C.length = C.length) && decide (C.length = C.length) && decide (C.length = C.length) && decide (C.length = C.length) && decide (C.length ≤ 5) && Clm.sb C && Clm.dualB C (Clm.divV W C) (Clm.divV (IntKind.i64.wrap (Clm.sumI C - W)) C) && Clm.dualB C (Clm.avgV W C) (Clm.avgV (IntKind.i64.wrap (Clm.sumI C - W)) C) && Clm.dualB C (Clm.gainV W C) (Clm.lossV (IntKind.i64.wrap (Clm.sumI C - W)) C) then some (vb true, []) else none else none else none else none else none else none else none else none else none else none else none else bif Clm.chk W C == 0 then bif Clm.chk (IntKind.i64.wrap (Clm.sumI C - W)) C == 0 then bif Clm.chk W C == 0 then bif Clm.chk (IntKind.i64.wrap (Clm.sumI C - W)) C == 0 then bif Clm.divB W C (Clm.divV W C) then bif Clm.divB (IntKind.i64.wrap (Clm.sumI C - W)) C (Clm.divV (IntKind.i64.wrap (Clm.sumI C - W)) C) then bif Clm.divB W C (Clm.avgV W C) then bif Clm.divB (IntKind.i64.wrap (Clm.sumI C - W)) C (Clm.avgV (IntKind.i64.wrap (Clm.sumI C - W)) C) then bif Clm.divB W C (Clm.gainV W C) then bif Clm.divB (IntKind.i64.wrap (Clm.sumI C - W)) C (Clm.lossV (IntKind.i64.wrap (Clm.sumI C - W)) C) then bif decide (C.length = C.length) && decide ((↑C.length : Int) = (↑C.length : Int)) && decide (C.length = C.length) && decide (C.length = C.length) && decide (C.length = C.length) && decide (C.length = C.length) && decide (C.length = C.length) && decide (C.length = C.length) && decide (C.length ≤ 5) && Clm.sb C && Clm.dualB C (Clm.divV W C) (Clm.divV (IntKind.i64.wrap (Clm.sumI C - W)) C) && Clm.dualB C (Clm.avgV W C) (Clm.avgV (IntKind.i64.wrap (Clm.sumI C - W)) C) && Clm.dualB C (Clm.gainV W C) (Clm.lossV (IntKind.i64.wrap (Clm.sumI C - W)) C) then some (vb true, []) else none else none else none else none else none else none else none else none else none else none else none else none else none else none else none else none) := by kernel_rfl
end Go.Ev.Clm
namespace Go.Ev.Clm
open Go Go.Ev
set_option maxRecDepth 1000000
set_option linter.unusedVariables false
set_option linter.unusedSimpArgs false
theorem TO_ok (W : Int) (C : List Int) : TabOK (TO W C) := by
  have h := TV_ok W C
  have h := h.addCall (g := 17) (r := c17o) fun a H v H' hv => by refine CallOK.tab ?_ ?_ (c17o_run a H v H' hv) <;> rfl
  have h := h.addCall (g := 19) (r := c19o) fun a H v H' hv => by refine CallOK.tab ?_ ?_ (c19o_run a H v H' hv) <;> rfl
  have h := h.addCall (g := 21) (r := c21o) fun a H v H' hv => by refine CallOK.tab ?_ ?_ (c21o_run a H v H' hv) <;> rfl
  have h := h.addCall (g := 30) (r := c30o) fun a H v H' hv => by refine CallOK.tab ?_ ?_ (c30o_run a H v H' hv) <;> rfl
  exact h
theorem dual_get {cs a b : List Int} (h : Clm.dualB cs a b = true) {i : Nat} (hi : i < cs.length) : a[i]? = some (Clm.at0 a i) ∧ b[i]? = some (Clm.at0 b i) ∧ -1000000000 ≤ Clm.at0 a i ∧ Clm.at0 a i ≤ 1000000000 ∧ -1000000000 ≤ Clm.at0 b i ∧ Clm.at0 b i ≤ 1000000000 ∧ Clm.at0 a i + Clm.at0 b i = 120 * Clm.at0 cs i := by
  unfold Clm.dualB at h
  simp only [Bool.and_eq_true, decide_eq_true_eq, List.all_eq_true, beq_iff_eq] at h
  obtain ⟨⟨⟨⟨h1, h2⟩, h3⟩, h4⟩, h5⟩ := h
  obtain ⟨a1, m1⟩ := at0_get (l := a) (i := (i : Int)) (by omega) (by omega)
  obtain ⟨a2, m2⟩ := at0_get (l := b) (i := (i : Int)) (by omega) (by omega)
  have b1 := Clm.sb_get h3 m1
  have b2 := Clm.sb_get h4 m2
  exact ⟨a1, a2, b1.1, b1.2, b2.1, b2.2, h5 i (List.mem_range.2 hi)⟩
theorem l8_12_run (W : Int) (C : List Int) : ∀ base kv H o kv' H', (l8_12 base kv H).val = some (o, kv', H') → LoopOK (TO W C) 8 12 base kv H o kv' H' := l8_12_ok (TO_ok W C) (by kernel_rfl) (by
  intro a b c d l m cs ta tb ua ub ka kb kc kd kl km z tc td tl tm t n r hv
  obtain ⟨hl, hv2⟩ := guard_val hv
  simp only [Bool.and_eq_true, decide_eq_true_eq] at hl
  obtain ⟨⟨⟨⟨⟨⟨⟨⟨⟨⟨⟨⟨rfl, rfl⟩, rfl⟩, rfl⟩, rfl⟩, rfl⟩, rfl⟩, rfl⟩, h5⟩, hsb⟩, q1⟩, q2⟩, q3⟩ := hl
  obtain ⟨mm, hm⟩ := steps_of (T := TO W C) (fid := 8) (lid := 12) (base := 0) (c := lpc (TO W C) 8 12) cs.length (fun i => [vb false, osV 0 cs.length ua, osV 1 cs.length ub, osT 2 cs.length, osT 3 cs.length, osW 4 cs.length, osT 5 cs.length, osW 6 cs.length, vi cs.length, vi (i : Nat)]) (fun _ => [some (rowI a ta), some (rowI b tb), some (rowI c tc), some (rowI d td), some (rowI l tl), some (rowI m tm), some (rowI cs t)]) (.ext 0, [vb false, osV 0 cs.length ua, osV 1 cs.length ub, osT 2 cs.length, osT 3 cs.length, osW 4 cs.length, osT 5 cs.length, osW 6 cs.length, vi cs.length, vi cs.length], [some (rowI a ta), some (rowI b tb), some (rowI c tc), some (rowI d td), some (rowI l tl), some (rowI m tm), some (rowI cs t)])
    (fun i hi again => by
      obtain ⟨g0, m0⟩ := at0_get (l := cs) (i := (i : Int)) (by omega) (by omega)
      have b0 := Clm.sb_get hsb m0
      obtain ⟨g1, g2, x1⟩ := dual_get q1 hi
      obtain ⟨g3, g4, x2⟩ := dual_get q2 hi
      obtain ⟨g5, g6, x3⟩ := dual_get q3 hi
      rw [toNat_cast] at g0
      rw [nl8_12]
      simp only [dec_lt hi, dec_ge, cond_true, toNat_cast, g0, g1, g2, g3, g4, g5, g6, oM]
      rw [x1.2.2.2.2, x2.2.2.2.2, x3.2.2.2.2]
      simp only [bne_self_eq_false, cond_false]
      rw [wrap_succ (by omega)])
    (fun again => by
      rw [nl8_12]
      simp only [dec_ll, cond_false])
  exact ⟨mm, hm.trans (by rw [leaf_val hv2])⟩)
theorem TD_ok (W : Int) (C : List Int) : TabOK (TD W C) := (TO_ok W C).addLoop fun b k H o k' H' hv => by refine LoopOK.tab ?_ ?_ ?_ ?_ (l8_12_run W C b k H o k' H' hv) <;> rfl
noncomputable def TDQ (m : Int) (q : Clm.Qu) : Tab := TD (Clm.quW q m) (Clm.quC q m)
theorem TDQ_ok (m : Int) (q : Clm.Qu) : TabOK (TDQ m q) := TD_ok _ _
theorem dual_body (q : Clm.Qu) (hq : q.Fit) : evBody (TDQ 1000 q) 8 [.agg [.sc (.int .u8 q.houses), .run (.int .u16) q.claims, .sc (.int .u16 q.worth)] false] [] = some (vb true, []) := by
  have hG := qG_ok hq (m := 1000) (by omega) (by omega)
  have ok := Clm.qu_ok hq (most := 1000) (by omega) (by omega)
  have hcl := hq.c.1
  unfold TDQ
  generalize Clm.quW q 1000 = W at *
  generalize Clm.quC q 1000 = C at *
  have hn := ok.len
  have hlo := ok.lo
  have hhi := ok.hi
  have hs := ok.sum
  have ok2 := Clm.ok_rest ok
  have hc : Clm.chk W C = 0 := Clm.ok_iff ok
  have hc2 : Clm.chk (Clm.sumI C - W) C = 0 := Clm.ok_iff ok2
  have d1 := Clm.rule_div ok
  have d2 := Clm.rule_div ok2
  have d3 := (Clm.avg_div ok).1
  have d4 := (Clm.avg_div ok2).1
  have d5 := (Clm.gain_div ok).1
  have d6 := (Clm.loss_div ok2).1
  have q1 := Clm.dualB_of ok ok2 d1 d2 fun i hi => Clm.rule_dual ok hi
  have q2 := Clm.dualB_of ok ok2 d3 d4 fun i hi => Clm.avg_both ok hi
  have q3 := Clm.dualB_of ok ok2 d5 d6 fun i hi => Clm.gain_loss ok hi
  have s1 := sb_ok ok
  have s0 : sm C = true := sm_of (k := 5) hn (by omega)
  rw [nf8]
  refine (cond_t ?_).trans ?_
  · refine decide_eq_true ?_
    show ([1, q.claims.length * 1, 1] : List Nat) = _
    rw [hcl]
    kernel_rfl
  rw [wrapi (x := Clm.sumI C - W) (by omega) (by omega)]
  simp only [hG, hc, hc2, q1, q2, q3, s0, s1, Clm.divB_of ok d1, Clm.divB_of ok2 d2, Clm.divB_of ok d3, Clm.divB_of ok2 d4, Clm.divB_of ok d5, Clm.divB_of ok2 d6, decide_eq_true hn, decide_true, beq_self_eq_true, Bool.and_self, cond_true, Bool.cond_self]
end Go.Ev.Clm
