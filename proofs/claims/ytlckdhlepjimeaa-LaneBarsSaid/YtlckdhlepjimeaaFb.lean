/- The order of a family: tables and normal forms. -/
import Derived.Test.YtlckdhlepjimeaaFa
set_option linter.unusedVariables false
set_option linter.unusedSimpArgs false
namespace Go.Ev.Lane
open Go Go.Ev
set_option maxRecDepth 1000000
set_option maxHeartbeats 0
set_option linter.unusedVariables false
abbrev rZ (ya ti : List Int) (t : TypeId) : Row := ⟨[.sl (.int .i64) ya false, .sl (.int .i64) ti false], true, t, false, false, none⟩
theorem nl30 (again : Ag) (f : List (List Int)) (sh ya ti out : List Int) (a b q i : Int) (ty : TypeId) : lpStep Y3 30 8 0 (lpc Y3 30 8) again [ps 0, ps 1, osW 2 0, vi 0, osW 3 out.length, lL f, vi q, vi i] [some (rP a b sh 24), some (rZ ya ti 26), some (rowI [] 0), some (rowI out ty)] = (bif decide (i < q) then bif decide (0 ≤ i) then bif decide (i < (↑f.length : Int)) then oM f[i.toNat]? fun x => bif sm x && sm sh && Lan.side a b then bif Lan.wyE a b sh x != 0 then some (.ret, [.ps 0 0 0 0, .ps 1 0 0 0, osW 2 0, vi (Lan.wyE a b sh x), osW 3 out.length, .sl (.ilist .i64) f false, vi q, vi i], [some ⟨[vi a, vi b, .sl (.int .i64) sh false], true, 24, false, false, none⟩, some ⟨[.sl (.int .i64) ya false, .sl (.int .i64) ti false], true, 26, false, false, none⟩, some ⟨[.run (.int .i64) []], false, 0, false, false, none⟩, some ⟨[.run (.int .i64) out], false, ty, false, false, none⟩]) else bif decide (0 ≤ IntKind.i64.wrap ((↑(List.length x) : Int) - 1)) then bif decide (IntKind.i64.wrap ((↑(List.length x) : Int) - 1) < (↑(List.length x) : Int)) then oM x[(IntKind.i64.wrap ((↑(List.length x) : Int) - 1)).toNat]? fun x_1 => bif sm ti then bif decide (0 < (↑(List.length x) : Int)) then oM x[0]? fun x => bif decide (0 ≤ i) then bif decide (i < (↑ya.length : Int)) then oM ya[i.toNat]? fun x_2 => bif x != x_2 then some (.ret, [.ps 0 0 0 0, .ps 1 0 0 0, osW 2 0, vi 12, osW 3 out.length, .sl (.ilist .i64) f false, vi q, vi i], [some { c := [vi a, vi b, .sl (.int .i64) sh false], vr := true, ty := 24, fz := false, loose := false : Row }, some { c := [.sl (.int .i64) ya false, .sl (.int .i64) ti false], vr := true, ty := 26, fz := false, loose := false : Row }, some ⟨[.run (.int .i64) []], false, 0, false, false, none⟩, some ⟨[.run (.int .i64) out], false, ty, false, false, none⟩]) else bif decide (Lan.idxV ti x_1 < 0) then some (.ret, [.ps 0 0 0 0, .ps 1 0 0 0, osW 2 0, vi 12, osW 3 out.length, .sl (.ilist .i64) f false, vi q, vi i], [some { c := [vi a, vi b, .sl (.int .i64) sh false], vr := true, ty := 24, fz := false, loose := false : Row }, some { c := [.sl (.int .i64) ya false, .sl (.int .i64) ti false], vr := true, ty := 26, fz := false, loose := false : Row }, some ⟨[.run (.int .i64) []], false, 0, false, false, none⟩, some ⟨[.run (.int .i64) out], false, ty, false, false, none⟩]) else bif sm out then bif Lan.has out (Lan.idxV ti x_1) then some (.ret, [.ps 0 0 0 0, .ps 1 0 0 0, osW 2 0, vi 6, osW 3 out.length, .sl (.ilist .i64) f false, vi q, vi i], [some { c := [vi a, vi b, .sl (.int .i64) sh false], vr := true, ty := 24, fz := false, loose := false : Row }, some { c := [.sl (.int .i64) ya false, .sl (.int .i64) ti false], vr := true, ty := 26, fz := false, loose := false : Row }, some ⟨[.run (.int .i64) []], false, 0, false, false, none⟩, some ⟨[.run (.int .i64) out], false, ty, false, false, none⟩]) else bif room (out.length + 1) 8 then again [.ps 0 0 0 0, .ps 1 0 0 0, osW 2 0, vi 0, osW 3 (out.length + 1), .sl (.ilist .i64) f false, vi q, vi (IntKind.i64.wrap (i + 1))] [some { c := [vi a, vi b, .sl (.int .i64) sh false], vr := true, ty := 24, fz := false, loose := false : Row }, some { c := [.sl (.int .i64) ya false, .sl (.int .i64) ti false], vr := true, ty := 26, fz := false, loose := false : Row }, some ⟨[.run (.int .i64) []], false, 0, false, false, none⟩, some { c := [.run (.int .i64) (out ++ [Lan.idxV ti x_1])], vr := false, ty := 3, fz := false, loose := false : Row }] else none else none else none else none else none else none else none else none else none else none else none else some (.ext 1, [.ps 0 0 0 0, .ps 1 0 0 0, osW 2 0, vi 0, osW 3 out.length, .sl (.ilist .i64) f false, vi q, vi i], [some ⟨[vi a, vi b, .sl (.int .i64) sh false], true, 24, false, false, none⟩, some ⟨[.sl (.int .i64) ya false, .sl (.int .i64) ti false], true, 26, false, false, none⟩, some ⟨[.run (.int .i64) []], false, 0, false, false, none⟩, some ⟨[.run (.int .i64) out], false, ty, false, false, none⟩])) := by kernel_rfl
theorem nl31_14 (again : Ag) (f : List (List Int)) (sh ya ti out l : List Int) (a b i k : Int) (ty : TypeId) : lpStep Y3 31 14 0 (lpc Y3 31 14) again [lL f, ps 0, ps 1, osW 2 0, vi 0, osW 3 out.length, vi i, lI l, vi k] [some (rP a b sh 29), some (rZ ya ti 30), some (rowI [] 0), some (rowI out ty)] = (bif decide (k < (↑l.length : Int)) then bif decide (0 ≤ k) then bif decide (k < (↑l.length : Int)) then oM l[k.toNat]? fun x => bif Lan.side a b then bif !!Lan.wrongB a b x then some (.ret, [.sl (.ilist .i64) f false, .ps 0 0 0 0, .ps 1 0 0 0, osW 2 0, vi 2, osW 3 out.length, vi i, .sl (.int .i64) l false, vi k], [some ⟨[vi a, vi b, .sl (.int .i64) sh false], true, 29, false, false, none⟩, some ⟨[.sl (.int .i64) ya false, .sl (.int .i64) ti false], true, 30, false, false, none⟩, some ⟨[.run (.int .i64) []], false, 0, false, false, none⟩, some ⟨[.run (.int .i64) out], false, ty, false, false, none⟩]) else bif decide (0 ≤ k) then bif decide (k < (↑l.length : Int)) then oM l[k.toNat]? fun x => bif sm sh then bif Lan.has sh x then some (.ret, [.sl (.ilist .i64) f false, .ps 0 0 0 0, .ps 1 0 0 0, osW 2 0, vi 20, osW 3 out.length, vi i, .sl (.int .i64) l false, vi k], [some ⟨[vi a, vi b, .sl (.int .i64) sh false], true, 29, false, false, none⟩, some ⟨[.sl (.int .i64) ya false, .sl (.int .i64) ti false], true, 30, false, false, none⟩, some ⟨[.run (.int .i64) []], false, 0, false, false, none⟩, some ⟨[.run (.int .i64) out], false, ty, false, false, none⟩]) else bif decide (k > 0) then bif decide (0 ≤ IntKind.i64.wrap (k - 1)) then bif decide (IntKind.i64.wrap (k - 1) < (↑l.length : Int)) then oM l[(IntKind.i64.wrap (k - 1)).toNat]? fun x => bif decide (0 ≤ k) then bif decide (k < (↑l.length : Int)) then oM l[k.toNat]? fun x_1 => bif Lan.side a b && decide (0 ≤ x) && decide (x < 16) then bif !Lan.stepR b x x_1 then some (.ret, [.sl (.ilist .i64) f false, .ps 0 0 0 0, .ps 1 0 0 0, osW 2 0, vi 7, osW 3 out.length, vi i, .sl (.int .i64) l false, vi k], [some { c := [vi a, vi b, .sl (.int .i64) sh false], vr := true, ty := 29, fz := false, loose := false : Row }, some { c := [.sl (.int .i64) ya false, .sl (.int .i64) ti false], vr := true, ty := 30, fz := false, loose := false : Row }, some { c := [.run (.int .i64) []], vr := false, ty := 0, fz := false, loose := false : Row }, some { c := [.run (.int .i64) out], vr := false, ty := ty, fz := false, loose := false : Row }]) else again [.sl (.ilist .i64) f false, .ps 0 0 0 0, .ps 1 0 0 0, osW 2 0, vi 0, osW 3 out.length, vi i, .sl (.int .i64) l false, vi (IntKind.i64.wrap (k + 1))] [some { c := [vi a, vi b, .sl (.int .i64) sh false], vr := true, ty := 29, fz := false, loose := false : Row }, some { c := [.sl (.int .i64) ya false, .sl (.int .i64) ti false], vr := true, ty := 30, fz := false, loose := false : Row }, some ⟨[.run (.int .i64) []], false, 0, false, false, none⟩, some ⟨[.run (.int .i64) out], false, ty, false, false, none⟩] else none else none else none else none else none else again [.sl (.ilist .i64) f false, .ps 0 0 0 0, .ps 1 0 0 0, osW 2 0, vi 0, osW 3 out.length, vi i, .sl (.int .i64) l false, vi (IntKind.i64.wrap (k + 1))] [some ⟨[vi a, vi b, .sl (.int .i64) sh false], true, 29, false, false, none⟩, some ⟨[.sl (.int .i64) ya false, .sl (.int .i64) ti false], true, 30, false, false, none⟩, some ⟨[.run (.int .i64) []], false, 0, false, false, none⟩, some ⟨[.run (.int .i64) out], false, ty, false, false, none⟩] else none else none else none else none else none else none else some (.ext 2, [.sl (.ilist .i64) f false, .ps 0 0 0 0, .ps 1 0 0 0, osW 2 0, vi 0, osW 3 out.length, vi i, .sl (.int .i64) l false, vi k], [some ⟨[vi a, vi b, .sl (.int .i64) sh false], true, 29, false, false, none⟩, some ⟨[.sl (.int .i64) ya false, .sl (.int .i64) ti false], true, 30, false, false, none⟩, some ⟨[.run (.int .i64) []], false, 0, false, false, none⟩, some ⟨[.run (.int .i64) out], false, ty, false, false, none⟩])) := by kernel_rfl
def _root_.Lan.famG (a b : Int) (sh ti : List Int) (f : List (List Int)) : Bool := Lan.side a b && sm sh && sm ti && sm f && f.all fun l => sm l
def l30_8t (f : List (List Int)) (sh ya ti : List Int) (a b q : Int) : Tree (Out × List AV × Hp) := .br (Lan.famG a b sh ti f && decide (q = (f.length : Int)) && decide (f.length ≤ ya.length)) (.br (Lan.errE (Lan.orX a b sh ya ti f) == 0) (.leaf (.ext 1, [ps 0, ps 1, osW 2 0, vi 0, osW 3 (Lan.errS (Lan.orX a b sh ya ti f)).length, lL f, vi f.length, vi f.length], [some (rP a b sh 24), some (rZ ya ti 26), some (rowI [] 0), some (rI (Lan.errS (Lan.orX a b sh ya ti f)))])) (.leaf (.ret, [ps 0, ps 1, osW 2 0, vi (Lan.errE (Lan.orX a b sh ya ti f)), osW 3 (Lan.errS (Lan.orX a b sh ya ti f)).length, lL f, vi f.length, vi (Lan.errI 0 (Lan.orX a b sh ya ti f))], [some (rP a b sh 24), some (rZ ya ti 26), some (rowI [] 0), some (rI (Lan.errS (Lan.orX a b sh ya ti f)))]))) .fail
def l30_8 (base : Nat) (kv : List AV) (H : Hp) : Tree (Out × List AV × Hp) := match Nat.beq base 0, kv, H with
  | true, [(.ps 0 0 0 0), (.ps 1 0 0 0), (.os 2 0 0 0 true false true), (.sc (.int .i64 0)), (.os 3 0 0 0 true false true), (.sl (.ilist .i64) f false), (.sc (.int .i64 q)), (.sc (.int .i64 0))], [some ⟨[.sc (.int .i64 a), .sc (.int .i64 b), .sl (.int .i64) sh false], true, 24, false, false, none⟩, some ⟨[.sl (.int .i64) ya false, .sl (.int .i64) ti false], true, 26, false, false, none⟩, some ⟨[.run (.int .i64) []], false, 0, false, false, none⟩, some ⟨[.run (.int .i64) []], false, 0, false, false, none⟩] => l30_8t f sh ya ti a b q
  | _, _, _ => .fail
theorem l30_8_ok {T : Tab} (hT : TabOK T) (hlo : loopOf T.fn 30 8 = some (lpc T 30 8)) (h : ∀ (f : List (List Int)) (sh ya ti : List Int) (a b q : Int) (r : Out × List AV × Hp), (l30_8t f sh ya ti a b q).val = some r → ∃ mm, lpRun T 30 8 0 (lpc T 30 8) mm [ps 0, ps 1, osW 2 0, vi 0, osW 3 0, lL f, vi q, vi 0] [some (rP a b sh 24), some (rZ ya ti 26), some (rowI [] 0), some (rowI [] 0)] = some r) : ∀ base kv H o kv' H', (l30_8 base kv H).val = some (o, kv', H') → LoopOK T 30 8 base kv H o kv' H' := by
  intro base kv H o kv' H' hv
  unfold l30_8 at hv
  split at hv
  · rename_i hb
    obtain rfl := Nat.eq_of_beq_eq_true hb
    exact loop_ok hT hlo (h _ _ _ _ _ _ _ _ hv)
  · cases hv
def l31_14t (f : List (List Int)) (sh ya ti out l : List Int) (a b i : Int) (ty : TypeId) (k : Nat) : Tree (Out × List AV × Hp) := .br (sm l && sm sh && Lan.side a b && decide (k = out.length)) (.br (Lan.firstE (Lan.wyErr a b sh l) l == 0) (.leaf (.ext 2, [lL f, ps 0, ps 1, osW 2 0, vi 0, osW 3 k, vi i, lI l, vi l.length], [some (rP a b sh 29), some (rZ ya ti 30), some (rowI [] 0), some (rowI out ty)])) (.leaf (.ret, [lL f, ps 0, ps 1, osW 2 0, vi (Lan.firstE (Lan.wyErr a b sh l) l), osW 3 k, vi i, lI l, vi (Lan.firstI (Lan.wyErr a b sh l) l)], [some (rP a b sh 29), some (rZ ya ti 30), some (rowI [] 0), some (rowI out ty)]))) .fail
def l31_14 (base : Nat) (kv : List AV) (H : Hp) : Tree (Out × List AV × Hp) := match Nat.beq base 0, kv, H with
  | true, [(.sl (.ilist .i64) f false), (.ps 0 0 0 0), (.ps 1 0 0 0), (.os 2 0 0 0 true false true), (.sc (.int .i64 0)), (.os 3 0 0 k true false true), (.sc (.int .i64 i)), (.sl (.int .i64) l false), (.sc (.int .i64 0))], [some ⟨[.sc (.int .i64 a), .sc (.int .i64 b), .sl (.int .i64) sh false], true, 29, false, false, none⟩, some ⟨[.sl (.int .i64) ya false, .sl (.int .i64) ti false], true, 30, false, false, none⟩, some ⟨[.run (.int .i64) []], false, 0, false, false, none⟩, some ⟨[.run (.int .i64) out], false, ty, false, false, none⟩] => l31_14t f sh ya ti out l a b i ty k
  | _, _, _ => .fail
theorem l31_14_ok {T : Tab} (hT : TabOK T) (hlo : loopOf T.fn 31 14 = some (lpc T 31 14)) (h : ∀ (f : List (List Int)) (sh ya ti out l : List Int) (a b i : Int) (ty : TypeId) (k : Nat) (r : Out × List AV × Hp), (l31_14t f sh ya ti out l a b i ty k).val = some r → ∃ mm, lpRun T 31 14 0 (lpc T 31 14) mm [lL f, ps 0, ps 1, osW 2 0, vi 0, osW 3 k, vi i, lI l, vi 0] [some (rP a b sh 29), some (rZ ya ti 30), some (rowI [] 0), some (rowI out ty)] = some r) : ∀ base kv H o kv' H', (l31_14 base kv H).val = some (o, kv', H') → LoopOK T 31 14 base kv H o kv' H' := by
  intro base kv H o kv' H' hv
  unfold l31_14 at hv
  split at hv
  · rename_i hb
    obtain rfl := Nat.eq_of_beq_eq_true hb
    exact loop_ok hT hlo (h _ _ _ _ _ _ _ _ _ _ _ _ hv)
  · cases hv
noncomputable def Y4 : Tab := ((Y3).addLoop 30 8 l30_8).addLoop 31 14 l31_14
theorem nf30 (f : List (List Int)) (sh ya ti : List Int) (a b : Int) : evBody Y4 30 [aP a b sh, aX ya ti, lL f] [] = (bif sm sh && sm ya && sm ti then bif Lan.chk a b sh ya ti != 0 then some (.tuple [osW 0 0, vi (Lan.chk a b sh ya ti)], [some ⟨[.run (.int .i64) []], false, 0, false, false, none⟩]) else bif (↑f.length : Int) != (↑ya.length : Int) then some (.tuple [osW 0 0, vi 5], [some ⟨[.run (.int .i64) []], false, 0, false, false, none⟩]) else bif Lan.famG a b sh ti f && decide ((↑f.length : Int) = (↑f.length : Int)) && decide (f.length ≤ ya.length) then bif Lan.errE (Lan.orX a b sh ya ti f) == 0 then some (.tuple [.os 0 0 0 (Lan.errS (Lan.orX a b sh ya ti f)).length true false true, vi 0], [some ⟨[.run (.int .i64) (Lan.errS (Lan.orX a b sh ya ti f))], false, Lane.tyI (Lan.errS (Lan.orX a b sh ya ti f)), false, false, none⟩]) else some (.tuple [osW 0 0, vi (Lan.errE (Lan.orX a b sh ya ti f))], [some ⟨[.run (.int .i64) []], false, 0, false, false, none⟩]) else none else none) := by kernel_rfl
theorem nl31_8 (again : Ag) (f : List (List Int)) (sh ya ti out : List Int) (a b i : Int) (ty : TypeId) : lpStep Y4 31 8 0 (lpc Y4 31 8) again [lL f, ps 0, ps 1, osW 2 0, vi 0, osW 3 out.length, vi i] [some (rP a b sh 29), some (rZ ya ti 30), some (rowI [] 0), some (rowI out ty)] = (bif decide (i < (↑f.length : Int)) then bif decide (0 ≤ i) then bif decide (i < (↑f.length : Int)) then oM f[i.toNat]? fun x => bif (↑(List.length x) : Int) == 0 then some (.ret, [.sl (.ilist .i64) f false, .ps 0 0 0 0, .ps 1 0 0 0, osW 2 0, vi 4, osW 3 out.length, vi i], [some ⟨[vi a, vi b, .sl (.int .i64) sh false], true, 29, false, false, none⟩, some ⟨[.sl (.int .i64) ya false, .sl (.int .i64) ti false], true, 30, false, false, none⟩, some ⟨[.run (.int .i64) []], false, 0, false, false, none⟩, some ⟨[.run (.int .i64) out], false, ty, false, false, none⟩]) else bif sm x && sm sh && Lan.side a b && decide (out.length = out.length) then bif Lan.firstE (Lan.wyErr a b sh x) x == 0 then bif decide (0 ≤ IntKind.i64.wrap ((↑(List.length x) : Int) - 1)) then bif decide (IntKind.i64.wrap ((↑(List.length x) : Int) - 1) < (↑(List.length x) : Int)) then oM x[(IntKind.i64.wrap ((↑(List.length x) : Int) - 1)).toNat]? fun x_1 => bif sm ti then bif decide (0 < (↑(List.length x) : Int)) then oM x[0]? fun x => bif decide (0 ≤ i) then bif decide (i < (↑ya.length : Int)) then oM ya[i.toNat]? fun x_2 => bif x != x_2 then some (.ret, [.sl (.ilist .i64) f false, .ps 0 0 0 0, .ps 1 0 0 0, osW 2 0, vi 12, osW 3 out.length, vi i], [some { c := [vi a, vi b, .sl (.int .i64) sh false], vr := true, ty := 29, fz := false, loose := false : Row }, some { c := [.sl (.int .i64) ya false, .sl (.int .i64) ti false], vr := true, ty := 30, fz := false, loose := false : Row }, some ⟨[.run (.int .i64) []], false, 0, false, false, none⟩, some ⟨[.run (.int .i64) out], false, ty, false, false, none⟩]) else bif decide (Lan.idxV ti x_1 < 0) then some (.ret, [.sl (.ilist .i64) f false, .ps 0 0 0 0, .ps 1 0 0 0, osW 2 0, vi 12, osW 3 out.length, vi i], [some { c := [vi a, vi b, .sl (.int .i64) sh false], vr := true, ty := 29, fz := false, loose := false : Row }, some { c := [.sl (.int .i64) ya false, .sl (.int .i64) ti false], vr := true, ty := 30, fz := false, loose := false : Row }, some ⟨[.run (.int .i64) []], false, 0, false, false, none⟩, some ⟨[.run (.int .i64) out], false, ty, false, false, none⟩]) else bif sm out then bif Lan.has out (Lan.idxV ti x_1) then some (.ret, [.sl (.ilist .i64) f false, .ps 0 0 0 0, .ps 1 0 0 0, osW 2 0, vi 6, osW 3 out.length, vi i], [some { c := [vi a, vi b, .sl (.int .i64) sh false], vr := true, ty := 29, fz := false, loose := false : Row }, some { c := [.sl (.int .i64) ya false, .sl (.int .i64) ti false], vr := true, ty := 30, fz := false, loose := false : Row }, some { c := [.run (.int .i64) []], vr := false, ty := 0, fz := false, loose := false : Row }, some { c := [.run (.int .i64) out], vr := false, ty := ty, fz := false, loose := false : Row }]) else bif room (out.length + 1) 8 then again [.sl (.ilist .i64) f false, .ps 0 0 0 0, .ps 1 0 0 0, osW 2 0, vi 0, osW 3 (out.length + 1), vi (IntKind.i64.wrap (i + 1))] [some { c := [vi a, vi b, .sl (.int .i64) sh false], vr := true, ty := 29, fz := false, loose := false : Row }, some { c := [.sl (.int .i64) ya false, .sl (.int .i64) ti false], vr := true, ty := 30, fz := false, loose := false : Row }, some { c := [.run (.int .i64) []], vr := false, ty := 0, fz := false, loose := false : Row }, some { c := [.run (.int .i64) (out ++ [Lan.idxV ti x_1])], vr := false, ty := 3, fz := false, loose := false : Row }] else none else none else none else none else none else none else none else none else some (.ret, [.sl (.ilist .i64) f false, .ps 0 0 0 0, .ps 1 0 0 0, osW 2 0, vi (Lan.firstE (Lan.wyErr a b sh x) x), osW 3 out.length, vi i], [some ⟨[vi a, vi b, .sl (.int .i64) sh false], true, 29, false, false, none⟩, some ⟨[.sl (.int .i64) ya false, .sl (.int .i64) ti false], true, 30, false, false, none⟩, some ⟨[.run (.int .i64) []], false, 0, false, false, none⟩, some ⟨[.run (.int .i64) out], false, ty, false, false, none⟩]) else none else none else none else some (.ext 0, [.sl (.ilist .i64) f false, .ps 0 0 0 0, .ps 1 0 0 0, osW 2 0, vi 0, osW 3 out.length, vi i], [some ⟨[vi a, vi b, .sl (.int .i64) sh false], true, 29, false, false, none⟩, some ⟨[.sl (.int .i64) ya false, .sl (.int .i64) ti false], true, 30, false, false, none⟩, some ⟨[.run (.int .i64) []], false, 0, false, false, none⟩, some ⟨[.run (.int .i64) out], false, ty, false, false, none⟩])) := by kernel_rfl
def l31_8t (f : List (List Int)) (sh ya ti : List Int) (a b : Int) : Tree (Out × List AV × Hp) := .br (Lan.famG a b sh ti f && decide (f.length ≤ ya.length)) (.br (Lan.errE (Lan.orX a b sh ya ti f) == 0) (.leaf (.ext 0, [lL f, ps 0, ps 1, osW 2 0, vi 0, osW 3 (Lan.errS (Lan.orX a b sh ya ti f)).length, vi f.length], [some (rP a b sh 29), some (rZ ya ti 30), some (rowI [] 0), some (rI (Lan.errS (Lan.orX a b sh ya ti f)))])) (.leaf (.ret, [lL f, ps 0, ps 1, osW 2 0, vi (Lan.errE (Lan.orX a b sh ya ti f)), osW 3 (Lan.errS (Lan.orX a b sh ya ti f)).length, vi (Lan.errI 0 (Lan.orX a b sh ya ti f))], [some (rP a b sh 29), some (rZ ya ti 30), some (rowI [] 0), some (rI (Lan.errS (Lan.orX a b sh ya ti f)))]))) .fail
def l31_8 (base : Nat) (kv : List AV) (H : Hp) : Tree (Out × List AV × Hp) := match Nat.beq base 0, kv, H with
  | true, [(.sl (.ilist .i64) f false), (.ps 0 0 0 0), (.ps 1 0 0 0), (.os 2 0 0 0 true false true), (.sc (.int .i64 0)), (.os 3 0 0 0 true false true), (.sc (.int .i64 0))], [some ⟨[.sc (.int .i64 a), .sc (.int .i64 b), .sl (.int .i64) sh false], true, 29, false, false, none⟩, some ⟨[.sl (.int .i64) ya false, .sl (.int .i64) ti false], true, 30, false, false, none⟩, some ⟨[.run (.int .i64) []], false, 0, false, false, none⟩, some ⟨[.run (.int .i64) []], false, 0, false, false, none⟩] => l31_8t f sh ya ti a b
  | _, _, _ => .fail
theorem l31_8_ok {T : Tab} (hT : TabOK T) (hlo : loopOf T.fn 31 8 = some (lpc T 31 8)) (h : ∀ (f : List (List Int)) (sh ya ti : List Int) (a b : Int) (r : Out × List AV × Hp), (l31_8t f sh ya ti a b).val = some r → ∃ mm, lpRun T 31 8 0 (lpc T 31 8) mm [lL f, ps 0, ps 1, osW 2 0, vi 0, osW 3 0, vi 0] [some (rP a b sh 29), some (rZ ya ti 30), some (rowI [] 0), some (rowI [] 0)] = some r) : ∀ base kv H o kv' H', (l31_8 base kv H).val = some (o, kv', H') → LoopOK T 31 8 base kv H o kv' H' := by
  intro base kv H o kv' H' hv
  unfold l31_8 at hv
  split at hv
  · rename_i hb
    obtain rfl := Nat.eq_of_beq_eq_true hb
    exact loop_ok hT hlo (h _ _ _ _ _ _ _ hv)
  · cases hv
noncomputable def Y5 : Tab := (Y4).addLoop 31 8 l31_8
theorem nf31 (f : List (List Int)) (sh ya ti : List Int) (a b : Int) : evBody Y5 31 [aP a b sh, aX ya ti, lL f] [] = (bif sm sh && sm ya && sm ti then bif Lan.chk a b sh ya ti == 0 then bif (↑f.length : Int) != (↑ya.length : Int) then some (.tuple [osW 0 0, vi 5], [some ⟨[.run (.int .i64) []], false, 0, false, false, none⟩]) else bif Lan.chk a b sh ya ti != 0 then some (.tuple [osW 0 0, vi (Lan.chk a b sh ya ti)], [some ⟨[.run (.int .i64) []], false, 0, false, false, none⟩]) else bif Lan.famG a b sh ti f && decide (f.length ≤ ya.length) then bif Lan.errE (Lan.orX a b sh ya ti f) == 0 then some (.tuple [.os 0 0 0 (Lan.errS (Lan.orX a b sh ya ti f)).length true false true, vi 0], [some ⟨[.run (.int .i64) (Lan.errS (Lan.orX a b sh ya ti f))], false, Lane.tyI (Lan.errS (Lan.orX a b sh ya ti f)), false, false, none⟩]) else some (.tuple [osW 0 0, vi (Lan.errE (Lan.orX a b sh ya ti f))], [some ⟨[.run (.int .i64) []], false, 0, false, false, none⟩]) else none else bif Lan.chk a b sh ya ti != 0 then some (.tuple [osW 0 0, vi (Lan.chk a b sh ya ti)], [some ⟨[.run (.int .i64) []], false, 0, false, false, none⟩]) else bif Lan.famG a b sh ti f && decide (f.length ≤ ya.length) then bif Lan.errE (Lan.orX a b sh ya ti f) == 0 then some (.tuple [.os 0 0 0 (Lan.errS (Lan.orX a b sh ya ti f)).length true false true, vi 0], [some ⟨[.run (.int .i64) (Lan.errS (Lan.orX a b sh ya ti f))], false, Lane.tyI (Lan.errS (Lan.orX a b sh ya ti f)), false, false, none⟩]) else some (.tuple [osW 0 0, vi (Lan.errE (Lan.orX a b sh ya ti f))], [some ⟨[.run (.int .i64) []], false, 0, false, false, none⟩]) else none else none) := by kernel_rfl
def c30t (f : List (List Int)) (sh ya ti : List Int) (a b : Int) : Tree (AV × Hp) := .br (sm sh && sm ya && sm ti && sm f && f.all fun l => sm l) (.leaf (.tuple [osW 0 (Lan.ordL a b sh ya ti f).length, vi (Lan.ordE a b sh ya ti f)], [some (rI (Lan.ordL a b sh ya ti f))])) .fail
def c30 (args : List AV) (H : Hp) : Tree (AV × Hp) := match args, H with
  | [(.agg [.sc (.int .i64 a), .sc (.int .i64 b), .sl (.int .i64) sh false] false), (.agg [.sl (.int .i64) ya false, .sl (.int .i64) ti false] false), (.sl (.ilist .i64) f false)], [] => c30t f sh ya ti a b
  | _, _ => .fail
theorem c30_ok {T : Tab} (hT : TabOK T) (h : ∀ (f : List (List Int)) (sh ya ti : List Int) (a b : Int) (r : AV × Hp), (c30t f sh ya ti a b).val = some r → evBody T 30 [aP a b sh, aX ya ti, lL f] [] = some r) : ∀ args H v H', (c30 args H).val = some (v, H') → CallOK T 30 args H v H' := by
  intro args H v H' hv
  unfold c30 at hv
  split at hv
  · exact evBody_sound hT (h _ _ _ _ _ _ _ hv)
  · cases hv
def c31t (f : List (List Int)) (sh ya ti : List Int) (a b : Int) : Tree (AV × Hp) := .br (sm sh && sm ya && sm ti && sm f && f.all fun l => sm l) (.leaf (.tuple [osW 0 (Lan.ordL a b sh ya ti f).length, vi (Lan.ordE a b sh ya ti f)], [some (rI (Lan.ordL a b sh ya ti f))])) .fail
def c31 (args : List AV) (H : Hp) : Tree (AV × Hp) := match args, H with
  | [(.agg [.sc (.int .i64 a), .sc (.int .i64 b), .sl (.int .i64) sh false] false), (.agg [.sl (.int .i64) ya false, .sl (.int .i64) ti false] false), (.sl (.ilist .i64) f false)], [] => c31t f sh ya ti a b
  | _, _ => .fail
theorem c31_ok {T : Tab} (hT : TabOK T) (h : ∀ (f : List (List Int)) (sh ya ti : List Int) (a b : Int) (r : AV × Hp), (c31t f sh ya ti a b).val = some r → evBody T 31 [aP a b sh, aX ya ti, lL f] [] = some r) : ∀ args H v H', (c31 args H).val = some (v, H') → CallOK T 31 args H v H' := by
  intro args H v H' hv
  unfold c31 at hv
  split at hv
  · exact evBody_sound hT (h _ _ _ _ _ _ _ hv)
  · cases hv
noncomputable def Y6 : Tab := ((Y5).addCall 30 c30).addCall 31 c31
end Go.Ev.Lane
namespace Go.Ev.Lane
open Go Go.Ev
set_option maxRecDepth 1000000
set_option linter.unusedVariables false
set_option linter.unusedSimpArgs false
theorem idxV_neg (l : List Int) (n : Int) : decide (Lan.idxV l n < 0) = !Lan.has l n := by
  unfold Lan.idxV
  cases Lan.has l n with
  | true => rw [cond_true, decide_eq_false (by omega)]; rfl
  | false => rfl
theorem idxV_yes {l : List Int} {n : Int} (h : Lan.has l n = true) : Lan.idxV l n = (Lan.idx l n : Int) := by
  unfold Lan.idxV; rw [h]; rfl
theorem wy_ne {r c : Int} {sh l : List Int} (h : (Lan.wyE r c sh l != 0) = false) : l ≠ [] := by
  rintro rfl; cases h
theorem len_pred {l : List Int} (h : l ≠ []) (hs : sm l = true) : IntKind.i64.wrap ((l.length : Int) - 1) = ((l.length - 1 : Nat) : Int) := by
  have := List.length_pos_iff.2 h
  have := sm_le hs
  rw [wrapi (by omega) (by omega)]; omega
theorem l30_8_run : ∀ base kv H o kv' H', (l30_8 base kv H).val = some (o, kv', H') → LoopOK Y3 30 8 base kv H o kv' H' := l30_8_ok Y3_ok (by kernel_rfl) (by
  intro f sh ya ti a b q r hv
  obtain ⟨hl, hv2⟩ := guard_val hv
  unfold Lan.famG at hl
  simp only [Bool.and_eq_true, decide_eq_true_eq] at hl
  obtain ⟨⟨⟨⟨⟨⟨hs, hsh⟩, hti⟩, hsm⟩, hall⟩, rfl⟩, hfy⟩ := hl
  have hsm0 := sm_le hsm
  rw [List.all_eq_true] at hall
  obtain ⟨mm, hm⟩ := err_of (T := Y3) (fid := 30) (lid := 8) (base := 0) (c := lpc Y3 30 8) f (Lan.orErr a b sh ya ti) (fun _ out l => out ++ [(Lan.idx ti (Lan.lastI l) : Int)]) (fun i out => out.length = i)
    (fun i out => [ps 0, ps 1, osW 2 0, vi 0, osW 3 out.length, lL f, vi f.length, vi i]) (fun out => [some (rP a b sh 24), some (rZ ya ti 26), some (rowI [] 0), some (rI out)])
    (fun e i out => (.ret, [ps 0, ps 1, osW 2 0, vi e, osW 3 out.length, lL f, vi f.length, vi i], [some (rP a b sh 24), some (rZ ya ti 26), some (rowI [] 0), some (rI out)]))
    (fun out => (.ext 1, [ps 0, ps 1, osW 2 0, vi 0, osW 3 out.length, lL f, vi f.length, vi f.length], [some (rP a b sh 24), some (rZ ya ti 26), some (rowI [] 0), some (rI out)]))
    (fun i x out hx hlt hI again => by
      have hxs := hall x (List.mem_of_getElem? hx)
      refine (nl30 ..).trans ?_
      simp only [dec_lt hlt, dec_ge, cond_true, toNat_cast, hx, oM, hs, hsh, hxs, Bool.and_self]
      unfold Lan.orErr
      rw [wrap_succ (by omega)]
      cases hw : Lan.wyE a b sh x != 0 with
      | true =>
        simp only [cond_true]
        rw [show (Lan.wyE a b sh x == 0) = false by rw [bne] at hw; simpa using hw]
        rfl
      | false =>
        have hne := wy_ne hw
        have hp := List.length_pos_iff.2 hne
        have hso : sm out = true := decide_eq_true (by omega)
        simp only [len_pred hne hxs, dec_ge, dec_lt (show x.length - 1 < x.length by omega), toNat_cast, Lan.last_get hne, cond_true, cond_false, hti, decide_eq_true (show (0 : Int) < (x.length : Int) by omega), getD_ln (0 : Int) hp, dec_lt (show i < ya.length by omega), getD_ln (0 : Int) (show i < ya.length by omega), idxV_neg, hso]
        cases h1 : x.getD 0 0 != ya.getD i 0 with
        | true => rfl
        | false =>
          cases h2 : Lan.has ti (Lan.lastI x) with
          | false => rfl
          | true =>
            rw [idxV_yes h2]
            simp only [Bool.not_true, Bool.or_self, cond_false]
            cases h3 : Lan.has out (Lan.idx ti (Lan.lastI x) : Int) with
            | true => rfl
            | false =>
              simp only [cond_false, room_ok (show out.length + 1 ≤ 1000000 by omega) (show 8 ≤ 200 by omega), cond_true, List.length_append, List.length_singleton, rI, tyI_snoc]
              rfl)
    (fun i x out hx hlt hI _ => by rw [List.length_append, hI, List.length_singleton])
    (fun out hI again => by
      refine (nl30 ..).trans ?_
      simp only [dec_ll, cond_false]) [] rfl
  refine ⟨mm, hm.trans ?_⟩
  rcases br_val hv2 with ⟨h, hv⟩ | ⟨h, hv⟩ <;> (rw [leaf_val hv]; unfold Lan.orX at h ⊢; rw [h]; rfl))
theorem l31_14_run : ∀ base kv H o kv' H', (l31_14 base kv H).val = some (o, kv', H') → LoopOK Y3 31 14 base kv H o kv' H' := l31_14_ok Y3_ok (by kernel_rfl) (by
  intro f sh ya ti out l a b i ty k r hv
  obtain ⟨hl, hv2⟩ := guard_val hv
  simp only [Bool.and_eq_true, decide_eq_true_eq] at hl
  obtain ⟨⟨⟨hsm, hsh⟩, hs⟩, rfl⟩ := hl
  have hsm0 := sm_le hsm
  obtain ⟨mm, hm⟩ := first_inv (T := Y3) (fid := 31) (lid := 14) (base := 0) (c := lpc Y3 31 14) l (Lan.wyErr a b sh l) (fun j => [lL f, ps 0, ps 1, osW 2 0, vi 0, osW 3 out.length, vi i, lI l, vi j]) [some (rP a b sh 29), some (rZ ya ti 30), some (rowI [] 0), some (rowI out ty)]
    (fun e j => (.ret, [lL f, ps 0, ps 1, osW 2 0, vi e, osW 3 out.length, vi i, lI l, vi j], [some (rP a b sh 29), some (rZ ya ti 30), some (rowI [] 0), some (rowI out ty)])) (.ext 2, [lL f, ps 0, ps 1, osW 2 0, vi 0, osW 3 out.length, vi i, lI l, vi l.length], [some (rP a b sh 29), some (rZ ya ti 30), some (rowI [] 0), some (rowI out ty)])
    (fun j x hx hlt hI again => by
      refine (nl31_14 ..).trans ?_
      simp only [dec_lt hlt, dec_ge, cond_true, toNat_cast, hx, oM, hs, hsh, Bool.not_not]
      unfold Lan.wyErr
      rw [wrap_succ (by omega)]
      cases hw : Lan.wrongB a b x with
      | true => rfl
      | false =>
        cases Lan.has sh x with
        | true => rfl
        | false =>
          cases j with
          | zero => rfl
          | succ j =>
            have hg := getD_ln (0 : Int) (show j < l.length by omega)
            have hwp := wy_ok (hI j _ (by omega) hg)
            obtain ⟨p0, p1, p2⟩ := wrong16 hs hwp
            rw [wrapi (x := ((j + 1 : Nat) : Int) - 1) (by omega) (by omega), show ((j + 1 : Nat) : Int) - 1 = (j : Int) by omega]
            simp only [decide_eq_true (show ((j + 1 : Nat) : Int) > 0 by omega), cond_true, cond_false, dec_ge, dec_lt hlt, hx, decide_eq_true (show (j : Int) < (l.length : Int) by omega), toNat_cast, hg, decide_eq_true (show 0 < j + 1 by omega), Nat.add_sub_cancel, Bool.true_and, decide_eq_true p0, decide_eq_true p1, Bool.and_self]
            cases Lan.stepR b (l.getD j 0) x <;> rfl)
    (fun again => by
      refine (nl31_14 ..).trans ?_
      simp only [dec_ll, cond_false])
  refine ⟨mm, hm.trans ?_⟩
  rcases br_val hv2 with ⟨h, hv⟩ | ⟨h, hv⟩ <;> (rw [h, leaf_val hv]; rfl))
theorem Y4_ok : TabOK Y4 := by
  have h := Y3_ok
  have h := h.addLoop (g := 30) (lid := 8) (r := l30_8) fun b k H o k' H' hv => by refine LoopOK.tab ?_ ?_ ?_ ?_ (l30_8_run b k H o k' H' hv) <;> rfl
  have h := h.addLoop (g := 31) (lid := 14) (r := l31_14) fun b k H o k' H' hv => by refine LoopOK.tab ?_ ?_ ?_ ?_ (l31_14_run b k H o k' H' hv) <;> rfl
  exact h
theorem l31_8_run : ∀ base kv H o kv' H', (l31_8 base kv H).val = some (o, kv', H') → LoopOK Y4 31 8 base kv H o kv' H' := l31_8_ok Y4_ok (by kernel_rfl) (by
  intro f sh ya ti a b r hv
  obtain ⟨hl, hv2⟩ := guard_val hv
  unfold Lan.famG at hl
  simp only [Bool.and_eq_true, decide_eq_true_eq] at hl
  obtain ⟨⟨⟨⟨⟨hs, hsh⟩, hti⟩, hsm⟩, hall⟩, hfy⟩ := hl
  have hsm0 := sm_le hsm
  rw [List.all_eq_true] at hall
  obtain ⟨mm, hm⟩ := err_of (T := Y4) (fid := 31) (lid := 8) (base := 0) (c := lpc Y4 31 8) f (Lan.orErr a b sh ya ti) (fun _ out l => out ++ [(Lan.idx ti (Lan.lastI l) : Int)]) (fun i out => out.length = i)
    (fun i out => [lL f, ps 0, ps 1, osW 2 0, vi 0, osW 3 out.length, vi i]) (fun out => [some (rP a b sh 29), some (rZ ya ti 30), some (rowI [] 0), some (rI out)])
    (fun e i out => (.ret, [lL f, ps 0, ps 1, osW 2 0, vi e, osW 3 out.length, vi i], [some (rP a b sh 29), some (rZ ya ti 30), some (rowI [] 0), some (rI out)]))
    (fun out => (.ext 0, [lL f, ps 0, ps 1, osW 2 0, vi 0, osW 3 out.length, vi f.length], [some (rP a b sh 29), some (rZ ya ti 30), some (rowI [] 0), some (rI out)]))
    (fun i x out hx hlt hI again => by
      have hxs := hall x (List.mem_of_getElem? hx)
      refine (nl31_8 ..).trans ?_
      simp only [dec_lt hlt, dec_ge, cond_true, toNat_cast, hx, oM, hs, hsh, hxs, Bool.and_self, len_z, decide_true]
      unfold Lan.orErr Lan.wyE
      rw [wrap_succ (by omega)]
      cases hz : decide (x.length = 0) with
      | true => rfl
      | false =>
        have hz := of_decide_eq_false hz
        have hne : x ≠ [] := by rintro rfl; exact hz rfl
        simp only [cond_false]
        cases hw : Lan.firstE (Lan.wyErr a b sh x) x == 0 with
        | false =>
          simp only [cond_false]
          rw [show (Lan.firstE (Lan.wyErr a b sh x) x != 0) = true by rw [bne, hw]; rfl]
          simp only [cond_true, hw, cond_false]
        | true =>
          rw [show (Lan.firstE (Lan.wyErr a b sh x) x != 0) = false by rw [bne, hw]; rfl]
          have hp := List.length_pos_iff.2 hne
          have hso : sm out = true := decide_eq_true (by omega)
          simp only [len_pred hne hxs, dec_ge, dec_lt (show x.length - 1 < x.length by omega), toNat_cast, Lan.last_get hne, cond_true, cond_false, hti, decide_eq_true (show (0 : Int) < (x.length : Int) by omega), getD_ln (0 : Int) hp, dec_lt (show i < ya.length by omega), getD_ln (0 : Int) (show i < ya.length by omega), idxV_neg, hso]
          cases h1 : x.getD 0 0 != ya.getD i 0 with
          | true => rfl
          | false =>
            cases h2 : Lan.has ti (Lan.lastI x) with
            | false => rfl
            | true =>
              rw [idxV_yes h2]
              simp only [Bool.not_true, Bool.or_self, cond_false]
              cases h3 : Lan.has out (Lan.idx ti (Lan.lastI x) : Int) with
              | true => rfl
              | false =>
                simp only [cond_false, room_ok (show out.length + 1 ≤ 1000000 by omega) (show 8 ≤ 200 by omega), cond_true, List.length_append, List.length_singleton, rI, tyI_snoc]
                rfl)
    (fun i x out hx hlt hI _ => by rw [List.length_append, hI, List.length_singleton])
    (fun out hI again => by
      refine (nl31_8 ..).trans ?_
      simp only [dec_ll, cond_false]) [] rfl
  refine ⟨mm, hm.trans ?_⟩
  rcases br_val hv2 with ⟨h, hv⟩ | ⟨h, hv⟩ <;> (rw [leaf_val hv]; unfold Lan.orX at h ⊢; rw [h]; rfl))
theorem Y5_ok : TabOK Y5 := by
  have h := Y4_ok
  have h := h.addLoop (g := 31) (lid := 8) (r := l31_8) fun b k H o k' H' hv => by refine LoopOK.tab ?_ ?_ ?_ ?_ (l31_8_run b k H o k' H' hv) <;> rfl
  exact h
theorem ordL_zero {a b : Int} {sh ya ti : List Int} {f : List (List Int)} (h : (Lan.ordE a b sh ya ti f == 0) = false) : Lan.ordL a b sh ya ti f = [] := by
  unfold Lan.ordL; rw [h]; rfl
theorem len_ne2 (ya : List (List Int)) (ti : List Int) : ((ya.length : Int) != (ti.length : Int)) = decide (ya.length ≠ ti.length) := by
  rw [Bool.eq_iff_iff, bne_iff_ne, decide_eq_true_eq]; omega
theorem c30_run : ∀ args H v H', (c30 args H).val = some (v, H') → CallOK Y5 30 args H v H' := fun a H v H' hv => by
  refine CallOK.tab ?_ ?_ (c30_ok (T := Y4) Y4_ok (by
    intro f sh ya ti a b r hv
    obtain ⟨hl, hv2⟩ := guard_val hv
    simp only [Bool.and_eq_true] at hl
    obtain ⟨⟨⟨⟨h1, h2⟩, h3⟩, h4⟩, h5⟩ := hl
    refine (nf30 ..).trans ?_
    rw [h1, h2, h3, leaf_val hv2]
    cases hc : Lan.chk a b sh ya ti != 0 with
    | true =>
      have e : Lan.ordE a b sh ya ti f = Lan.chk a b sh ya ti := by unfold Lan.ordE; rw [hc]; rfl
      have e2 : Lan.ordL a b sh ya ti f = [] := ordL_zero (by rw [e]; rw [bne] at hc; simpa using hc)
      rw [e, e2]
      rfl
    | false =>
      rw [len_ne2]
      cases hn : decide (f.length ≠ ya.length) with
      | true =>
        have e : Lan.ordE a b sh ya ti f = 5 := by unfold Lan.ordE; rw [hc, hn]; rfl
        have e2 : Lan.ordL a b sh ya ti f = [] := ordL_zero (by rw [e]; rfl)
        rw [e, e2]
        rfl
      | false =>
        have hn' := of_decide_eq_false hn
        have e : Lan.ordE a b sh ya ti f = Lan.errE (Lan.orX a b sh ya ti f) := by unfold Lan.ordE; rw [hc, hn]; rfl
        have hk := Lan.chk_ok (by simpa using hc)
        have hg : Lan.famG a b sh ti f = true := by unfold Lan.famG; simp only [hk.side, h1, h3, h4, h5, Bool.and_self]
        simp only [hg, cond_true, cond_false, Bool.and_self, decide_true, decide_eq_true (show f.length ≤ ya.length by omega)]
        cases hx : Lan.errE (Lan.orX a b sh ya ti f) == 0 with
        | true =>
          have e2 : Lan.ordL a b sh ya ti f = Lan.errS (Lan.orX a b sh ya ti f) := by unfold Lan.ordL; rw [e, hx]; rfl
          rw [e, e2, beq_iff_eq.1 hx]; rfl
        | false =>
          have e2 : Lan.ordL a b sh ya ti f = [] := ordL_zero (by rw [e]; exact hx)
          rw [e, e2]; rfl) a H v H' hv) <;> rfl
theorem c31_run : ∀ args H v H', (c31 args H).val = some (v, H') → CallOK Y5 31 args H v H' := c31_ok Y5_ok (by
  intro f sh ya ti a b r hv
  obtain ⟨hl, hv2⟩ := guard_val hv
  simp only [Bool.and_eq_true] at hl
  obtain ⟨⟨⟨⟨h1, h2⟩, h3⟩, h4⟩, h5⟩ := hl
  refine (nf31 ..).trans ?_
  rw [h1, h2, h3, leaf_val hv2]
  cases hc : Lan.chk a b sh ya ti != 0 with
  | true =>
    have e : Lan.ordE a b sh ya ti f = Lan.chk a b sh ya ti := by unfold Lan.ordE; rw [hc]; rfl
    have hc0 : (Lan.chk a b sh ya ti == 0) = false := by rw [bne] at hc; simpa using hc
    have e2 : Lan.ordL a b sh ya ti f = [] := ordL_zero (by rw [e]; exact hc0)
    rw [e, e2, hc0]
    rfl
  | false =>
    have hc0 : (Lan.chk a b sh ya ti == 0) = true := by rw [bne] at hc; simpa using hc
    rw [len_ne2, hc0]
    cases hn : decide (f.length ≠ ya.length) with
    | true =>
      have e : Lan.ordE a b sh ya ti f = 5 := by unfold Lan.ordE; rw [hc, hn]; rfl
      have e2 : Lan.ordL a b sh ya ti f = [] := ordL_zero (by rw [e]; rfl)
      rw [e, e2]
      rfl
    | false =>
      have hn' := of_decide_eq_false hn
      have e : Lan.ordE a b sh ya ti f = Lan.errE (Lan.orX a b sh ya ti f) := by unfold Lan.ordE; rw [hc, hn]; rfl
      have hk := Lan.chk_ok (by simpa using hc)
      have hg : Lan.famG a b sh ti f = true := by unfold Lan.famG; simp only [hk.side, h1, h3, h4, h5, Bool.and_self]
      simp only [hg, cond_true, cond_false, Bool.and_self, decide_true, decide_eq_true (show f.length ≤ ya.length by omega)]
      cases hx : Lan.errE (Lan.orX a b sh ya ti f) == 0 with
      | true =>
        have e2 : Lan.ordL a b sh ya ti f = Lan.errS (Lan.orX a b sh ya ti f) := by unfold Lan.ordL; rw [e, hx]; rfl
        rw [e, e2, beq_iff_eq.1 hx]; rfl
      | false =>
        have e2 : Lan.ordL a b sh ya ti f = [] := ordL_zero (by rw [e]; exact hx)
        rw [e, e2]; rfl)
theorem Y6_ok : TabOK Y6 := by
  have h := Y5_ok
  have h := h.addCall (g := 30) (r := c30) fun a H v H' hv => by refine CallOK.tab ?_ ?_ (c30_run a H v H' hv) <;> rfl
  have h := h.addCall (g := 31) (r := c31) fun a H v H' hv => by refine CallOK.tab ?_ ?_ (c31_run a H v H' hv) <;> rfl
  exact h
end Go.Ev.Lane
