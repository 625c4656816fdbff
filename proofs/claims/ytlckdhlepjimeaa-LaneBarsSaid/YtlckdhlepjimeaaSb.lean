/- The lane chapter's ways: tables and normal forms. -/
import Derived.Test.YtlckdhlepjimeaaSa
import Derived.Test.YtlckdhlepjimeaaRs
set_option linter.unusedVariables false
set_option linter.unusedSimpArgs false
namespace Go.Ev.Lane
open Go Go.Ev
set_option maxRecDepth 1000000
set_option maxHeartbeats 0
set_option linter.unusedVariables false
def tyI (l : List Int) : TypeId := match l with
  | [] => 0
  | _ :: _ => 3
abbrev rI (l : List Int) : Row := rowI l (tyI l)
theorem tyI_snoc (l : List Int) (x : Int) : tyI (l ++ [x]) = 3 := by cases l <;> rfl
abbrev osT (r k : Nat) : AV := .os r 0 0 k true true true
abbrev vS (s : Int) : AV := .sc (.int .u16 s)
theorem nl89 (again : Ag) (l : List Int) (s q i : Int) : lpStep T6 89 3 0 (lpc T6 89 3) again [vS s, lI l, vi q, vi i] [] = (bif decide (i < q) then bif decide (0 ≤ i) then bif decide (i < (↑l.length : Int)) then oM l[i.toNat]? fun x => bif decide (0 ≤ x) then again [.sc (.int .u16 (IntKind.u16.wrap (↑(BitVec.ofInt 16 s ||| BitVec.ofInt 16 (IntKind.u16.wrap (1 * 2 ^ Min.min (Int.toNat x) 16))).toNat : Int))), .sl (.int .i64) l false, vi q, vi (IntKind.i64.wrap (i + 1))] [] else none else none else none else some (.ext 0, [.sc (.int .u16 s), .sl (.int .i64) l false, vi q, vi i], [])) := by kernel_rfl
theorem nl102 (sh out : List Int) (again : Ag) (ty : TypeId) (a b n s m1 m2 : Int) : lpStep T6 102 3 0 (lpc T6 102 3) again [vi n, vS s, ps 0, osW 1 out.length, .agg [.run (.int .i64) [m1, m2]] false, vi 0] [some (rP a b sh 24), some (rowI out ty)] = (bif m1 == IntKind.i64.wrap (n + 1) then bif !decide (b = 0) then bif m1.tmod b == 0 then bif decide (b > 1) then again [vi n, .sc (.int .u16 s), .ps 0 0 0 0, osW 1 out.length, .agg [.run (.int .i64) [m1, m2]] false, vi 1] [some ⟨[vi a, vi b, .sl (.int .i64) sh false], true, 24, false, false, none⟩, some ⟨[.run (.int .i64) out], false, ty, false, false, none⟩] else bif b == 1 then bif decide ((↑out.length : Int) > 0) then again [vi n, .sc (.int .u16 s), .ps 0 0 0 0, osW 1 out.length, .agg [.run (.int .i64) [m1, m2]] false, vi 1] [some ⟨[vi a, vi b, .sl (.int .i64) sh false], true, 24, false, false, none⟩, some ⟨[.run (.int .i64) out], false, ty, false, false, none⟩] else bif Lan.side a b then bif Lan.wrongB a b m1 then again [vi n, .sc (.int .u16 s), .ps 0 0 0 0, osW 1 out.length, .agg [.run (.int .i64) [m1, m2]] false, vi 1] [some ⟨[vi a, vi b, .sl (.int .i64) sh false], true, 24, false, false, none⟩, some ⟨[.run (.int .i64) out], false, ty, false, false, none⟩] else bif decide (0 ≤ m1) then bif IntKind.u16.wrap (↑(BitVec.ofInt 16 (s.fdiv (2 ^ Min.min m1.toNat 16)) &&& BitVec.ofInt 16 1).toNat : Int) == 1 then again [vi n, .sc (.int .u16 s), .ps 0 0 0 0, osW 1 out.length, .agg [.run (.int .i64) [m1, m2]] false, vi 1] [some ⟨[vi a, vi b, .sl (.int .i64) sh false], true, 24, false, false, none⟩, some ⟨[.run (.int .i64) out], false, ty, false, false, none⟩] else bif room (out.length + 1) 8 then again [vi n, .sc (.int .u16 s), .ps 0 0 0 0, osW 1 (out.length + 1), .agg [.run (.int .i64) [m1, m2]] false, vi 1] [some ⟨[vi a, vi b, .sl (.int .i64) sh false], true, 24, false, false, none⟩, some ⟨[.run (.int .i64) (out ++ [m1])], false, 3, false, false, none⟩] else none else none else none else bif Lan.side a b then bif Lan.wrongB a b m1 then again [vi n, .sc (.int .u16 s), .ps 0 0 0 0, osW 1 out.length, .agg [.run (.int .i64) [m1, m2]] false, vi 1] [some ⟨[vi a, vi b, .sl (.int .i64) sh false], true, 24, false, false, none⟩, some ⟨[.run (.int .i64) out], false, ty, false, false, none⟩] else bif decide (0 ≤ m1) then bif IntKind.u16.wrap (↑(BitVec.ofInt 16 (s.fdiv (2 ^ Min.min m1.toNat 16)) &&& BitVec.ofInt 16 1).toNat : Int) == 1 then again [vi n, .sc (.int .u16 s), .ps 0 0 0 0, osW 1 out.length, .agg [.run (.int .i64) [m1, m2]] false, vi 1] [some ⟨[vi a, vi b, .sl (.int .i64) sh false], true, 24, false, false, none⟩, some ⟨[.run (.int .i64) out], false, ty, false, false, none⟩] else bif room (out.length + 1) 8 then again [vi n, .sc (.int .u16 s), .ps 0 0 0 0, osW 1 (out.length + 1), .agg [.run (.int .i64) [m1, m2]] false, vi 1] [some ⟨[vi a, vi b, .sl (.int .i64) sh false], true, 24, false, false, none⟩, some ⟨[.run (.int .i64) (out ++ [m1])], false, 3, false, false, none⟩] else none else none else none else bif b == 1 then bif decide ((↑out.length : Int) > 0) then again [vi n, .sc (.int .u16 s), .ps 0 0 0 0, osW 1 out.length, .agg [.run (.int .i64) [m1, m2]] false, vi 1] [some ⟨[vi a, vi b, .sl (.int .i64) sh false], true, 24, false, false, none⟩, some ⟨[.run (.int .i64) out], false, ty, false, false, none⟩] else bif Lan.side a b then bif Lan.wrongB a b m1 then again [vi n, .sc (.int .u16 s), .ps 0 0 0 0, osW 1 out.length, .agg [.run (.int .i64) [m1, m2]] false, vi 1] [some ⟨[vi a, vi b, .sl (.int .i64) sh false], true, 24, false, false, none⟩, some ⟨[.run (.int .i64) out], false, ty, false, false, none⟩] else bif decide (0 ≤ m1) then bif IntKind.u16.wrap (↑(BitVec.ofInt 16 (s.fdiv (2 ^ Min.min m1.toNat 16)) &&& BitVec.ofInt 16 1).toNat : Int) == 1 then again [vi n, .sc (.int .u16 s), .ps 0 0 0 0, osW 1 out.length, .agg [.run (.int .i64) [m1, m2]] false, vi 1] [some ⟨[vi a, vi b, .sl (.int .i64) sh false], true, 24, false, false, none⟩, some ⟨[.run (.int .i64) out], false, ty, false, false, none⟩] else bif room (out.length + 1) 8 then again [vi n, .sc (.int .u16 s), .ps 0 0 0 0, osW 1 (out.length + 1), .agg [.run (.int .i64) [m1, m2]] false, vi 1] [some ⟨[vi a, vi b, .sl (.int .i64) sh false], true, 24, false, false, none⟩, some ⟨[.run (.int .i64) (out ++ [m1])], false, 3, false, false, none⟩] else none else none else none else bif Lan.side a b then bif Lan.wrongB a b m1 then again [vi n, .sc (.int .u16 s), .ps 0 0 0 0, osW 1 out.length, .agg [.run (.int .i64) [m1, m2]] false, vi 1] [some ⟨[vi a, vi b, .sl (.int .i64) sh false], true, 24, false, false, none⟩, some ⟨[.run (.int .i64) out], false, ty, false, false, none⟩] else bif decide (0 ≤ m1) then bif IntKind.u16.wrap (↑(BitVec.ofInt 16 (s.fdiv (2 ^ Min.min m1.toNat 16)) &&& BitVec.ofInt 16 1).toNat : Int) == 1 then again [vi n, .sc (.int .u16 s), .ps 0 0 0 0, osW 1 out.length, .agg [.run (.int .i64) [m1, m2]] false, vi 1] [some ⟨[vi a, vi b, .sl (.int .i64) sh false], true, 24, false, false, none⟩, some ⟨[.run (.int .i64) out], false, ty, false, false, none⟩] else bif room (out.length + 1) 8 then again [vi n, .sc (.int .u16 s), .ps 0 0 0 0, osW 1 (out.length + 1), .agg [.run (.int .i64) [m1, m2]] false, vi 1] [some ⟨[vi a, vi b, .sl (.int .i64) sh false], true, 24, false, false, none⟩, some ⟨[.run (.int .i64) (out ++ [m1])], false, 3, false, false, none⟩] else none else none else none else none else bif b == 1 then bif decide ((↑out.length : Int) > 0) then again [vi n, .sc (.int .u16 s), .ps 0 0 0 0, osW 1 out.length, .agg [.run (.int .i64) [m1, m2]] false, vi 1] [some ⟨[vi a, vi b, .sl (.int .i64) sh false], true, 24, false, false, none⟩, some ⟨[.run (.int .i64) out], false, ty, false, false, none⟩] else bif Lan.side a b then bif Lan.wrongB a b m1 then again [vi n, .sc (.int .u16 s), .ps 0 0 0 0, osW 1 out.length, .agg [.run (.int .i64) [m1, m2]] false, vi 1] [some ⟨[vi a, vi b, .sl (.int .i64) sh false], true, 24, false, false, none⟩, some ⟨[.run (.int .i64) out], false, ty, false, false, none⟩] else bif decide (0 ≤ m1) then bif IntKind.u16.wrap (↑(BitVec.ofInt 16 (s.fdiv (2 ^ Min.min m1.toNat 16)) &&& BitVec.ofInt 16 1).toNat : Int) == 1 then again [vi n, .sc (.int .u16 s), .ps 0 0 0 0, osW 1 out.length, .agg [.run (.int .i64) [m1, m2]] false, vi 1] [some ⟨[vi a, vi b, .sl (.int .i64) sh false], true, 24, false, false, none⟩, some ⟨[.run (.int .i64) out], false, ty, false, false, none⟩] else bif room (out.length + 1) 8 then again [vi n, .sc (.int .u16 s), .ps 0 0 0 0, osW 1 (out.length + 1), .agg [.run (.int .i64) [m1, m2]] false, vi 1] [some ⟨[vi a, vi b, .sl (.int .i64) sh false], true, 24, false, false, none⟩, some ⟨[.run (.int .i64) (out ++ [m1])], false, 3, false, false, none⟩] else none else none else none else bif Lan.side a b then bif Lan.wrongB a b m1 then again [vi n, .sc (.int .u16 s), .ps 0 0 0 0, osW 1 out.length, .agg [.run (.int .i64) [m1, m2]] false, vi 1] [some ⟨[vi a, vi b, .sl (.int .i64) sh false], true, 24, false, false, none⟩, some ⟨[.run (.int .i64) out], false, ty, false, false, none⟩] else bif decide (0 ≤ m1) then bif IntKind.u16.wrap (↑(BitVec.ofInt 16 (s.fdiv (2 ^ Min.min m1.toNat 16)) &&& BitVec.ofInt 16 1).toNat : Int) == 1 then again [vi n, .sc (.int .u16 s), .ps 0 0 0 0, osW 1 out.length, .agg [.run (.int .i64) [m1, m2]] false, vi 1] [some ⟨[vi a, vi b, .sl (.int .i64) sh false], true, 24, false, false, none⟩, some ⟨[.run (.int .i64) out], false, ty, false, false, none⟩] else bif room (out.length + 1) 8 then again [vi n, .sc (.int .u16 s), .ps 0 0 0 0, osW 1 (out.length + 1), .agg [.run (.int .i64) [m1, m2]] false, vi 1] [some ⟨[vi a, vi b, .sl (.int .i64) sh false], true, 24, false, false, none⟩, some ⟨[.run (.int .i64) (out ++ [m1])], false, 3, false, false, none⟩] else none else none else none) := by kernel_rfl
theorem nl102b (sh out : List Int) (again : Ag) (ty : TypeId) (a b n s m1 m2 : Int) : lpStep T6 102 3 0 (lpc T6 102 3) again [vi n, vS s, ps 0, osW 1 out.length, .agg [.run (.int .i64) [m1, m2]] false, vi 1] [some (rP a b sh 24), some (rowI out ty)] = (bif m2 == IntKind.i64.wrap (n + 1) then bif !decide (b = 0) then bif m2.tmod b == 0 then bif decide (b > 1) then again [vi n, .sc (.int .u16 s), .ps 0 0 0 0, osW 1 out.length, .agg [.run (.int .i64) [m1, m2]] false, vi 2] [some ⟨[vi a, vi b, .sl (.int .i64) sh false], true, 24, false, false, none⟩, some ⟨[.run (.int .i64) out], false, ty, false, false, none⟩] else bif b == 1 then bif decide ((↑out.length : Int) > 0) then again [vi n, .sc (.int .u16 s), .ps 0 0 0 0, osW 1 out.length, .agg [.run (.int .i64) [m1, m2]] false, vi 2] [some ⟨[vi a, vi b, .sl (.int .i64) sh false], true, 24, false, false, none⟩, some ⟨[.run (.int .i64) out], false, ty, false, false, none⟩] else bif Lan.side a b then bif Lan.wrongB a b m2 then again [vi n, .sc (.int .u16 s), .ps 0 0 0 0, osW 1 out.length, .agg [.run (.int .i64) [m1, m2]] false, vi 2] [some ⟨[vi a, vi b, .sl (.int .i64) sh false], true, 24, false, false, none⟩, some ⟨[.run (.int .i64) out], false, ty, false, false, none⟩] else bif decide (0 ≤ m2) then bif IntKind.u16.wrap (↑(BitVec.ofInt 16 (s.fdiv (2 ^ Min.min m2.toNat 16)) &&& BitVec.ofInt 16 1).toNat : Int) == 1 then again [vi n, .sc (.int .u16 s), .ps 0 0 0 0, osW 1 out.length, .agg [.run (.int .i64) [m1, m2]] false, vi 2] [some ⟨[vi a, vi b, .sl (.int .i64) sh false], true, 24, false, false, none⟩, some ⟨[.run (.int .i64) out], false, ty, false, false, none⟩] else bif room (out.length + 1) 8 then again [vi n, .sc (.int .u16 s), .ps 0 0 0 0, osW 1 (out.length + 1), .agg [.run (.int .i64) [m1, m2]] false, vi 2] [some ⟨[vi a, vi b, .sl (.int .i64) sh false], true, 24, false, false, none⟩, some ⟨[.run (.int .i64) (out ++ [m2])], false, 3, false, false, none⟩] else none else none else none else bif Lan.side a b then bif Lan.wrongB a b m2 then again [vi n, .sc (.int .u16 s), .ps 0 0 0 0, osW 1 out.length, .agg [.run (.int .i64) [m1, m2]] false, vi 2] [some ⟨[vi a, vi b, .sl (.int .i64) sh false], true, 24, false, false, none⟩, some ⟨[.run (.int .i64) out], false, ty, false, false, none⟩] else bif decide (0 ≤ m2) then bif IntKind.u16.wrap (↑(BitVec.ofInt 16 (s.fdiv (2 ^ Min.min m2.toNat 16)) &&& BitVec.ofInt 16 1).toNat : Int) == 1 then again [vi n, .sc (.int .u16 s), .ps 0 0 0 0, osW 1 out.length, .agg [.run (.int .i64) [m1, m2]] false, vi 2] [some ⟨[vi a, vi b, .sl (.int .i64) sh false], true, 24, false, false, none⟩, some ⟨[.run (.int .i64) out], false, ty, false, false, none⟩] else bif room (out.length + 1) 8 then again [vi n, .sc (.int .u16 s), .ps 0 0 0 0, osW 1 (out.length + 1), .agg [.run (.int .i64) [m1, m2]] false, vi 2] [some ⟨[vi a, vi b, .sl (.int .i64) sh false], true, 24, false, false, none⟩, some ⟨[.run (.int .i64) (out ++ [m2])], false, 3, false, false, none⟩] else none else none else none else bif b == 1 then bif decide ((↑out.length : Int) > 0) then again [vi n, .sc (.int .u16 s), .ps 0 0 0 0, osW 1 out.length, .agg [.run (.int .i64) [m1, m2]] false, vi 2] [some ⟨[vi a, vi b, .sl (.int .i64) sh false], true, 24, false, false, none⟩, some ⟨[.run (.int .i64) out], false, ty, false, false, none⟩] else bif Lan.side a b then bif Lan.wrongB a b m2 then again [vi n, .sc (.int .u16 s), .ps 0 0 0 0, osW 1 out.length, .agg [.run (.int .i64) [m1, m2]] false, vi 2] [some ⟨[vi a, vi b, .sl (.int .i64) sh false], true, 24, false, false, none⟩, some ⟨[.run (.int .i64) out], false, ty, false, false, none⟩] else bif decide (0 ≤ m2) then bif IntKind.u16.wrap (↑(BitVec.ofInt 16 (s.fdiv (2 ^ Min.min m2.toNat 16)) &&& BitVec.ofInt 16 1).toNat : Int) == 1 then again [vi n, .sc (.int .u16 s), .ps 0 0 0 0, osW 1 out.length, .agg [.run (.int .i64) [m1, m2]] false, vi 2] [some ⟨[vi a, vi b, .sl (.int .i64) sh false], true, 24, false, false, none⟩, some ⟨[.run (.int .i64) out], false, ty, false, false, none⟩] else bif room (out.length + 1) 8 then again [vi n, .sc (.int .u16 s), .ps 0 0 0 0, osW 1 (out.length + 1), .agg [.run (.int .i64) [m1, m2]] false, vi 2] [some ⟨[vi a, vi b, .sl (.int .i64) sh false], true, 24, false, false, none⟩, some ⟨[.run (.int .i64) (out ++ [m2])], false, 3, false, false, none⟩] else none else none else none else bif Lan.side a b then bif Lan.wrongB a b m2 then again [vi n, .sc (.int .u16 s), .ps 0 0 0 0, osW 1 out.length, .agg [.run (.int .i64) [m1, m2]] false, vi 2] [some ⟨[vi a, vi b, .sl (.int .i64) sh false], true, 24, false, false, none⟩, some ⟨[.run (.int .i64) out], false, ty, false, false, none⟩] else bif decide (0 ≤ m2) then bif IntKind.u16.wrap (↑(BitVec.ofInt 16 (s.fdiv (2 ^ Min.min m2.toNat 16)) &&& BitVec.ofInt 16 1).toNat : Int) == 1 then again [vi n, .sc (.int .u16 s), .ps 0 0 0 0, osW 1 out.length, .agg [.run (.int .i64) [m1, m2]] false, vi 2] [some ⟨[vi a, vi b, .sl (.int .i64) sh false], true, 24, false, false, none⟩, some ⟨[.run (.int .i64) out], false, ty, false, false, none⟩] else bif room (out.length + 1) 8 then again [vi n, .sc (.int .u16 s), .ps 0 0 0 0, osW 1 (out.length + 1), .agg [.run (.int .i64) [m1, m2]] false, vi 2] [some ⟨[vi a, vi b, .sl (.int .i64) sh false], true, 24, false, false, none⟩, some ⟨[.run (.int .i64) (out ++ [m2])], false, 3, false, false, none⟩] else none else none else none else none else bif b == 1 then bif decide ((↑out.length : Int) > 0) then again [vi n, .sc (.int .u16 s), .ps 0 0 0 0, osW 1 out.length, .agg [.run (.int .i64) [m1, m2]] false, vi 2] [some ⟨[vi a, vi b, .sl (.int .i64) sh false], true, 24, false, false, none⟩, some ⟨[.run (.int .i64) out], false, ty, false, false, none⟩] else bif Lan.side a b then bif Lan.wrongB a b m2 then again [vi n, .sc (.int .u16 s), .ps 0 0 0 0, osW 1 out.length, .agg [.run (.int .i64) [m1, m2]] false, vi 2] [some ⟨[vi a, vi b, .sl (.int .i64) sh false], true, 24, false, false, none⟩, some ⟨[.run (.int .i64) out], false, ty, false, false, none⟩] else bif decide (0 ≤ m2) then bif IntKind.u16.wrap (↑(BitVec.ofInt 16 (s.fdiv (2 ^ Min.min m2.toNat 16)) &&& BitVec.ofInt 16 1).toNat : Int) == 1 then again [vi n, .sc (.int .u16 s), .ps 0 0 0 0, osW 1 out.length, .agg [.run (.int .i64) [m1, m2]] false, vi 2] [some ⟨[vi a, vi b, .sl (.int .i64) sh false], true, 24, false, false, none⟩, some ⟨[.run (.int .i64) out], false, ty, false, false, none⟩] else bif room (out.length + 1) 8 then again [vi n, .sc (.int .u16 s), .ps 0 0 0 0, osW 1 (out.length + 1), .agg [.run (.int .i64) [m1, m2]] false, vi 2] [some ⟨[vi a, vi b, .sl (.int .i64) sh false], true, 24, false, false, none⟩, some ⟨[.run (.int .i64) (out ++ [m2])], false, 3, false, false, none⟩] else none else none else none else bif Lan.side a b then bif Lan.wrongB a b m2 then again [vi n, .sc (.int .u16 s), .ps 0 0 0 0, osW 1 out.length, .agg [.run (.int .i64) [m1, m2]] false, vi 2] [some ⟨[vi a, vi b, .sl (.int .i64) sh false], true, 24, false, false, none⟩, some ⟨[.run (.int .i64) out], false, ty, false, false, none⟩] else bif decide (0 ≤ m2) then bif IntKind.u16.wrap (↑(BitVec.ofInt 16 (s.fdiv (2 ^ Min.min m2.toNat 16)) &&& BitVec.ofInt 16 1).toNat : Int) == 1 then again [vi n, .sc (.int .u16 s), .ps 0 0 0 0, osW 1 out.length, .agg [.run (.int .i64) [m1, m2]] false, vi 2] [some ⟨[vi a, vi b, .sl (.int .i64) sh false], true, 24, false, false, none⟩, some ⟨[.run (.int .i64) out], false, ty, false, false, none⟩] else bif room (out.length + 1) 8 then again [vi n, .sc (.int .u16 s), .ps 0 0 0 0, osW 1 (out.length + 1), .agg [.run (.int .i64) [m1, m2]] false, vi 2] [some ⟨[vi a, vi b, .sl (.int .i64) sh false], true, 24, false, false, none⟩, some ⟨[.run (.int .i64) (out ++ [m2])], false, 3, false, false, none⟩] else none else none else none) := by kernel_rfl
theorem nl102c (sh out : List Int) (again : Ag) (ty : TypeId) (a b n s m1 m2 : Int) : lpStep T6 102 3 0 (lpc T6 102 3) again [vi n, vS s, ps 0, osW 1 out.length, .agg [.run (.int .i64) [m1, m2]] false, vi 2] [some (rP a b sh 24), some (rowI out ty)] = (some (.ext 0, [vi n, .sc (.int .u16 s), .ps 0 0 0 0, osW 1 out.length, .agg [.run (.int .i64) [m1, m2]] false, vi 2], [some ⟨[vi a, vi b, .sl (.int .i64) sh false], true, 24, false, false, none⟩, some ⟨[.run (.int .i64) out], false, ty, false, false, none⟩])) := by kernel_rfl
theorem nf87 (sh : List Int) (a b x y : Int) : evBody T6 87 [aP a b sh, vi x, vi y] [] = (bif y == IntKind.i64.wrap (x + 1) then bif !decide (b = 0) then bif decide (y.tmod b > 0) then some (vb true, []) else some (vb (y == IntKind.i64.wrap (x + b)), []) else none else some (vb (y == IntKind.i64.wrap (x + b)), [])) := by kernel_rfl
def _root_.Lan.ofN (l : List Int) : Nat := l.foldl (fun s x => s ||| 2 ^ x.toNat) 0
def _root_.Lan.in16 (l : List Int) : Bool := l.all fun x => decide (0 ≤ x) && decide (x < 16)
def _root_.Lan.rdP (a b n : Int) (s : Nat) (m : Int) (out : List Int) : List Int := bif ((m == n + 1) && (m.tmod b == 0) && decide (1 < b)) || ((b == 1) && decide (0 < out.length)) || Lan.wrongB a b m || s.testBit m.toNat then out else out ++ [m]
def _root_.Lan.stP (a b n : Int) (s : Nat) : List Int := Lan.rdP a b n s (n + b) (Lan.rdP a b n s (n + 1) [])
def _root_.Lan.stepR (b x y : Int) : Bool := bif (y == x + 1) && decide (0 < y.tmod b) then true else y == x + b
def l89_3t (l : List Int) (q : Int) : Tree (Out × List AV × Hp) := .br (sm l && decide (q = (l.length : Int)) && Lan.in16 l) (.leaf (.ext 0, [vS (Lan.ofN l), lI l, vi q, vi q], [])) .fail
def l89_3 (base : Nat) (kv : List AV) (H : Hp) : Tree (Out × List AV × Hp) := match Nat.beq base 0, kv, H with
  | true, [(.sc (.int .u16 0)), (.sl (.int .i64) l false), (.sc (.int .i64 q)), (.sc (.int .i64 0))], [] => l89_3t l q
  | _, _, _ => .fail
theorem l89_3_ok {T : Tab} (hT : TabOK T) (hlo : loopOf T.fn 89 3 = some (lpc T 89 3)) (h : ∀ (l : List Int) (q : Int) (r : Out × List AV × Hp), (l89_3t l q).val = some r → ∃ mm, lpRun T 89 3 0 (lpc T 89 3) mm [vS 0, lI l, vi q, vi 0] [] = some r) : ∀ base kv H o kv' H', (l89_3 base kv H).val = some (o, kv', H') → LoopOK T 89 3 base kv H o kv' H' := by
  intro base kv H o kv' H' hv
  unfold l89_3 at hv
  split at hv
  · rename_i hb
    obtain rfl := Nat.eq_of_beq_eq_true hb
    exact loop_ok hT hlo (h _ _ _ hv)
  · cases hv
def l102_3t (sh : List Int) (a b n s m1 m2 : Int) : Tree (Out × List AV × Hp) := .br (Lan.side a b && decide (m1 = n + 1) && decide (m2 = n + b) && decide (0 ≤ n) && decide (n < 16) && decide (0 ≤ s) && decide (s < 65536)) (.leaf (.ext 0, [vi n, vS s, ps 0, osW 1 (Lan.stP a b n s.toNat).length, .agg [.run (.int .i64) [m1, m2]] false, vi 2], [some (rP a b sh 24), some (rI (Lan.stP a b n s.toNat))])) .fail
def l102_3 (base : Nat) (kv : List AV) (H : Hp) : Tree (Out × List AV × Hp) := match Nat.beq base 0, kv, H with
  | true, [(.sc (.int .i64 n)), (.sc (.int .u16 s)), (.ps 0 0 0 0), (.os 1 0 0 0 true false true), .agg [.run (.int .i64) [m1, m2]] false, (.sc (.int .i64 0))], [some ⟨[.sc (.int .i64 a), .sc (.int .i64 b), .sl (.int .i64) sh false], true, 24, false, false, none⟩, some ⟨[.run (.int .i64) []], false, 0, false, false, none⟩] => l102_3t sh a b n s m1 m2
  | _, _, _ => .fail
theorem l102_3_ok {T : Tab} (hT : TabOK T) (hlo : loopOf T.fn 102 3 = some (lpc T 102 3)) (h : ∀ (sh : List Int) (a b n s m1 m2 : Int) (r : Out × List AV × Hp), (l102_3t sh a b n s m1 m2).val = some r → ∃ mm, lpRun T 102 3 0 (lpc T 102 3) mm [vi n, vS s, ps 0, osW 1 0, .agg [.run (.int .i64) [m1, m2]] false, vi 0] [some (rP a b sh 24), some (rowI [] 0)] = some r) : ∀ base kv H o kv' H', (l102_3 base kv H).val = some (o, kv', H') → LoopOK T 102 3 base kv H o kv' H' := by
  intro base kv H o kv' H' hv
  unfold l102_3 at hv
  split at hv
  · rename_i hb
    obtain rfl := Nat.eq_of_beq_eq_true hb
    exact loop_ok hT hlo (h _ _ _ _ _ _ _ _ hv)
  · cases hv
def c87t (sh : List Int) (a b x y : Int) : Tree (AV × Hp) := .br (Lan.side a b && decide (0 ≤ x) && decide (x < 16)) (.leaf (vb (Lan.stepR b x y), [])) .fail
def c87 (args : List AV) (H : Hp) : Tree (AV × Hp) := match args, H with
  | [(.agg [.sc (.int .i64 a), .sc (.int .i64 b), .sl (.int .i64) sh false] false), (.sc (.int .i64 x)), (.sc (.int .i64 y))], [] => c87t sh a b x y
  | _, _ => .fail
theorem c87_ok {T : Tab} (hT : TabOK T) (h : ∀ (sh : List Int) (a b x y : Int) (r : AV × Hp), (c87t sh a b x y).val = some r → evBody T 87 [aP a b sh, vi x, vi y] [] = some r) : ∀ args H v H', (c87 args H).val = some (v, H') → CallOK T 87 args H v H' := by
  intro args H v H' hv
  unfold c87 at hv
  split at hv
  · exact evBody_sound hT (h _ _ _ _ _ _ hv)
  · cases hv
noncomputable def T7 : Tab := (((T6).addLoop 89 3 l89_3).addLoop 102 3 l102_3).addCall 87 c87
theorem nf89 (l : List Int) : evBody T7 89 [lI l] [] = (bif sm l && decide ((↑l.length : Int) = (↑l.length : Int)) && Lan.in16 l then some (.sc (.int .u16 (↑(Lan.ofN l) : Int)), []) else none) := by kernel_rfl
theorem nf102 (sh : List Int) (a b n s : Int) : evBody T7 102 [aP a b sh, vi n, vS s] [] = (bif Lan.side a b && decide (IntKind.i64.wrap (n + 1) = n + 1) && decide (IntKind.i64.wrap (n + b) = n + b) && decide (0 ≤ n) && decide (n < 16) && decide (0 ≤ s) && decide (s < 65536) then some (.os 0 0 0 (Lan.stP a b n s.toNat).length true false true, [some { c := [.run (.int .i64) (bif n + b == n + 1 && (n + b).tmod b == 0 && decide (1 < b) || b == 1 && decide (0 < (Lan.rdP a b n s.toNat (n + 1) []).length) || Lan.wrongB a b (n + b) || s.toNat.testBit (n + b).toNat then bif n + 1 == n + 1 && (n + 1).tmod b == 0 && decide (1 < b) || b == 1 && decide (0 < 0) || Lan.wrongB a b (n + 1) || s.toNat.testBit (n + 1).toNat then [] else [n + 1] else Lan.rdP a b n s.toNat (n + 1) [] ++ [n + b])], vr := false, ty := Lane.tyI (Lan.stP a b n s.toNat), fz := false, loose := false : Row }]) else none) := by kernel_rfl
def c89t (l : List Int) : Tree (AV × Hp) := .br (sm l && Lan.in16 l) (.leaf (vS (Lan.ofN l), [])) .fail
def c89 (args : List AV) (H : Hp) : Tree (AV × Hp) := match args, H with
  | [(.sl (.int .i64) l false)], [] => c89t l
  | _, _ => .fail
theorem c89_ok {T : Tab} (hT : TabOK T) (h : ∀ (l : List Int) (r : AV × Hp), (c89t l).val = some r → evBody T 89 [lI l] [] = some r) : ∀ args H v H', (c89 args H).val = some (v, H') → CallOK T 89 args H v H' := by
  intro args H v H' hv
  unfold c89 at hv
  split at hv
  · exact evBody_sound hT (h _ _ hv)
  · cases hv
def c102t (sh : List Int) (a b n s : Int) : Tree (AV × Hp) := .br (Lan.side a b && decide (0 ≤ n) && decide (n < 16) && decide (0 ≤ s) && decide (s < 65536)) (.leaf (osW 0 (Lan.stP a b n s.toNat).length, [some (rI (Lan.stP a b n s.toNat))])) .fail
def c102 (args : List AV) (H : Hp) : Tree (AV × Hp) := match args, H with
  | [(.agg [.sc (.int .i64 a), .sc (.int .i64 b), .sl (.int .i64) sh false] false), (.sc (.int .i64 n)), (.sc (.int .u16 s))], [] => c102t sh a b n s
  | _, _ => .fail
theorem c102_ok {T : Tab} (hT : TabOK T) (h : ∀ (sh : List Int) (a b n s : Int) (r : AV × Hp), (c102t sh a b n s).val = some r → evBody T 102 [aP a b sh, vi n, vS s] [] = some r) : ∀ args H v H', (c102 args H).val = some (v, H') → CallOK T 102 args H v H' := by
  intro args H v H' hv
  unfold c102 at hv
  split at hv
  · exact evBody_sound hT (h _ _ _ _ _ _ hv)
  · cases hv
noncomputable def T8 : Tab := ((T7).addCall 89 c89).addCall 102 c102
theorem nl69_10 (again : Ag) (sh o l : List Int) (ty tl : TypeId) (a b to s n q i : Int) : lpStep T8 69 10 0 (lpc T8 69 10) again [vi to, ps 0, vS s, osT 1 o.length, vi n, osW 2 l.length, vi q, vi i] [some (rP a b sh 24), some (rowI o ty), some (rowI l tl)] = (bif decide (i < q) then bif decide (0 ≤ i) then bif decide (i < (↑l.length : Int)) then oM l[i.toNat]? fun x => bif decide (0 ≤ n) then bif decide (n < (↑o.length : Int)) then oM o[n.toNat]? fun x_1 => bif decide (0 ≤ x) then bif decide (x < (↑o.length : Int)) then oM o[Int.toNat x]? fun x => bif decide (0 ≤ n) then bif decide (n < (↑o.length : Int)) then oM o[n.toNat]? fun x_2 => again [vi to, .ps 0 0 0 0, .sc (.int .u16 s), .os 1 0 0 o.length true true true, vi n, osW 2 l.length, vi q, vi (IntKind.i64.wrap (i + 1))] [some ⟨[vi a, vi b, .sl (.int .i64) sh false], true, 24, false, false, none⟩, some ⟨[.run (.int .i64) (o.set n.toNat (IntKind.i64.wrap (x_1 + x)))], false, ty, false, false, none⟩, some ⟨[.run (.int .i64) l], false, tl, false, false, none⟩] else none else none else none else none else none else none else none else none else some (.ext 2, [vi to, .ps 0 0 0 0, .sc (.int .u16 s), .os 1 0 0 o.length true true true, vi n, osW 2 l.length, vi q, vi i], [some ⟨[vi a, vi b, .sl (.int .i64) sh false], true, 24, false, false, none⟩, some ⟨[.run (.int .i64) o], false, ty, false, false, none⟩, some ⟨[.run (.int .i64) l], false, tl, false, false, none⟩])) := by kernel_rfl
end Go.Ev.Lane
namespace Go.Ev.Lane
open Go Go.Ev
set_option maxRecDepth 1000000
set_option maxHeartbeats 0
set_option linter.unusedVariables false
abbrev lL (l : List (List Int)) : AV := .sl (.ilist .i64) l false
abbrev rowL (l : List (List Int)) (t : TypeId) : Row := ⟨[.run (.ilist .i64) l], false, t, false, false, none⟩
def tyL (l : List (List Int)) : TypeId := match l with
  | [] => 0
  | _ :: _ => 22
abbrev rL (l : List (List Int)) : Row := rowL l (tyL l)
def _root_.Lan.addW (n : Nat) (l o : List Int) : List Int := l.foldl (fun o m => o.set n (o.getD n 0 + o.getD m.toNat 0)) o
def _root_.Lan.bnd (K : Int) (o : List Int) : Bool := o.all fun x => decide (0 ≤ x) && decide (x ≤ K)
def _root_.Lan.inL (k : Nat) (l : List Int) : Bool := l.all fun x => decide (0 ≤ x) && decide (x < (k : Int))
def l69_10t (sh o l : List Int) (ty tl : TypeId) (a b to s n q : Int) (k1 k2 : Nat) : Tree (Out × List AV × Hp) := .br (decide (k1 = o.length) && decide (k2 = l.length) && decide (q = (l.length : Int)) && decide (l.length ≤ 2) && Lan.inL o.length l && decide (0 ≤ n) && decide (n < (o.length : Int)) && Lan.bnd 1099511627776 o) (.leaf (.ext 2, [vi to, ps 0, vS s, osT 1 k1, vi n, osW 2 k2, vi q, vi q], [some (rP a b sh 24), some (rowI (Lan.addW n.toNat l o) ty), some (rowI l tl)])) .fail
def l69_10 (base : Nat) (kv : List AV) (H : Hp) : Tree (Out × List AV × Hp) := match Nat.beq base 0, kv, H with
  | true, [(.sc (.int .i64 to)), (.ps 0 0 0 0), (.sc (.int .u16 s)), (.os 1 0 0 k1 true true true), (.sc (.int .i64 n)), (.os 2 0 0 k2 true false true), (.sc (.int .i64 q)), (.sc (.int .i64 0))], [some ⟨[.sc (.int .i64 a), .sc (.int .i64 b), .sl (.int .i64) sh false], true, 24, false, false, none⟩, some ⟨[.run (.int .i64) o], false, ty, false, false, none⟩, some ⟨[.run (.int .i64) l], false, tl, false, false, none⟩] => l69_10t sh o l ty tl a b to s n q k1 k2
  | _, _, _ => .fail
theorem l69_10_ok {T : Tab} (hT : TabOK T) (hlo : loopOf T.fn 69 10 = some (lpc T 69 10)) (h : ∀ (sh o l : List Int) (ty tl : TypeId) (a b to s n q : Int) (k1 k2 : Nat) (r : Out × List AV × Hp), (l69_10t sh o l ty tl a b to s n q k1 k2).val = some r → ∃ mm, lpRun T 69 10 0 (lpc T 69 10) mm [vi to, ps 0, vS s, osT 1 k1, vi n, osW 2 k2, vi q, vi 0] [some (rP a b sh 24), some (rowI o ty), some (rowI l tl)] = some r) : ∀ base kv H o kv' H', (l69_10 base kv H).val = some (o, kv', H') → LoopOK T 69 10 base kv H o kv' H' := by
  intro base kv H o kv' H' hv
  unfold l69_10 at hv
  split at hv
  · rename_i hb
    obtain rfl := Nat.eq_of_beq_eq_true hb
    exact loop_ok hT hlo (h _ _ _ _ _ _ _ _ _ _ _ _ _ _ hv)
  · cases hv
noncomputable def T9 : Tab := (T8).addLoop 69 10 l69_10
theorem nl69_4 (again : Ag) (sh o : List Int) (ty : TypeId) (a b to s n : Int) : lpStep T9 69 4 0 (lpc T9 69 4) again [vi to, ps 0, vS s, osT 1 o.length, vi n] [some (rP a b sh 24), some (rowI o ty)] = (bif decide (n ≥ 0) then bif decide (0 ≤ n) then bif IntKind.u16.wrap (↑(BitVec.ofInt 16 (s.fdiv (2 ^ Min.min n.toNat 16)) &&& BitVec.ofInt 16 1).toNat : Int) == 1 then again [vi to, .ps 0 0 0 0, .sc (.int .u16 s), .os 1 0 0 o.length true true true, vi (IntKind.i64.wrap (n - 1))] [some ⟨[vi a, vi b, .sl (.int .i64) sh false], true, 24, false, false, none⟩, some ⟨[.run (.int .i64) o], false, ty, false, false, none⟩] else bif n == to then bif decide (0 ≤ n) then bif decide (n < (↑o.length : Int)) then oM o[n.toNat]? fun x => again [vi to, .ps 0 0 0 0, .sc (.int .u16 s), .os 1 0 0 o.length true true true, vi (IntKind.i64.wrap (n - 1))] [some ⟨[vi a, vi b, .sl (.int .i64) sh false], true, 24, false, false, none⟩, some ⟨[.run (.int .i64) (o.set n.toNat 1)], false, ty, false, false, none⟩] else none else none else bif Lan.side a b && decide (0 ≤ n) && decide (n < 16) && decide (0 ≤ s) && decide (s < 65536) then bif decide (o.length = o.length) && decide ((Lan.stP a b n s.toNat).length = (Lan.stP a b n s.toNat).length) && decide ((↑(Lan.stP a b n s.toNat).length : Int) = (↑(Lan.stP a b n s.toNat).length : Int)) && decide ((Lan.stP a b n s.toNat).length ≤ 2) && Lan.inL o.length (Lan.stP a b n s.toNat) && decide (0 ≤ n) && decide (n < (↑o.length : Int)) && Lan.bnd 1099511627776 o then again [vi to, .ps 0 0 0 0, .sc (.int .u16 s), .os 1 0 0 o.length true true true, vi (IntKind.i64.wrap (n - 1))] [some ⟨[vi a, vi b, .sl (.int .i64) sh false], true, 24, false, false, none⟩, some ⟨[.run (.int .i64) (Lan.addW n.toNat (Lan.stP a b n s.toNat) o)], false, ty, false, false, none⟩] else none else none else none else some (.ext 0, [vi to, .ps 0 0 0 0, .sc (.int .u16 s), .os 1 0 0 o.length true true true, vi n], [some ⟨[vi a, vi b, .sl (.int .i64) sh false], true, 24, false, false, none⟩, some ⟨[.run (.int .i64) o], false, ty, false, false, none⟩])) := by kernel_rfl
def _root_.Lan.cntN (a b to : Int) (s : Nat) (o : List Int) (n : Nat) : List Int := bif s.testBit n then o else bif decide ((n : Int) = to) then o.set n 1 else Lan.addW n (Lan.stP a b n s) o
def _root_.Lan.cntL (a b to : Int) (s : Nat) : List Int := (List.range (to.toNat + 1)).foldl (fun o k => Lan.cntN a b to s o (to.toNat - k)) (List.replicate (a * b).toNat 0)
def l69_4t (sh o : List Int) (a b to t2 s : Int) (k : Nat) : Tree (Out × List AV × Hp) := .br (decide (t2 = to) && decide (k = o.length) && decide (o = List.replicate (a * b).toNat 0) && Lan.side a b && decide (0 ≤ to) && decide (to < a * b) && decide (0 ≤ s) && decide (s < 65536)) (.leaf (.ext 0, [vi to, ps 0, vS s, osT 1 k, vi (-1)], [some (rP a b sh 24), some (rowI (Lan.cntL a b to s.toNat) 3)])) .fail
def l69_4 (base : Nat) (kv : List AV) (H : Hp) : Tree (Out × List AV × Hp) := match Nat.beq base 0, kv, H with
  | true, [(.sc (.int .i64 to)), (.ps 0 0 0 0), (.sc (.int .u16 s)), (.os 1 0 0 k true true true), (.sc (.int .i64 t2))], [some ⟨[.sc (.int .i64 a), .sc (.int .i64 b), .sl (.int .i64) sh false], true, 24, false, false, none⟩, some ⟨[.run (.int .i64) o], false, 3, false, false, none⟩] => l69_4t sh o a b to t2 s k
  | _, _, _ => .fail
theorem l69_4_ok {T : Tab} (hT : TabOK T) (hlo : loopOf T.fn 69 4 = some (lpc T 69 4)) (h : ∀ (sh o : List Int) (a b to t2 s : Int) (k : Nat) (r : Out × List AV × Hp), (l69_4t sh o a b to t2 s k).val = some r → ∃ mm, lpRun T 69 4 0 (lpc T 69 4) mm [vi to, ps 0, vS s, osT 1 k, vi t2] [some (rP a b sh 24), some (rowI o 3)] = some r) : ∀ base kv H o kv' H', (l69_4 base kv H).val = some (o, kv', H') → LoopOK T 69 4 base kv H o kv' H' := by
  intro base kv H o kv' H' hv
  unfold l69_4 at hv
  split at hv
  · rename_i hb
    obtain rfl := Nat.eq_of_beq_eq_true hb
    exact loop_ok hT hlo (h _ _ _ _ _ _ _ _ _ hv)
  · cases hv
noncomputable def T10 : Tab := (T9).addLoop 69 4 l69_4
theorem nf69 (sh : List Int) (a b to : Int) : evBody T10 69 [aP a b sh, vi to] [] = (bif sm sh && Lan.in16 sh then bif decide (0 ≤ IntKind.i64.wrap (a * b)) then bif decide (IntKind.i64.wrap (a * b) = IntKind.i64.wrap (a * b)) then bif room (IntKind.i64.wrap (a * b)).toNat 8 then bif decide (to = to) && decide ((IntKind.i64.wrap (a * b)).toNat = (List.replicate (IntKind.i64.wrap (a * b)).toNat (0 : Int)).length) && decide (List.replicate (IntKind.i64.wrap (a * b)).toNat (0 : Int) = List.replicate (a * b).toNat (0 : Int)) && Lan.side a b && decide (0 ≤ to) && decide (to < a * b) && decide (0 ≤ (↑(Lan.ofN sh) : Int)) && decide ((↑(Lan.ofN sh) : Int) < 65536) then some (.os 0 0 0 (IntKind.i64.wrap (a * b)).toNat true true true, [some ⟨[.run (.int .i64) (Lan.cntL a b to (↑(Lan.ofN sh) : Int).toNat)], false, 3, false, false, none⟩]) else none else none else none else none else none) := by kernel_rfl
def c69t (sh : List Int) (a b to : Int) : Tree (AV × Hp) := .br (Lan.side a b && decide (0 ≤ to) && decide (to < a * b) && sm sh && Lan.in16 sh) (.leaf (osT 0 (a * b).toNat, [some (rowI (Lan.cntL a b to (Lan.ofN sh)) 3)])) .fail
def c69 (args : List AV) (H : Hp) : Tree (AV × Hp) := match args, H with
  | [(.agg [.sc (.int .i64 a), .sc (.int .i64 b), .sl (.int .i64) sh false] false), (.sc (.int .i64 to))], [] => c69t sh a b to
  | _, _ => .fail
theorem c69_ok {T : Tab} (hT : TabOK T) (h : ∀ (sh : List Int) (a b to : Int) (r : AV × Hp), (c69t sh a b to).val = some r → evBody T 69 [aP a b sh, vi to] [] = some r) : ∀ args H v H', (c69 args H).val = some (v, H') → CallOK T 69 args H v H' := by
  intro args H v H' hv
  unfold c69 at hv
  split at hv
  · exact evBody_sound hT (h _ _ _ _ _ hv)
  · cases hv
noncomputable def T11 : Tab := (T10).addCall 69 c69
end Go.Ev.Lane
namespace Lan
open Go
theorem ofN_lt : ∀ (l : List Int) (s : Nat), in16 l = true → s < 65536 → l.foldl (fun s x => s ||| 2 ^ x.toNat) s < 65536
  | [], s, _, h => h
  | x :: l, s, hl, h => by
    unfold in16 at hl
    rw [List.all_cons, Bool.and_eq_true] at hl
    have hx := hl.1
    simp only [Bool.and_eq_true, decide_eq_true_eq] at hx
    rw [List.foldl_cons]
    have : 2 ^ x.toNat < 2 ^ 16 := Nat.pow_lt_pow_right (by decide) (by omega)
    exact ofN_lt l _ hl.2 (Nat.or_lt_two_pow (n := 16) h this)
theorem wrap16 {x : Int} (h1 : 0 ≤ x) (h2 : x < 65536) : IntKind.u16.wrap x = x := by
  simp only [IntKind.wrap, IntKind.signed, IntKind.bits]
  simp
  omega
theorem shl16 {x : Int} (h0 : 0 ≤ x) (h1 : x < 16) : IntKind.u16.wrap (1 * 2 ^ min x.toNat 16) = ((2 ^ x.toNat : Nat) : Int) := by
  have : 2 ^ x.toNat < 2 ^ 16 := Nat.pow_lt_pow_right (by decide) (by omega)
  rw [Nat.min_eq_left (by omega), Int.one_mul, show ((2 : Int) ^ x.toNat) = ((2 ^ x.toNat : Nat) : Int) by simp]
  generalize 2 ^ x.toNat = c at *
  exact wrap16 (by omega) (by omega)
theorem or16 {s c : Nat} (hs : s < 65536) (hc : c < 65536) : IntKind.u16.wrap ((BitVec.ofInt 16 (s : Int) ||| BitVec.ofInt 16 (c : Int)).toNat : Int) = ((s ||| c : Nat) : Int) := by
  have h : s ||| c < 2 ^ 16 := Nat.or_lt_two_pow hs hc
  rw [show (BitVec.ofInt 16 (s : Int) ||| BitVec.ofInt 16 (c : Int)).toNat = s ||| c by
    rw [BitVec.toNat_or, BitVec.ofInt_natCast, BitVec.ofInt_natCast, BitVec.toNat_ofNat, BitVec.toNat_ofNat, Nat.mod_eq_of_lt hs, Nat.mod_eq_of_lt hc]]
  exact wrap16 (by omega) (by omega)
theorem and16 {s c : Nat} (hs : s < 65536) (hc : c < 65536) : IntKind.u16.wrap ((BitVec.ofInt 16 (s : Int) &&& BitVec.ofInt 16 (c : Int)).toNat : Int) = ((s &&& c : Nat) : Int) := by
  have h : s &&& c < 2 ^ 16 := Nat.and_lt_two_pow s hc
  rw [show (BitVec.ofInt 16 (s : Int) &&& BitVec.ofInt 16 (c : Int)).toNat = s &&& c by
    rw [BitVec.toNat_and, BitVec.ofInt_natCast, BitVec.ofInt_natCast, BitVec.toNat_ofNat, BitVec.toNat_ofNat, Nat.mod_eq_of_lt hs, Nat.mod_eq_of_lt hc]]
  exact wrap16 (by omega) (by omega)
theorem bit16 {s i : Nat} (hs : s < 65536) (hi : i < 16) : (IntKind.u16.wrap ((BitVec.ofInt 16 ((s : Int).fdiv (2 ^ min i 16)) &&& BitVec.ofInt 16 1).toNat : Int) == 1) = s.testBit i := by
  rw [Nat.min_eq_left (Nat.le_of_lt hi)]
  have e : Int.fdiv (s : Int) (2 ^ i) = ((s / 2 ^ i : Nat) : Int) := by
    rw [Int.fdiv_eq_ediv_of_nonneg _ (by exact Int.le_of_lt (Int.pow_pos (by decide)))]
    simp
  have h1 : s / 2 ^ i < 65536 := Nat.lt_of_le_of_lt (Nat.div_le_self _ _) hs
  rw [e, show (1 : Int) = ((1 : Nat) : Int) from rfl, and16 h1 (by decide), Nat.and_one_is_mod, Nat.testBit_eq_decide_div_mod_eq]
  rcases Nat.mod_two_eq_zero_or_one (s / 2 ^ i) with h | h <;> rw [h] <;> rfl
end Lan
namespace Go.Ev.Lane
open Go Go.Ev
set_option maxRecDepth 1000000
set_option linter.unusedVariables false
set_option linter.unusedSimpArgs false
theorem l89_3_run : ∀ base kv H o kv' H', (l89_3 base kv H).val = some (o, kv', H') → LoopOK T6 89 3 base kv H o kv' H' := l89_3_ok T6_ok (by kernel_rfl) (by
  intro l q r hv
  obtain ⟨hl, hv2⟩ := guard_val hv
  simp only [Bool.and_eq_true, decide_eq_true_eq] at hl
  obtain ⟨⟨hsm, rfl⟩, h16⟩ := hl
  have hsm := sm_le hsm
  have h16' := h16
  unfold Lan.in16 at h16'
  rw [List.all_eq_true] at h16'
  obtain ⟨mm, hm⟩ := fold_of (T := T6) (fid := 89) (lid := 3) (base := 0) (c := lpc T6 89 3) l (fun i s => s < 65536) (fun (s : Nat) x => s ||| 2 ^ x.toNat)
    (fun i s => [vS s, lI l, vi l.length, vi i]) (fun s => []) (fun s => (.ext 0, [vS s, lI l, vi l.length, vi l.length], []))
    (fun i x s hx hlt hI again => by
      have hb := h16' x (List.mem_of_getElem? hx)
      simp only [Bool.and_eq_true, decide_eq_true_eq] at hb
      have hp : 2 ^ x.toNat < 65536 := Nat.pow_lt_pow_right (by decide) (show x.toNat < 16 by omega)
      rw [nl89]
      simp only [dec_lt hlt, dec_ge, cond_true, toNat_cast, hx, oM, decide_eq_true hb.1]
      rw [Lan.shl16 hb.1 hb.2, Lan.or16 hI hp, wrap_succ (by omega)])
    (fun i x s hx hlt hI => by
      have hb := h16' x (List.mem_of_getElem? hx)
      simp only [Bool.and_eq_true, decide_eq_true_eq] at hb
      exact Nat.or_lt_two_pow (n := 16) hI (Nat.pow_lt_pow_right (by decide) (show x.toNat < 16 by omega)))
    (fun s hI again => by
      rw [nl89]
      simp only [dec_ll, cond_false]) 0 (by decide)
  refine ⟨mm, hm.trans ?_⟩
  rw [leaf_val hv2]
  rfl)
theorem rd_round {a b n : Int} {s : Nat} {m : Int} {out : List Int} (hs : Lan.side a b = true) (hn : 0 ≤ n ∧ n < 16) (hsl : s < 65536) (hm : 0 ≤ m) {α : Type} (X Y : Option α) :
    (bif m == IntKind.i64.wrap (n + 1) then bif !decide (b = 0) then bif m.tmod b == 0 then bif decide (b > 1) then X else bif b == 1 then bif decide ((out.length : Int) > 0) then X else
      bif Lan.side a b then bif Lan.wrongB a b m then X else bif decide (0 ≤ m) then bif IntKind.u16.wrap ((BitVec.ofInt 16 ((s : Int).fdiv (2 ^ min m.toNat 16)) &&& BitVec.ofInt 16 1).toNat : Int) == 1 then X else Y else none else none
      else bif Lan.side a b then bif Lan.wrongB a b m then X else bif decide (0 ≤ m) then bif IntKind.u16.wrap ((BitVec.ofInt 16 ((s : Int).fdiv (2 ^ min m.toNat 16)) &&& BitVec.ofInt 16 1).toNat : Int) == 1 then X else Y else none else none
      else bif b == 1 then bif decide ((out.length : Int) > 0) then X else
      bif Lan.side a b then bif Lan.wrongB a b m then X else bif decide (0 ≤ m) then bif IntKind.u16.wrap ((BitVec.ofInt 16 ((s : Int).fdiv (2 ^ min m.toNat 16)) &&& BitVec.ofInt 16 1).toNat : Int) == 1 then X else Y else none else none
      else bif Lan.side a b then bif Lan.wrongB a b m then X else bif decide (0 ≤ m) then bif IntKind.u16.wrap ((BitVec.ofInt 16 ((s : Int).fdiv (2 ^ min m.toNat 16)) &&& BitVec.ofInt 16 1).toNat : Int) == 1 then X else Y else none else none
      else none
      else bif b == 1 then bif decide ((out.length : Int) > 0) then X else
      bif Lan.side a b then bif Lan.wrongB a b m then X else bif decide (0 ≤ m) then bif IntKind.u16.wrap ((BitVec.ofInt 16 ((s : Int).fdiv (2 ^ min m.toNat 16)) &&& BitVec.ofInt 16 1).toNat : Int) == 1 then X else Y else none else none
      else bif Lan.side a b then bif Lan.wrongB a b m then X else bif decide (0 ≤ m) then bif IntKind.u16.wrap ((BitVec.ofInt 16 ((s : Int).fdiv (2 ^ min m.toNat 16)) &&& BitVec.ofInt 16 1).toNat : Int) == 1 then X else Y else none else none) =
    bif ((m == n + 1) && (m.tmod b == 0) && decide (1 < b)) || ((b == 1) && decide (0 < out.length)) || Lan.wrongB a b m || s.testBit m.toNat then X else Y := by
  obtain ⟨h1, h2, h3, h4⟩ := side_yes hs
  obtain ⟨e1, e2, e3⟩ := Lan.wrong_wrap hs
  rw [wrapi (x := n + 1) (by omega) (by omega), decide_eq_false (show ¬ b = 0 by omega), hs, decide_eq_true hm, show decide ((out.length : Int) > 0) = decide (0 < out.length) by rw [decide_eq_decide]; omega, show decide (b > 1) = decide (1 < b) from rfl]
  cases hw : Lan.wrongB a b m with
  | true =>
    cases m == n + 1 <;> cases m.tmod b == 0 <;> cases decide (1 < b) <;> cases b == 1 <;> cases decide (0 < out.length) <;> rfl
  | false =>
    have hm16 : m.toNat < 16 := by
      unfold Lan.wrongB at hw
      simp only [Bool.or_eq_false_iff, decide_eq_false_iff_not] at hw
      omega
    rw [Lan.bit16 hsl hm16]
    cases m == n + 1 <;> cases m.tmod b == 0 <;> cases decide (1 < b) <;> cases b == 1 <;> cases decide (0 < out.length) <;> cases s.testBit m.toNat <;> rfl
theorem rd_yes {a b n : Int} {s : Nat} {m : Int} {out : List Int} (h : (((m == n + 1) && (m.tmod b == 0) && decide (1 < b)) || ((b == 1) && decide (0 < out.length)) || Lan.wrongB a b m || s.testBit m.toNat) = true) : Lan.rdP a b n s m out = out := by unfold Lan.rdP; rw [h]; rfl
theorem rd_no {a b n : Int} {s : Nat} {m : Int} {out : List Int} (h : (((m == n + 1) && (m.tmod b == 0) && decide (1 < b)) || ((b == 1) && decide (0 < out.length)) || Lan.wrongB a b m || s.testBit m.toNat) = false) : Lan.rdP a b n s m out = out ++ [m] := by unfold Lan.rdP; rw [h]; rfl
theorem rd_len (a b n : Int) (s : Nat) (m : Int) (out : List Int) : (Lan.rdP a b n s m out).length ≤ out.length + 1 := by
  unfold Lan.rdP
  cases (((m == n + 1) && (m.tmod b == 0) && decide (1 < b)) || ((b == 1) && decide (0 < out.length)) || Lan.wrongB a b m || s.testBit m.toNat) <;> simp
theorem l102_3_run : ∀ base kv H o kv' H', (l102_3 base kv H).val = some (o, kv', H') → LoopOK T6 102 3 base kv H o kv' H' := l102_3_ok T6_ok (by kernel_rfl) (by
  intro sh a b n s m1 m2 r hv
  obtain ⟨hl, hv2⟩ := guard_val hv
  simp only [Bool.and_eq_true, decide_eq_true_eq] at hl
  obtain ⟨⟨⟨⟨⟨⟨hs, rfl⟩, rfl⟩, n0⟩, n1⟩, s0⟩, s1⟩ := hl
  obtain ⟨s, rfl⟩ := Int.eq_ofNat_of_zero_le s0
  obtain ⟨h1, h2, h3, h4⟩ := side_yes hs
  have hsl : s < 65536 := by omega
  rw [leaf_val hv2, toNat_cast]
  have st1 : ∀ (again : Ag) (out : List Int), out.length ≤ 2 → lpStep T6 102 3 0 (lpc T6 102 3) again [vi n, vS s, ps 0, osW 1 out.length, .agg [.run (.int .i64) [n + 1, n + b]] false, vi 0] [some (rP a b sh 24), some (rI out)] =
      again [vi n, vS s, ps 0, osW 1 (Lan.rdP a b n s (n + 1) out).length, .agg [.run (.int .i64) [n + 1, n + b]] false, vi 1] [some (rP a b sh 24), some (rI (Lan.rdP a b n s (n + 1) out))] := by
    intro again out ho
    rw [nl102]
    refine (rd_round (out := out) hs ⟨n0, n1⟩ hsl (show 0 ≤ n + 1 by omega) _ _).trans ?_
    cases hc : (((n + 1 == n + 1) && ((n + 1).tmod b == 0) && decide (1 < b)) || ((b == 1) && decide (0 < out.length)) || Lan.wrongB a b (n + 1) || s.testBit (n + 1).toNat) with
    | true => rw [rd_yes hc]; rfl
    | false =>
      rw [rd_no hc, room_ok (n := out.length + 1) (b := 8) (by omega) (by omega)]
      simp only [rI, tyI_snoc, List.length_append, List.length_cons, List.length_nil, Nat.zero_add, cond_true, cond_false]
  have st2 : ∀ (again : Ag) (out : List Int), out.length ≤ 2 → lpStep T6 102 3 0 (lpc T6 102 3) again [vi n, vS s, ps 0, osW 1 out.length, .agg [.run (.int .i64) [n + 1, n + b]] false, vi 1] [some (rP a b sh 24), some (rI out)] =
      again [vi n, vS s, ps 0, osW 1 (Lan.rdP a b n s (n + b) out).length, .agg [.run (.int .i64) [n + 1, n + b]] false, vi 2] [some (rP a b sh 24), some (rI (Lan.rdP a b n s (n + b) out))] := by
    intro again out ho
    rw [nl102b]
    refine (rd_round (out := out) hs ⟨n0, n1⟩ hsl (show 0 ≤ n + b by omega) _ _).trans ?_
    cases hc : (((n + b == n + 1) && ((n + b).tmod b == 0) && decide (1 < b)) || ((b == 1) && decide (0 < out.length)) || Lan.wrongB a b (n + b) || s.testBit (n + b).toNat) with
    | true => rw [rd_yes hc]; rfl
    | false =>
      rw [rd_no hc, room_ok (n := out.length + 1) (b := 8) (by omega) (by omega)]
      simp only [rI, tyI_snoc, List.length_append, List.length_cons, List.length_nil, Nat.zero_add, cond_true, cond_false]
  refine ⟨3, ?_⟩
  refine (st1 _ [] (by simp)).trans ?_
  refine (st2 _ _ (by have := rd_len a b n s (n + 1) []; simp at this; omega)).trans ?_
  show lpStep T6 102 3 0 (lpc T6 102 3) _ _ _ = _
  rw [nl102c]
  rfl)
theorem c87_run : ∀ args H v H', (c87 args H).val = some (v, H') → CallOK T6 87 args H v H' := c87_ok T6_ok (by
  intro sh a b x y r hv
  obtain ⟨hl, hv2⟩ := guard_val hv
  simp only [Bool.and_eq_true, decide_eq_true_eq] at hl
  obtain ⟨⟨hs, x0⟩, x1⟩ := hl
  obtain ⟨h1, h2, h3, h4⟩ := side_yes hs
  rw [nf87, leaf_val hv2, wrapi (x := x + 1) (by omega) (by omega), wrapi (x := x + b) (by omega) (by omega), decide_eq_false (show ¬ b = 0 by omega)]
  unfold Lan.stepR
  rw [show decide (y.tmod b > 0) = decide (0 < y.tmod b) from rfl]
  cases y == x + 1 <;> cases decide (0 < y.tmod b) <;> rfl)
theorem T7_ok : TabOK T7 := by
  have h := T6_ok
  have h := h.addLoop (g := 89) (lid := 3) (r := l89_3) fun b k H o k' H' hv => by refine LoopOK.tab ?_ ?_ ?_ ?_ (l89_3_run b k H o k' H' hv) <;> rfl
  have h := h.addLoop (g := 102) (lid := 3) (r := l102_3) fun b k H o k' H' hv => by refine LoopOK.tab ?_ ?_ ?_ ?_ (l102_3_run b k H o k' H' hv) <;> rfl
  have h := h.addCall (g := 87) (r := c87) fun a H v H' hv => by refine CallOK.tab ?_ ?_ (c87_run a H v H' hv) <;> rfl
  exact h
theorem c89_run : ∀ args H v H', (c89 args H).val = some (v, H') → CallOK T7 89 args H v H' := c89_ok T7_ok (by
  intro l r hv
  obtain ⟨hl, hv2⟩ := guard_val hv
  rw [Bool.and_eq_true] at hl
  rw [nf89, leaf_val hv2]
  simp only [decide_true, hl.1, hl.2, Bool.and_self, cond_true])
theorem c102_run : ∀ args H v H', (c102 args H).val = some (v, H') → CallOK T7 102 args H v H' := c102_ok T7_ok (by
  intro sh a b n s r hv
  obtain ⟨hl, hv2⟩ := guard_val hv
  simp only [Bool.and_eq_true, decide_eq_true_eq] at hl
  obtain ⟨⟨⟨⟨hs, n0⟩, n1⟩, s0⟩, s1⟩ := hl
  obtain ⟨h1, h2, h3, h4⟩ := side_yes hs
  rw [nf102, leaf_val hv2, wrapi (x := n + 1) (by omega) (by omega), wrapi (x := n + b) (by omega) (by omega)]
  refine (cond_t ?_).trans ?_
  · simp only [hs, decide_true, decide_eq_true n0, decide_eq_true n1, decide_eq_true s0, decide_eq_true s1, Bool.and_self]
  · rfl)
theorem T8_ok : TabOK T8 := by
  have h := T7_ok
  have h := h.addCall (g := 89) (r := c89) fun a H v H' hv => by refine CallOK.tab ?_ ?_ (c89_run a H v H' hv) <;> rfl
  have h := h.addCall (g := 102) (r := c102) fun a H v H' hv => by refine CallOK.tab ?_ ?_ (c102_run a H v H' hv) <;> rfl
  exact h
end Go.Ev.Lane
namespace Lan
open Go
theorem get_getD {o : List Int} {n : Nat} (h : n < o.length) : o[n]? = some (o.getD n 0) := by
  rw [List.getD_eq_getElem?_getD, List.getElem?_eq_getElem h]; rfl
theorem bnd_get {K : Int} {o : List Int} (hK : 0 ≤ K) (h : bnd K o = true) (n : Nat) : 0 ≤ o.getD n 0 ∧ o.getD n 0 ≤ K := by
  rcases Nat.lt_or_ge n o.length with hn | hn
  · unfold bnd at h
    rw [List.all_eq_true] at h
    have := h (o.getD n 0) (List.mem_of_getElem? (get_getD hn))
    simpa only [Bool.and_eq_true, decide_eq_true_eq] using this
  · rw [List.getD_eq_getElem?_getD, List.getElem?_eq_none hn]
    exact ⟨Int.le_refl 0, hK⟩
theorem bnd_mono {K L : Int} {o : List Int} (hKL : K ≤ L) (h : bnd K o = true) : bnd L o = true := by
  unfold bnd at *
  rw [List.all_eq_true] at *
  intro x hx
  have := h x hx
  simp only [Bool.and_eq_true, decide_eq_true_eq] at *
  omega
theorem bnd_set {K v : Int} {o : List Int} (h : bnd K o = true) (n : Nat) (h0 : 0 ≤ v) (h1 : v ≤ K) : bnd K (o.set n v) = true := by
  unfold bnd at *
  rw [List.all_eq_true] at *
  intro x hx
  rcases List.mem_or_eq_of_mem_set hx with hm | rfl
  · exact h x hm
  · simp only [Bool.and_eq_true, decide_eq_true_eq]
    exact ⟨h0, h1⟩
theorem bnd_rep (n : Nat) : bnd 1 (List.replicate n 0) = true := by
  unfold bnd
  rw [List.all_eq_true]
  intro x hx
  rw [(List.mem_replicate.1 hx).2]
  rfl
theorem addW_cons (n : Nat) (m : Int) (l o : List Int) : addW n (m :: l) o = addW n l (o.set n (o.getD n 0 + o.getD m.toNat 0)) := rfl
theorem addW_len (n : Nat) : ∀ (l o : List Int), (addW n l o).length = o.length
  | [], o => rfl
  | m :: l, o => by rw [addW_cons, addW_len n l, List.length_set]
theorem bnd_step {K : Int} {o : List Int} (hK : 0 ≤ K) (h : bnd K o = true) (n m : Nat) : bnd (2 * K) (o.set n (o.getD n 0 + o.getD m 0)) = true := by
  have h1 := bnd_get hK h n
  have h2 := bnd_get hK h m
  exact bnd_set (bnd_mono (by omega) h) n (by omega) (by omega)
theorem bnd_addW {K : Int} (n : Nat) : ∀ (l o : List Int), 0 ≤ K → l.length ≤ 2 → bnd K o = true → bnd (4 * K) (addW n l o) = true
  | [], o, hK, _, h => bnd_mono (by omega) h
  | [m], o, hK, _, h => bnd_mono (K := 2 * K) (by omega) (bnd_step hK h n m.toNat)
  | [m, m'], o, hK, _, h => bnd_mono (K := 2 * (2 * K)) (by omega) (bnd_step (K := 2 * K) (by omega) (bnd_step hK h n m.toNat) n m'.toNat)
  | _ :: _ :: _ :: _, _, _, hl, _ => by simp at hl
theorem rd_in {a b n : Int} {s : Nat} {m : Int} {out : List Int} (h : inL (a * b).toNat out = true) : inL (a * b).toNat (rdP a b n s m out) = true := by
  unfold rdP
  cases hc : (((m == n + 1) && (m.tmod b == 0) && decide (1 < b)) || ((b == 1) && decide (0 < out.length)) || wrongB a b m || s.testBit m.toNat) with
  | true => exact h
  | false =>
    simp only [Bool.or_eq_false_iff] at hc
    have hw := hc.1.2
    unfold wrongB at hw
    simp only [Bool.or_eq_false_iff, decide_eq_false_iff_not] at hw
    show inL (a * b).toNat (out ++ [m]) = true
    unfold inL at *
    rw [List.all_append, h, List.all_cons, List.all_nil]
    simp only [Bool.true_and, Bool.and_true, Bool.and_eq_true, decide_eq_true_eq]
    omega
theorem st_in (a b n : Int) (s : Nat) : inL (a * b).toNat (stP a b n s) = true := rd_in (rd_in rfl)
theorem st_len (a b n : Int) (s : Nat) : (stP a b n s).length ≤ 2 := by
  have h1 := Ev.Lane.rd_len a b n s (n + 1) []
  have h2 := Ev.Lane.rd_len a b n s (n + b) (rdP a b n s (n + 1) [])
  simp only [List.length_nil] at h1
  show (rdP a b n s (n + b) _).length ≤ 2
  omega
def cntW (a b to : Int) (s : Nat) (i : Nat) : List Int := (List.range i).foldl (fun o k => cntN a b to s o (to.toNat - k)) (List.replicate (a * b).toNat 0)
theorem cntW_succ (a b to : Int) (s i : Nat) : cntW a b to s (i + 1) = cntN a b to s (cntW a b to s i) (to.toNat - i) := by
  unfold cntW
  rw [List.range_succ, List.foldl_append]
  rfl
theorem cntN_len (a b to : Int) (s : Nat) (o : List Int) (n : Nat) : (cntN a b to s o n).length = o.length := by
  unfold cntN
  cases s.testBit n with
  | true => rfl
  | false =>
    cases decide ((n : Int) = to) with
    | true => exact List.length_set
    | false => exact addW_len _ _ _
theorem cntN_bnd {K : Int} {a b to : Int} {s : Nat} {o : List Int} {n : Nat} (hK : 1 ≤ K) (h : bnd K o = true) : bnd (4 * K) (cntN a b to s o n) = true := by
  unfold cntN
  cases s.testBit n with
  | true => exact bnd_mono (by omega) h
  | false =>
    cases decide ((n : Int) = to) with
    | true => exact bnd_set (bnd_mono (by omega) h) n (by omega) (by omega)
    | false => exact bnd_addW _ _ _ (by omega) (st_len _ _ _ _) h
theorem cntW_len (a b to : Int) (s : Nat) : ∀ i, (cntW a b to s i).length = (a * b).toNat
  | 0 => List.length_replicate
  | i + 1 => by rw [cntW_succ, cntN_len, cntW_len a b to s i]
theorem cntW_bnd (a b to : Int) (s : Nat) : ∀ i : Nat, bnd (4 ^ i) (cntW a b to s i) = true
  | 0 => bnd_rep _
  | i + 1 => by
    have hp : (0 : Int) < 4 ^ i := Int.pow_pos (by decide)
    rw [cntW_succ, Int.pow_succ, Int.mul_comm]
    exact cntN_bnd (by omega) (cntW_bnd a b to s i)
theorem cntW_cap (a b to : Int) (s : Nat) {i : Nat} (hi : i ≤ 16) : bnd 1099511627776 (cntW a b to s i) = true := by
  refine bnd_mono ?_ (cntW_bnd a b to s i)
  have : (4 : Nat) ^ i ≤ 4 ^ 16 := Nat.pow_le_pow_right (by decide) hi
  have e : ((4 : Int) ^ i) = ((4 ^ i : Nat) : Int) := by simp
  rw [e]
  have e2 : (4 : Nat) ^ 16 = 4294967296 := by decide
  omega
end Lan
namespace Go.Ev.Lane
open Go Go.Ev
set_option maxRecDepth 1000000
set_option linter.unusedVariables false
set_option linter.unusedSimpArgs false
theorem l69_10_run : ∀ base kv H o kv' H', (l69_10 base kv H).val = some (o, kv', H') → LoopOK T8 69 10 base kv H o kv' H' := l69_10_ok T8_ok (by kernel_rfl) (by
  intro sh o l ty tl a b to s n q k1 k2 r hv
  obtain ⟨hl, hv2⟩ := guard_val hv
  simp only [Bool.and_eq_true, decide_eq_true_eq] at hl
  obtain ⟨⟨⟨⟨⟨⟨⟨rfl, rfl⟩, rfl⟩, hl2⟩, hin⟩, n0⟩, n1⟩, hb⟩ := hl
  obtain ⟨n, rfl⟩ := Int.eq_ofNat_of_zero_le n0
  have hn : n < o.length := by omega
  unfold Lan.inL at hin
  rw [List.all_eq_true] at hin
  obtain ⟨mm, hm⟩ := fold_of (T := T8) (fid := 69) (lid := 10) (base := 0) (c := lpc T8 69 10) l
    (fun i w => w.length = o.length ∧ ∃ K : Int, 0 ≤ K ∧ K ≤ 1099511627776 * 2 ^ i ∧ Lan.bnd K w = true)
    (fun w m => w.set n (w.getD n 0 + w.getD m.toNat 0))
    (fun i w => [vi to, ps 0, vS s, osT 1 w.length, vi n, osW 2 l.length, vi l.length, vi i]) (fun w => [some (rP a b sh 24), some (rowI w ty), some (rowI l tl)])
    (fun w => (.ext 2, [vi to, ps 0, vS s, osT 1 w.length, vi n, osW 2 l.length, vi l.length, vi l.length], [some (rP a b sh 24), some (rowI w ty), some (rowI l tl)]))
    (fun i x w hx hlt hI again => by
      obtain ⟨hw, K, K0, K1, hK⟩ := hI
      have hx2 := hin x (List.mem_of_getElem? hx)
      simp only [Bool.and_eq_true, decide_eq_true_eq] at hx2
      obtain ⟨x, rfl⟩ := Int.eq_ofNat_of_zero_le hx2.1
      have hxl : x < w.length := by omega
      have hnl : n < w.length := by omega
      have g1 := Lan.bnd_get K0 hK n
      have g2 := Lan.bnd_get K0 hK x
      have hp : (2 : Int) ^ i ≤ 4 := by
        have : i < 2 := by omega
        match i, this with
        | 0, _ => decide
        | 1, _ => decide
      have hK2 : K ≤ 1099511627776 * 4 := Int.le_trans K1 (Int.mul_le_mul_of_nonneg_left hp (by decide))
      rw [nl69_10]
      simp only [dec_lt hlt, dec_ge, dec_lt hnl, dec_lt hxl, cond_true, toNat_cast, hx, Lan.get_getD hnl, Lan.get_getD hxl, oM, List.length_set]
      rw [wrapi (x := w.getD n 0 + w.getD x 0) (by omega) (by omega), wrap_succ (by omega)])
    (fun i x w hx hlt hI => by
      obtain ⟨hw, K, K0, K1, hK⟩ := hI
      refine ⟨by rw [List.length_set, hw], 2 * K, by omega, ?_, Lan.bnd_step K0 hK n _⟩
      rw [Int.pow_succ]
      omega)
    (fun w hI again => by
      rw [nl69_10]
      simp only [dec_ll, cond_false]) o ⟨rfl, 1099511627776, by decide, by decide, hb⟩
  refine ⟨mm, hm.trans ?_⟩
  rw [leaf_val hv2, toNat_cast]
  show some (Out.ext 2, [vi to, ps 0, vS s, osT 1 (Lan.addW n l o).length, _, _, _, _], _) = _
  rw [Lan.addW_len]
  rfl)
theorem T9_ok : TabOK T9 := by
  have h := T8_ok
  have h := h.addLoop (g := 69) (lid := 10) (r := l69_10) fun b k H o k' H' hv => by refine LoopOK.tab ?_ ?_ ?_ ?_ (l69_10_run b k H o k' H' hv) <;> rfl
  exact h
theorem l69_4_run : ∀ base kv H o kv' H', (l69_4 base kv H).val = some (o, kv', H') → LoopOK T9 69 4 base kv H o kv' H' := l69_4_ok T9_ok (by kernel_rfl) (by
  intro sh o a b to t2 s k r hv
  obtain ⟨hl, hv2⟩ := guard_val hv
  simp only [Bool.and_eq_true, decide_eq_true_eq] at hl
  obtain ⟨⟨⟨⟨⟨⟨⟨rfl, rfl⟩, rfl⟩, hs⟩, t0⟩, t1⟩, s0⟩, s1⟩ := hl
  obtain ⟨s, rfl⟩ := Int.eq_ofNat_of_zero_le s0
  obtain ⟨t, rfl⟩ := Int.eq_ofNat_of_zero_le t0
  obtain ⟨e1, e2, e3⟩ := Lan.wrong_wrap hs
  have hsl : s < 65536 := by omega
  obtain ⟨mm, hm⟩ := steps_of (T := T9) (fid := 69) (lid := 4) (base := 0) (c := lpc T9 69 4) (t + 1)
    (fun i => [vi t, ps 0, vS s, osT 1 (Lan.cntW a b t s i).length, vi ((t : Int) - i)]) (fun i => [some (rP a b sh 24), some (rowI (Lan.cntW a b t s i) 3)])
    (.ext 0, [vi t, ps 0, vS s, osT 1 (Lan.cntW a b t s (t + 1)).length, vi (-1)], [some (rP a b sh 24), some (rowI (Lan.cntW a b t s (t + 1)) 3)])
    (fun i hi again => by
      have hlen := Lan.cntW_len a b t s i
      obtain ⟨n, hn⟩ : ∃ n : Nat, n = t - i := ⟨_, rfl⟩
      have en : (t : Int) - i = (n : Int) := by omega
      have en2 : IntKind.i64.wrap ((n : Int) - 1) = (t : Int) - (i + 1 : Nat) := by rw [wrapi (by omega) (by omega)]; omega
      have hnl : n < (Lan.cntW a b t s i).length := by omega
      have hb := Lan.cntW_cap a b t s (i := i) (by omega)
      have hin := Lan.st_in a b n s
      rw [← hlen] at hin
      rw [Lan.cntW_succ, toNat_cast, ← hn, en, nl69_4, en2, show decide ((n : Int) ≥ 0) = true from decide_eq_true (by omega), dec_ge, show (n : Int).toNat = n from toNat_cast n, show (s : Int).toNat = s from toNat_cast s, Lan.bit16 hsl (show n < 16 by omega)]
      unfold Lan.cntN
      cases hbit : s.testBit n with
      | true => rfl
      | false =>
        cases hto : decide ((n : Int) = (t : Int)) with
        | true =>
          have : ((n : Int) == (t : Int)) = true := by rw [beq_iff_eq]; exact of_decide_eq_true hto
          simp only [this, cond_true, cond_false, dec_lt hnl, toNat_cast, Lan.get_getD hnl, oM, List.length_set]
        | false =>
          have : ((n : Int) == (t : Int)) = false := by rw [beq_eq_false_iff_ne]; exact of_decide_eq_false hto
          simp only [this, cond_true, cond_false, hs, toNat_cast, decide_eq_true (show (n : Int) < 16 by omega), decide_eq_true s0, decide_eq_true s1, dec_ge, decide_true, decide_eq_true (Lan.st_len a b n s), hin, hb, dec_lt hnl, Bool.and_self, Lan.addW_len])
    (fun again => by
      rw [show (t : Int) - (t + 1 : Nat) = -1 by omega, nl69_4]
      rfl)
  refine ⟨mm, ?_⟩
  rw [leaf_val hv2]
  have e0 : [vi (t : Int), ps 0, vS (s : Int), osT 1 (List.replicate (a * b).toNat (0 : Int)).length, vi (t : Int)] = [vi t, ps 0, vS s, osT 1 (Lan.cntW a b t s 0).length, vi ((t : Int) - (0 : Nat))] := by
    rw [show (t : Int) - (0 : Nat) = t by omega]; rfl
  refine ((congrArg (fun z => lpRun T9 69 4 0 (lpc T9 69 4) mm z _) e0).trans hm).trans ?_
  rw [Lan.cntW_len, List.length_replicate, toNat_cast]
  unfold Lan.cntL Lan.cntW
  rw [toNat_cast])
theorem T10_ok : TabOK T10 := by
  have h := T9_ok
  have h := h.addLoop (g := 69) (lid := 4) (r := l69_4) fun b k H o k' H' hv => by refine LoopOK.tab ?_ ?_ ?_ ?_ (l69_4_run b k H o k' H' hv) <;> rfl
  exact h
theorem c69_run : ∀ args H v H', (c69 args H).val = some (v, H') → CallOK T10 69 args H v H' := c69_ok T10_ok (by
  intro sh a b to r hv
  obtain ⟨hl, hv2⟩ := guard_val hv
  simp only [Bool.and_eq_true, decide_eq_true_eq] at hl
  obtain ⟨⟨⟨⟨hs, t0⟩, t1⟩, hsm⟩, h16⟩ := hl
  obtain ⟨e1, e2, e3⟩ := Lan.wrong_wrap hs
  have hof : Lan.ofN sh < 65536 := Lan.ofN_lt sh 0 h16 (by decide)
  rw [nf69, leaf_val hv2, e1, room_ok (n := (a * b).toNat) (b := 8) (by omega) (by omega), toNat_cast]
  simp only [hsm, h16, hs, List.length_replicate, decide_true, decide_eq_true (show 0 ≤ a * b by omega), decide_eq_true t0, decide_eq_true t1, decide_eq_true (show (0 : Int) ≤ (Lan.ofN sh : Int) by omega), decide_eq_true (show (Lan.ofN sh : Int) < 65536 by omega), Bool.and_self, cond_true])
theorem T11_ok : TabOK T11 := by
  have h := T10_ok
  have h := h.addCall (g := 69) (r := c69) fun a H v H' hv => by refine CallOK.tab ?_ ?_ (c69_run a H v H' hv) <;> rfl
  exact h
end Go.Ev.Lane
