/- The tables of the claim seat, in the symbolic mode. -/
import Derived.Test.YtfemekpcgieldaaEvE
import Derived.Test.YtfemekpcgieldaaChecked
import Derived.Test.YtfemekpcgieldaaSa
set_option linter.unusedVariables false
set_option linter.unusedSimpArgs false
namespace Go.Ev.Clm
open Go Go.Ev Go.Proofs
set_option maxRecDepth 1000000
set_option linter.unusedVariables false
def assoc {α : Type} (d : α) (k : Nat) : List (Nat × α) → α
  | [] => d
  | p :: l => match Nat.beq p.1 k with
    | true => p.2
    | false => assoc d k l
def keepB : List (Nat × List (Nat × List Nat)) := [
  (7, [(5, [4, 5, 6, 7, 8, 25, 26]), (8, [4, 5, 6, 7, 8, 9, 25, 26, 29, 30])]),
  (8, [(12, [2, 6, 8, 10, 12, 14, 16, 129, 130, 131])]),
  (9, [(6, [3, 4, 5, 6, 7, 36, 37]), (9, [3, 4, 5, 6, 7, 10, 36, 37, 40, 41, 42]), (12, [3, 4, 5, 6, 7, 10, 11, 12, 36, 37, 40, 41, 42, 47, 48, 49]), (22, [3, 5, 7, 15, 16, 94, 95]), (33, [4, 7, 16, 19, 146]), (36, [4, 7, 16, 19, 20, 146, 149, 150, 151])]),
  (11, [(4, [3, 4, 5, 23, 24, 25]), (15, [2, 12, 14, 96, 97, 98])]),
  (13, [(13, [2, 6, 7, 10, 43, 44])]),
  (14, [(5, [3, 5, 6, 7, 8, 9, 33, 34]), (10, [3, 5, 6, 7, 8, 9, 42, 43]), (26, [4, 6, 13, 15, 17, 19, 125, 126]), (29, [4, 6, 13, 15, 17, 19, 21, 125, 126, 129]), (43, [4, 23, 175, 176, 177])]),
  (15, [(10, [4, 7, 8, 10, 12, 13, 14, 64, 65, 66])]),
  (23, [(4, [0, 1, 4, 5])]),
  (24, [(7, [0, 4, 5, 16, 17, 18])]),
  (25, [(6, [0, 1, 4, 5])]),
  (28, [(9, [1, 6, 7, 9, 10, 32, 33, 34])]),
  (29, [(5, [0, 1, 2, 8, 9])]),
  (30, [(8, [0, 1, 7, 8, 28, 29]), (14, [0, 1, 7, 8, 10, 45, 46]), (18, [0, 1, 7, 8, 10, 11, 12, 13, 45, 46, 50, 51, 52]), (25, [0, 1, 7, 8, 10, 11, 12, 13, 45, 46, 68, 69, 70]), (32, [7, 8, 10, 104, 105])]),
  (31, [(7, [0, 1, 7, 8, 9]), (11, [0, 1, 7, 8, 9, 10, 11]), (15, [7, 8, 12])]),
  (33, [(5, [1, 2, 6, 7, 8, 10]), (8, [1, 2, 6, 7, 8, 10, 11])]),
  (34, [(8, [1, 6, 8, 26, 27, 28])]),
  (35, [(5, [0, 1, 2, 7, 8])]),
  (38, [(3, [1, 2, 6, 15, 16, 17])]),
  (39, [(4, [0, 1, 2, 6, 14, 15, 16])]),
  (40, [(2, [0, 1, 4, 5, 6, 10, 11]), (5, [0, 1, 4, 5, 6, 7, 8, 10, 11])]),
  (41, [(4, [5, 7, 8, 9, 20, 21, 22])]),
  (44, [(3, [3, 6, 7, 8])]),
  (48, [(2, [0, 2, 20, 21]), (11, [0, 4, 5, 6, 7, 10, 11, 45, 46, 47])]),
  (51, [(3, [1, 4, 7, 8, 9])]),
  (52, [(5, [0, 3, 4])]),
  (53, [(5, [0, 3, 4])]),
  (54, [(2, [1, 4, 5, 8, 9, 10])]),
  (55, [(5, [0, 2, 4, 6, 7, 8, 16, 17]), (10, [4, 6, 7, 10, 30, 31])]),
  (56, [(3, [3, 4, 7, 12, 13])]),
  (57, [(3, [0, 1, 5, 6])]),
  (58, [(3, [0, 3, 4])]),
  (59, [(2, [0, 1, 5]), (6, [1, 5, 6, 7])]),
  (60, [(3, [0, 1, 5, 6])]),
  (65, [(8, [7, 8])]),
  (66, [(2, [0, 1, 4, 5])]),
  (67, [(4, [1, 2, 7, 8, 9])]),
  (68, [(5, [0, 1, 5, 6])]),
  (72, [(2, [0, 1, 4, 7, 8])]),
  (74, [(3, [0, 1, 5, 6])]),
  (76, [(1, [0, 1, 5, 6]), (4, [0, 1, 3, 4, 5, 6])]),
  (77, [(2, [0, 1, 2, 3, 8, 9])]),
  (81, [(1, [0, 1, 2, 6]), (4, [0, 1, 2, 6, 7])]),
  (82, [(4, [0, 6, 7, 8, 9]), (8, [0, 6, 7, 10])]),
  (83, [(5, [0, 1, 6, 7, 8, 9])]),
  (85, [(2, [0, 6, 7])]),
  (86, [(3, [0, 1, 2, 6, 7, 8]), (5, [0, 1, 2, 7, 8]), (14, [0, 1, 2, 7, 8, 9]), (20, [0, 1, 2, 7, 8, 10])]),
  (88, [(3, [0, 1, 9, 10]), (5, [0, 1, 9, 10])]),
  (89, [(3, [0, 1, 10, 11]), (5, [0, 1, 10, 11]), (13, [0, 1, 10, 11]), (15, [0, 1, 10, 11])]),
  (92, [(1, [0, 2, 3, 8])])]
def refC (f : FuncId) : List Nat := match f with
  | 73 => [0]
  | 77 => [0]
  | 81 => [0]
  | _ => []
noncomputable def T0 : Tab := { P := Try.prog, il := true, fn := fnsOf Try.prog, glob := fun _ => none, refm := refC, keep := fun f l => assoc [] l (assoc [] f keepB), gc := fun _ _ => none, callR := fun _ _ _ => .fail, loopT := fun _ _ _ _ _ => .fail }
end Go.Ev.Clm
namespace Go.Ev.Clm
open Go Go.Ev
set_option maxRecDepth 1000000
set_option linter.unusedVariables false
abbrev Ag := List AV → Hp → Option (Out × List AV × Hp)
abbrev lI (l : List Int) : AV := .sl (.int .i64) l false
abbrev ps (r : Nat) : AV := .ps r 0 0 0
abbrev rP (l : List Int) : Row := ⟨[.run (.int .i64) l], true, 66, false, false, none⟩
abbrev aP (l : List Int) : AV := .agg [.run (.int .i64) l] false
def tyI (l : List Int) : TypeId := match l with
  | [] => 0
  | _ => 3
abbrev rI (l : List Int) : Row := rowI l (tyI l)
def c61t (n lo hi : Int) : Tree (AV × Hp) := .leaf (vb (Clm.inR n lo hi), [])
def c61 (args : List AV) (H : Hp) : Tree (AV × Hp) := match args, H with
  | [(.sc (.int .i64 n)), (.sc (.int .i64 lo)), (.sc (.int .i64 hi))], [] => c61t n lo hi
  | _, _ => .fail
theorem c61_ok {T : Tab} (hT : TabOK T) (h : ∀ (n lo hi : Int) (r : AV × Hp), (c61t n lo hi).val = some r → evBody T 61 [vi n, vi lo, vi hi] [] = some r) : ∀ args H v H', (c61 args H).val = some (v, H') → CallOK T 61 args H v H' := by
  intro args H v H' hv
  unfold c61 at hv
  split at hv
  · exact evBody_sound hT (h _ _ _ _ hv)
  · cases hv
def c62t (n lo hi : Int) : Tree (AV × Hp) := .leaf (vb (Clm.inR n lo hi), [])
def c62 (args : List AV) (H : Hp) : Tree (AV × Hp) := match args, H with
  | [(.sc (.int .i64 n)), (.sc (.int .i64 lo)), (.sc (.int .i64 hi))], [] => c62t n lo hi
  | _, _ => .fail
theorem c62_ok {T : Tab} (hT : TabOK T) (h : ∀ (n lo hi : Int) (r : AV × Hp), (c62t n lo hi).val = some r → evBody T 62 [vi n, vi lo, vi hi] [] = some r) : ∀ args H v H', (c62 args H).val = some (v, H') → CallOK T 62 args H v H' := by
  intro args H v H' hv
  unfold c62 at hv
  split at hv
  · exact evBody_sound hT (h _ _ _ _ hv)
  · cases hv
def l58_3t (l : List Int) : Tree (Out × List AV × Hp) := .br (sm l && Clm.sb l) (.leaf (.ext 0, [lI l, vi (Clm.sumI l), vi l.length], [])) .fail
def l58_3 (base : Nat) (kv : List AV) (H : Hp) : Tree (Out × List AV × Hp) := match Nat.beq base 0, kv, H with
  | true, [(.sl (.int .i64) l false), (.sc (.int .i64 0)), (.sc (.int .i64 0))], [] => l58_3t l
  | _, _, _ => .fail
theorem l58_3_ok {T : Tab} (hT : TabOK T) (hlo : loopOf T.fn 58 3 = some (lpc T 58 3)) (h : ∀ (l : List Int) (r : Out × List AV × Hp), (l58_3t l).val = some r → ∃ mm, lpRun T 58 3 0 (lpc T 58 3) mm [lI l, vi 0, vi 0] [] = some r) : ∀ base kv H o kv' H', (l58_3 base kv H).val = some (o, kv', H') → LoopOK T 58 3 base kv H o kv' H' := by
  intro base kv H o kv' H' hv
  unfold l58_3 at hv
  split at hv
  · rename_i hb
    obtain rfl := Nat.eq_of_beq_eq_true hb
    exact loop_ok hT hlo (h _ _ hv)
  · cases hv
def l57_3t (l : List Int) (n : Int) : Tree (Out × List AV × Hp) := .br (sm l && Clm.sb l && decide (0 ≤ n) && decide (n ≤ 120)) (.leaf (.ext 0, [lI l, vi n, osW 0 l.length, vi l.length], [some (rI (Clm.times n l))])) .fail
def l57_3 (base : Nat) (kv : List AV) (H : Hp) : Tree (Out × List AV × Hp) := match Nat.beq base 0, kv, H with
  | true, [(.sl (.int .i64) l false), (.sc (.int .i64 n)), (.os 0 0 0 0 true false true), (.sc (.int .i64 0))], [some ⟨[.run (.int .i64) []], false, 0, false, false, none⟩] => l57_3t l n
  | _, _, _ => .fail
theorem l57_3_ok {T : Tab} (hT : TabOK T) (hlo : loopOf T.fn 57 3 = some (lpc T 57 3)) (h : ∀ (l : List Int) (n : Int) (r : Out × List AV × Hp), (l57_3t l n).val = some r → ∃ mm, lpRun T 57 3 0 (lpc T 57 3) mm [lI l, vi n, osW 0 0, vi 0] [some (rowI [] 0)] = some r) : ∀ base kv H o kv' H', (l57_3 base kv H).val = some (o, kv', H') → LoopOK T 57 3 base kv H o kv' H' := by
  intro base kv H o kv' H' hv
  unfold l57_3 at hv
  split at hv
  · rename_i hb
    obtain rfl := Nat.eq_of_beq_eq_true hb
    exact loop_ok hT hlo (h _ _ _ hv)
  · cases hv
def l60_3t (a b : List Int) : Tree (Out × List AV × Hp) := .br (sm a && Clm.sb a && Clm.sb b && decide (b.length = a.length)) (.leaf (.ext 0, [lI a, lI b, osW 0 a.length, vi a.length], [some (rI (Clm.lessL a b))])) .fail
def l60_3 (base : Nat) (kv : List AV) (H : Hp) : Tree (Out × List AV × Hp) := match Nat.beq base 0, kv, H with
  | true, [(.sl (.int .i64) a false), (.sl (.int .i64) b false), (.os 0 0 0 0 true false true), (.sc (.int .i64 0))], [some ⟨[.run (.int .i64) []], false, 0, false, false, none⟩] => l60_3t a b
  | _, _, _ => .fail
theorem l60_3_ok {T : Tab} (hT : TabOK T) (hlo : loopOf T.fn 60 3 = some (lpc T 60 3)) (h : ∀ (a b : List Int) (r : Out × List AV × Hp), (l60_3t a b).val = some r → ∃ mm, lpRun T 60 3 0 (lpc T 60 3) mm [lI a, lI b, osW 0 0, vi 0] [some (rowI [] 0)] = some r) : ∀ base kv H o kv' H', (l60_3 base kv H).val = some (o, kv', H') → LoopOK T 60 3 base kv H o kv' H' := by
  intro base kv H o kv' H' hv
  unfold l60_3 at hv
  split at hv
  · rename_i hb
    obtain rfl := Nat.eq_of_beq_eq_true hb
    exact loop_ok hT hlo (h _ _ _ hv)
  · cases hv
def l74_3t (L : Int) (l : List Int) : Tree (Out × List AV × Hp) := .br (sm l && Clm.sb l && decide (0 ≤ L) && decide (L ≤ 1000000000)) (.leaf (.ext 0, [vi L, lI l, vi (Clm.reach L l), vi l.length], [])) .fail
def l74_3 (base : Nat) (kv : List AV) (H : Hp) : Tree (Out × List AV × Hp) := match Nat.beq base 0, kv, H with
  | true, [(.sc (.int .i64 L)), (.sl (.int .i64) l false), (.sc (.int .i64 0)), (.sc (.int .i64 0))], [] => l74_3t L l
  | _, _, _ => .fail
theorem l74_3_ok {T : Tab} (hT : TabOK T) (hlo : loopOf T.fn 74 3 = some (lpc T 74 3)) (h : ∀ (L : Int) (l : List Int) (r : Out × List AV × Hp), (l74_3t L l).val = some r → ∃ mm, lpRun T 74 3 0 (lpc T 74 3) mm [vi L, lI l, vi 0, vi 0] [] = some r) : ∀ base kv H o kv' H', (l74_3 base kv H).val = some (o, kv', H') → LoopOK T 74 3 base kv H o kv' H' := by
  intro base kv H o kv' H' hv
  unfold l74_3 at hv
  split at hv
  · rename_i hb
    obtain rfl := Nat.eq_of_beq_eq_true hb
    exact loop_ok hT hlo (h _ _ _ hv)
  · cases hv
def l54_2t (n m : Int) (l z : List Int) : Tree (Out × List AV × Hp) := .br (decide (z = [0, 0, 0, 0, 0]) && decide (m = l.length) && decide (l.length ≤ 5) && Clm.sb l && decide (0 ≤ n) && decide (n ≤ 120)) (.leaf (.ext 0, [vi n, ps 0, vi (Clm.sumI (Clm.times n l)), lI l, vi m, vi m], [some (rP (Clm.pad5 (Clm.times n l)))])) .fail
def l54_2 (base : Nat) (kv : List AV) (H : Hp) : Tree (Out × List AV × Hp) := match Nat.beq base 0, kv, H with
  | true, [(.sc (.int .i64 n)), (.ps 0 0 0 0), (.sc (.int .i64 0)), (.sl (.int .i64) l false), (.sc (.int .i64 m)), (.sc (.int .i64 0))], [some ⟨[.run (.int .i64) z], true, 66, false, false, none⟩] => l54_2t n m l z
  | _, _, _ => .fail
theorem l54_2_ok {T : Tab} (hT : TabOK T) (hlo : loopOf T.fn 54 2 = some (lpc T 54 2)) (h : ∀ (n m : Int) (l z : List Int) (r : Out × List AV × Hp), (l54_2t n m l z).val = some r → ∃ mm, lpRun T 54 2 0 (lpc T 54 2) mm [vi n, ps 0, vi 0, lI l, vi m, vi 0] [some (rP z)] = some r) : ∀ base kv H o kv' H', (l54_2 base kv H).val = some (o, kv', H') → LoopOK T 54 2 base kv H o kv' H' := by
  intro base kv H o kv' H' hv
  unfold l54_2 at hv
  split at hv
  · rename_i hb
    obtain rfl := Nat.eq_of_beq_eq_true hb
    exact loop_ok hT hlo (h _ _ _ _ _ hv)
  · cases hv
theorem nf61 (n lo hi : Int) : evBody T0 61 [vi n, vi lo, vi hi] [] = (bif decide (lo ≤ n) then some (vb (decide (n ≤ hi)), []) else some (vb false, [])) := by kernel_rfl
theorem nf62 (n lo hi : Int) : evBody T0 62 [vi n, vi lo, vi hi] [] = (bif decide (n ≥ lo) then some (vb (decide (n ≤ hi)), []) else some (vb false, [])) := by kernel_rfl
theorem nl58 (again : Ag) (l : List Int) (s i : Int) : lpStep T0 58 3 0 (lpc T0 58 3) again [lI l, vi s, vi i] [] = (bif decide (i < (↑l.length : Int)) then bif decide (0 ≤ i) then bif decide (i < (↑l.length : Int)) then oM l[i.toNat]? fun x => again [.sl (.int .i64) l false, vi (IntKind.i64.wrap (s + x)), vi (IntKind.i64.wrap (i + 1))] [] else none else none else some (.ext 0, [.sl (.int .i64) l false, vi s, vi i], [])) := by kernel_rfl
theorem nl57 (again : Ag) (l out : List Int) (n i : Int) (ty : TypeId) : lpStep T0 57 3 0 (lpc T0 57 3) again [lI l, vi n, osW 0 out.length, vi i] [some (rowI out ty)] = (bif decide (i < (↑l.length : Int)) then bif decide (0 ≤ i) then bif decide (i < (↑l.length : Int)) then oM l[i.toNat]? fun x => bif room (out.length + 1) 8 then again [.sl (.int .i64) l false, vi n, osW 0 (out.length + 1), vi (IntKind.i64.wrap (i + 1))] [some ⟨[.run (.int .i64) (out ++ [IntKind.i64.wrap (n * x)])], false, 3, false, false, none⟩] else none else none else none else some (.ext 0, [.sl (.int .i64) l false, vi n, osW 0 out.length, vi i], [some ⟨[.run (.int .i64) out], false, ty, false, false, none⟩])) := by kernel_rfl
theorem nl60 (again : Ag) (a b out : List Int) (i : Int) (ty : TypeId) : lpStep T0 60 3 0 (lpc T0 60 3) again [lI a, lI b, osW 0 out.length, vi i] [some (rowI out ty)] = (bif decide (i < (↑a.length : Int)) then bif decide (0 ≤ i) then bif decide (i < (↑a.length : Int)) then oM a[i.toNat]? fun x => bif decide (0 ≤ i) then bif decide (i < (↑b.length : Int)) then oM b[i.toNat]? fun x_1 => bif room (out.length + 1) 8 then again [.sl (.int .i64) a false, .sl (.int .i64) b false, osW 0 (out.length + 1), vi (IntKind.i64.wrap (i + 1))] [some ⟨[.run (.int .i64) (out ++ [IntKind.i64.wrap (x - x_1)])], false, 3, false, false, none⟩] else none else none else none else none else none else some (.ext 0, [.sl (.int .i64) a false, .sl (.int .i64) b false, osW 0 out.length, vi i], [some ⟨[.run (.int .i64) out], false, ty, false, false, none⟩])) := by kernel_rfl
theorem nl74 (again : Ag) (L s i : Int) (l : List Int) : lpStep T0 74 3 0 (lpc T0 74 3) again [vi L, lI l, vi s, vi i] [] = (bif decide (i < (↑l.length : Int)) then bif decide (0 ≤ i) then bif decide (i < (↑l.length : Int)) then oM l[i.toNat]? fun x => again [vi L, .sl (.int .i64) l false, vi (IntKind.i64.wrap (s + if x < L then x else L)), vi (IntKind.i64.wrap (i + 1))] [] else none else none else some (.ext 0, [vi L, .sl (.int .i64) l false, vi s, vi i], [])) := by kernel_rfl
theorem nl54 (again : Ag) (n s i : Int) (l out : List Int) : lpStep T0 54 2 0 (lpc T0 54 2) again [vi n, ps 0, vi s, lI l, vi l.length, vi i] [some (rP out)] = (bif decide (i < (↑l.length : Int)) then bif decide (0 ≤ i) then bif decide (i < (↑l.length : Int)) then oM l[i.toNat]? fun x => bif decide (0 ≤ i) then bif decide (i < (↑5 : Int)) then oM out[i.toNat]? fun x_1 => again [vi n, .ps 0 0 0 0, vi (IntKind.i64.wrap (s + IntKind.i64.wrap (n * x))), .sl (.int .i64) l false, vi (↑l.length : Int), vi (IntKind.i64.wrap (i + 1))] [some ⟨[.run (.int .i64) (out.set i.toNat (IntKind.i64.wrap (n * x)))], true, 66, false, false, none⟩] else none else none else none else none else some (.ext 0, [vi n, .ps 0 0 0 0, vi s, .sl (.int .i64) l false, vi (↑l.length : Int), vi i], [some ⟨[.run (.int .i64) out], true, 66, false, false, none⟩])) := by kernel_rfl
theorem nf97 (a : Int) : evBody T0 97 [vi a] [] = (some (vb (a != a), [])) := by kernel_rfl
def c97t (a : Int) : Tree (AV × Hp) := .leaf (vb false, [])
def c97 (args : List AV) (H : Hp) : Tree (AV × Hp) := match args, H with
  | [(.sc (.int .i64 a))], [] => c97t a
  | _, _ => .fail
theorem c97_ok {T : Tab} (hT : TabOK T) (h : ∀ (a : Int) (r : AV × Hp), (c97t a).val = some r → evBody T 97 [vi a] [] = some r) : ∀ args H v H', (c97 args H).val = some (v, H') → CallOK T 97 args H v H' := by
  intro args H v H' hv
  unfold c97 at hv
  split at hv
  · exact evBody_sound hT (h _ _ hv)
  · cases hv
def c63t (w a b : Int) : Tree (AV × Hp) := .br (Clm.sm3 w a b) (.leaf (.tuple [vi (Clm.gar w a b).1, vi (Clm.gar w a b).2], [])) .fail
def c63 (args : List AV) (H : Hp) : Tree (AV × Hp) := match args, H with
  | [(.sc (.int .i64 w)), (.sc (.int .i64 a)), (.sc (.int .i64 b))], [] => c63t w a b
  | _, _ => .fail
theorem c63_ok {T : Tab} (hT : TabOK T) (h : ∀ (w a b : Int) (r : AV × Hp), (c63t w a b).val = some r → evBody T 63 [vi w, vi a, vi b] [] = some r) : ∀ args H v H', (c63 args H).val = some (v, H') → CallOK T 63 args H v H' := by
  intro args H v H' hv
  unfold c63 at hv
  split at hv
  · exact evBody_sound hT (h _ _ _ _ hv)
  · cases hv
def c64t (w a b : Int) : Tree (AV × Hp) := .br (Clm.sm3 w a b) (.leaf (vi (Clm.pairV w a b), [])) .fail
def c64 (args : List AV) (H : Hp) : Tree (AV × Hp) := match args, H with
  | [(.sc (.int .i64 w)), (.sc (.int .i64 a)), (.sc (.int .i64 b))], [] => c64t w a b
  | _, _ => .fail
theorem c64_ok {T : Tab} (hT : TabOK T) (h : ∀ (w a b : Int) (r : AV × Hp), (c64t w a b).val = some r → evBody T 64 [vi w, vi a, vi b] [] = some r) : ∀ args H v H', (c64 args H).val = some (v, H') → CallOK T 64 args H v H' := by
  intro args H v H' hv
  unfold c64 at hv
  split at hv
  · exact evBody_sound hT (h _ _ _ _ hv)
  · cases hv
theorem nf63 (w a b : Int) : evBody T0 63 [vi w, vi a, vi b] [] = (bif decide (w ≤ if b < a then b else a) then some (.tuple [vi w, vi w], []) else bif decide (w ≤ if b > a then b else a) then bif decide (a < b) then some (.tuple [vi (if b < a then b else a), vi (IntKind.i64.wrap (IntKind.i64.wrap (2 * w) - if b < a then b else a))], []) else some (.tuple [vi (IntKind.i64.wrap (IntKind.i64.wrap (2 * w) - if b < a then b else a)), vi (if b < a then b else a)], []) else some (.tuple [vi (IntKind.i64.wrap (IntKind.i64.wrap (2 * a) - IntKind.i64.wrap (IntKind.i64.wrap (a + b) - w))), vi (IntKind.i64.wrap (IntKind.i64.wrap (2 * b) - IntKind.i64.wrap (IntKind.i64.wrap (a + b) - w)))], [])) := by kernel_rfl
theorem nf64 (w a b : Int) : evBody T0 64 [vi w, vi a, vi b] [] = (some (.sc (.int .i64 (IntKind.i64.wrap (IntKind.i64.wrap (IntKind.i64.wrap (IntKind.i64.wrap (2 * if IntKind.i64.wrap (w - b) > 0 then IntKind.i64.wrap (w - b) else 0) + w) - if IntKind.i64.wrap (w - b) > 0 then IntKind.i64.wrap (w - b) else 0) - if IntKind.i64.wrap (w - a) > 0 then IntKind.i64.wrap (w - a) else 0))), [])) := by kernel_rfl
noncomputable def T1 : Tab := ((((((((((T0).addCall 61 c61).addCall 62 c62).addCall 97 c97).addCall 63 c63).addCall 64 c64).addLoop 58 3 l58_3).addLoop 57 3 l57_3).addLoop 60 3 l60_3).addLoop 74 3 l74_3).addLoop 54 2 l54_2
theorem nf87 (a b : Int) : evBody T1 87 [vi a, vi b] [] = (some (vb (decide (a < b)), [])) := by kernel_rfl
theorem nf58 (l : List Int) : evBody T1 58 [lI l] [] = (bif sm l && Clm.sb l then some (vi (Clm.sumI l), []) else none) := by kernel_rfl
theorem nf57 (l : List Int) (n : Int) : evBody T1 57 [lI l, vi n] [] = (bif sm l && Clm.sb l && decide (0 ≤ n) && decide (n ≤ 120) then some (osW 0 l.length, [some ⟨[.run (.int .i64) (Clm.times n l)], false, Clm.tyI (Clm.times n l), false, false, none⟩]) else none) := by kernel_rfl
theorem nf60 (a b : List Int) : evBody T1 60 [lI a, lI b] [] = (bif sm a && Clm.sb a && Clm.sb b && decide (b.length = a.length) then some (osW 0 a.length, [some ⟨[.run (.int .i64) (Clm.lessL a b)], false, Clm.tyI (Clm.lessL a b), false, false, none⟩]) else none) := by kernel_rfl
theorem nf74 (L : Int) (l : List Int) : evBody T1 74 [vi L, lI l] [] = (bif sm l && Clm.sb l && decide (0 ≤ L) && decide (L ≤ 1000000000) then some (vi (Clm.reach L l), []) else none) := by kernel_rfl
theorem nf54 (l : List Int) (n : Int) : evBody T1 54 [lI l, vi n] [] = (bif decide (List.replicate 5 0 = [0, 0, 0, 0, 0]) && decide ((↑l.length : Int) = (↑l.length : Int)) && decide (l.length ≤ 5) && Clm.sb l && decide (0 ≤ n) && decide (n ≤ 120) then bif decide (List.map (fun (x : AV) => match x with | .run e l => l.length * e.size | _ => 1) (List.take 1 (List.drop 0 [.run (.int .i64) (Clm.pad5 (Clm.times n l))])) = List.map (fun (x : AV) => match x with | .run e l => l.length * e.size | _ => 1) ((some [.run (.int .i64) (List.replicate 5 0)]).getD [])) then some (.tuple [.agg [.run (.int .i64) (Clm.pad5 (Clm.times n l))] false, vi (Clm.sumI (Clm.times n l))], []) else none else none) := by kernel_rfl
def c87t (a b : Int) : Tree (AV × Hp) := .leaf (vb (decide (a < b)), [])
def c87 (args : List AV) (H : Hp) : Tree (AV × Hp) := match args, H with
  | [(.sc (.int .i64 a)), (.sc (.int .i64 b))], [] => c87t a b
  | _, _ => .fail
theorem c87_ok {T : Tab} (hT : TabOK T) (h : ∀ (a b : Int) (r : AV × Hp), (c87t a b).val = some r → evBody T 87 [vi a, vi b] [] = some r) : ∀ args H v H', (c87 args H).val = some (v, H') → CallOK T 87 args H v H' := by
  intro args H v H' hv
  unfold c87 at hv
  split at hv
  · exact evBody_sound hT (h _ _ _ hv)
  · cases hv
def c58t (l : List Int) : Tree (AV × Hp) := .br (sm l && Clm.sb l) (.leaf (vi (Clm.sumI l), [])) .fail
def c58 (args : List AV) (H : Hp) : Tree (AV × Hp) := match args, H with
  | [(.sl (.int .i64) l false)], [] => c58t l
  | _, _ => .fail
theorem c58_ok {T : Tab} (hT : TabOK T) (h : ∀ (l : List Int) (r : AV × Hp), (c58t l).val = some r → evBody T 58 [lI l] [] = some r) : ∀ args H v H', (c58 args H).val = some (v, H') → CallOK T 58 args H v H' := by
  intro args H v H' hv
  unfold c58 at hv
  split at hv
  · exact evBody_sound hT (h _ _ hv)
  · cases hv
def c57t (l : List Int) (n : Int) : Tree (AV × Hp) := .br (sm l && Clm.sb l && decide (0 ≤ n) && decide (n ≤ 120)) (.leaf (osW 0 l.length, [some (rI (Clm.times n l))])) .fail
def c57 (args : List AV) (H : Hp) : Tree (AV × Hp) := match args, H with
  | [(.sl (.int .i64) l false), (.sc (.int .i64 n))], [] => c57t l n
  | _, _ => .fail
theorem c57_ok {T : Tab} (hT : TabOK T) (h : ∀ (l : List Int) (n : Int) (r : AV × Hp), (c57t l n).val = some r → evBody T 57 [lI l, vi n] [] = some r) : ∀ args H v H', (c57 args H).val = some (v, H') → CallOK T 57 args H v H' := by
  intro args H v H' hv
  unfold c57 at hv
  split at hv
  · exact evBody_sound hT (h _ _ _ hv)
  · cases hv
def c60t (a b : List Int) : Tree (AV × Hp) := .br (sm a && Clm.sb a && Clm.sb b && decide (b.length = a.length)) (.leaf (osW 0 a.length, [some (rI (Clm.lessL a b))])) .fail
def c60 (args : List AV) (H : Hp) : Tree (AV × Hp) := match args, H with
  | [(.sl (.int .i64) a false), (.sl (.int .i64) b false)], [] => c60t a b
  | _, _ => .fail
theorem c60_ok {T : Tab} (hT : TabOK T) (h : ∀ (a b : List Int) (r : AV × Hp), (c60t a b).val = some r → evBody T 60 [lI a, lI b] [] = some r) : ∀ args H v H', (c60 args H).val = some (v, H') → CallOK T 60 args H v H' := by
  intro args H v H' hv
  unfold c60 at hv
  split at hv
  · exact evBody_sound hT (h _ _ _ hv)
  · cases hv
def c74t (L : Int) (l : List Int) : Tree (AV × Hp) := .br (sm l && Clm.sb l && decide (0 ≤ L) && decide (L ≤ 1000000000)) (.leaf (vi (Clm.reach L l), [])) .fail
def c74 (args : List AV) (H : Hp) : Tree (AV × Hp) := match args, H with
  | [(.sc (.int .i64 L)), (.sl (.int .i64) l false)], [] => c74t L l
  | _, _ => .fail
theorem c74_ok {T : Tab} (hT : TabOK T) (h : ∀ (L : Int) (l : List Int) (r : AV × Hp), (c74t L l).val = some r → evBody T 74 [vi L, lI l] [] = some r) : ∀ args H v H', (c74 args H).val = some (v, H') → CallOK T 74 args H v H' := by
  intro args H v H' hv
  unfold c74 at hv
  split at hv
  · exact evBody_sound hT (h _ _ _ hv)
  · cases hv
def c54t (n : Int) (l : List Int) : Tree (AV × Hp) := .br (decide (l.length ≤ 5) && Clm.sb l && decide (0 ≤ n) && decide (n ≤ 120)) (.leaf (.tuple [.agg [.run (.int .i64) (Clm.pad5 (Clm.times n l))] false, vi (Clm.sumI (Clm.times n l))], [])) .fail
def c54 (args : List AV) (H : Hp) : Tree (AV × Hp) := match args, H with
  | [(.sl (.int .i64) l false), (.sc (.int .i64 n))], [] => c54t n l
  | _, _ => .fail
theorem c54_ok {T : Tab} (hT : TabOK T) (h : ∀ (n : Int) (l : List Int) (r : AV × Hp), (c54t n l).val = some r → evBody T 54 [lI l, vi n] [] = some r) : ∀ args H v H', (c54 args H).val = some (v, H') → CallOK T 54 args H v H' := by
  intro args H v H' hv
  unfold c54 at hv
  split at hv
  · exact evBody_sound hT (h _ _ _ hv)
  · cases hv
noncomputable def T2 : Tab := ((((((T1).addCall 87 c87).addCall 58 c58).addCall 57 c57).addCall 60 c60).addCall 74 c74).addCall 54 c54
end Go.Ev.Clm
namespace Go.Ev.Clm
open Go Go.Ev
set_option maxRecDepth 1000000
set_option linter.unusedVariables false
set_option linter.unusedSimpArgs false
theorem tyI_snoc (l : List Int) (x : Int) : tyI (l ++ [x]) = 3 := by cases l <;> rfl
theorem fns_ok : ∀ f fn, T0.fn f = some fn → T0.P.funcs[f]? = some fn ∧ fnOK fn = true := fun _ _ h => fnsOf_spec h
theorem mixed_ok : T0.P.follows .mixedOrders = true := by kernel_rfl
theorem T0_ok : TabOK T0 := TabOK.bare fns_ok mixed_ok
theorem glob_none : ∀ g, T0.glob g = none := fun _ => rfl
theorem get_i {α : Type} {l : List α} {i : Nat} (h : i < l.length) : ∃ x, l[i]? = some x ∧ x ∈ l := ⟨l[i], List.getElem?_eq_getElem h, List.getElem_mem h⟩
theorem c61_run : ∀ args H v H', (c61 args H).val = some (v, H') → CallOK T0 61 args H v H' := c61_ok T0_ok (by
  intro n lo hi r hv
  rw [leaf_val hv, nf61, Clm.inR]
  by_cases h : lo ≤ n <;> simp [h])
theorem c62_run : ∀ args H v H', (c62 args H).val = some (v, H') → CallOK T0 62 args H v H' := c62_ok T0_ok (by
  intro n lo hi r hv
  rw [leaf_val hv, nf62, Clm.inR]
  by_cases h : lo ≤ n <;> simp [h])
theorem c97_run : ∀ args H v H', (c97 args H).val = some (v, H') → CallOK T0 97 args H v H' := c97_ok T0_ok (by
  intro a r hv
  rw [leaf_val hv, nf97, bne_self_eq_false])
theorem sm3_get {a b c : Int} (h : Clm.sm3 a b c = true) : (-1000000000000 ≤ a ∧ a ≤ 1000000000000) ∧ (-1000000000000 ≤ b ∧ b ≤ 1000000000000) ∧ -1000000000000 ≤ c ∧ c ≤ 1000000000000 := by
  unfold Clm.sm3 Clm.sm1 at h
  simp only [Bool.and_eq_true, decide_eq_true_eq] at h
  exact ⟨h.1.1, h.1.2, h.2⟩
theorem c63_run : ∀ args H v H', (c63 args H).val = some (v, H') → CallOK T0 63 args H v H' := c63_ok T0_ok (by
  intro w a b r hv
  obtain ⟨hl, hv2⟩ := guard_val hv
  obtain ⟨h1, h2, h3⟩ := sm3_get hl
  rw [leaf_val hv2, nf63, Clm.mn', Clm.mx']
  have m1 : min a b ≤ 1000000000000 ∧ -1000000000000 ≤ min a b := by omega
  rw [wrapi (x := 2 * w) (by omega) (by omega), wrapi (x := 2 * w - min a b) (by omega) (by omega), wrapi (x := 2 * a) (by omega) (by omega), wrapi (x := 2 * b) (by omega) (by omega), wrapi (x := a + b) (by omega) (by omega), wrapi (x := a + b - w) (by omega) (by omega), wrapi (x := 2 * a - (a + b - w)) (by omega) (by omega), wrapi (x := 2 * b - (a + b - w)) (by omega) (by omega)]
  unfold Clm.gar
  cases decide (w ≤ min a b) with
  | true => rfl
  | false =>
    cases decide (w ≤ max a b) with
    | true => cases decide (a < b) <;> rfl
    | false => rfl)
theorem c64_run : ∀ args H v H', (c64 args H).val = some (v, H') → CallOK T0 64 args H v H' := c64_ok T0_ok (by
  intro w a b r hv
  obtain ⟨hl, hv2⟩ := guard_val hv
  obtain ⟨h1, h2, h3⟩ := sm3_get hl
  rw [leaf_val hv2, nf64, wrapi (x := w - b) (by omega) (by omega), wrapi (x := w - a) (by omega) (by omega), Clm.mx', Clm.mx']
  unfold Clm.pairV
  rw [wrapi (x := 2 * max 0 (w - b)) (by omega) (by omega), wrapi (x := 2 * max 0 (w - b) + w) (by omega) (by omega), wrapi (x := 2 * max 0 (w - b) + w - max 0 (w - b)) (by omega) (by omega), wrapi (by omega) (by omega)])
theorem l58_3_run : ∀ base kv H o kv' H', (l58_3 base kv H).val = some (o, kv', H') → LoopOK T0 58 3 base kv H o kv' H' := l58_3_ok T0_ok (by kernel_rfl) (by
  intro l r hv
  obtain ⟨hl, hv2⟩ := guard_val hv
  rw [Bool.and_eq_true] at hl
  have hs := sm_le hl.1
  obtain ⟨m, hm⟩ := steps_of (T := T0) (fid := 58) (lid := 3) (base := 0) (c := lpc T0 58 3) l.length (fun i => [lI l, vi (Clm.sumI (l.take i)), vi (i : Nat)]) (fun _ => []) (.ext 0, [lI l, vi (Clm.sumI l), vi l.length], [])
    (fun i hi again => by
      obtain ⟨x, hx, hm⟩ := get_i hi
      have b := Clm.sb_take hl.2 hs i
      have c := Clm.sb_get hl.2 hm
      rw [nl58, Clm.sumI_take hx]
      simp only [dec_lt hi, dec_ge, cond_true, toNat_cast, hx, oM]
      rw [wrap_succ (by omega), wrapi (by omega) (by omega)])
    (fun again => by
      rw [nl58, List.take_length]
      simp only [dec_ll, cond_false])
  exact ⟨m, hm.trans (by rw [leaf_val hv2])⟩)
theorem l57_3_run : ∀ base kv H o kv' H', (l57_3 base kv H).val = some (o, kv', H') → LoopOK T0 57 3 base kv H o kv' H' := l57_3_ok T0_ok (by kernel_rfl) (by
  intro l n r hv
  obtain ⟨hl, hv2⟩ := guard_val hv
  simp only [Bool.and_eq_true, decide_eq_true_eq] at hl
  obtain ⟨⟨⟨h1, h2⟩, h3⟩, h4⟩ := hl
  have hs := sm_le h1
  obtain ⟨m, hm⟩ := steps_of (T := T0) (fid := 57) (lid := 3) (base := 0) (c := lpc T0 57 3) l.length (fun i => [lI l, vi n, osW 0 (Clm.times n (l.take i)).length, vi (i : Nat)]) (fun i => [some (rI (Clm.times n (l.take i)))]) (.ext 0, [lI l, vi n, osW 0 l.length, vi l.length], [some (rI (Clm.times n l))])
    (fun i hi again => by
      obtain ⟨x, hx, hm⟩ := get_i hi
      have c := Clm.sb_get h2 hm
      have hr : room ((Clm.times n (l.take i)).length + 1) 8 = true := room_ok (by simp [Clm.times]; omega) (by omega)
      have hb : -120000000000 ≤ n * x ∧ n * x ≤ 120000000000 := by
        have a1 := Int.mul_le_mul_of_nonneg_left c.2 h3
        have a2 := Int.mul_le_mul_of_nonneg_left c.1 h3
        omega
      rw [nl57]
      simp only [dec_lt hi, dec_ge, cond_true, toNat_cast, hx, oM, hr]
      rw [wrap_succ (by omega), wrapi (by omega) (by omega)]
      have e : Clm.times n (l.take (i + 1)) = Clm.times n (l.take i) ++ [n * x] := Clm.map_take _ hx
      rw [e, rI, tyI_snoc, List.length_append, List.length_singleton])
    (fun again => by
      rw [nl57, List.take_length]
      simp only [dec_ll, cond_false]
      rw [show (Clm.times n l).length = l.length by simp [Clm.times]])
  exact ⟨m, hm.trans (by rw [leaf_val hv2])⟩)
theorem l60_3_run : ∀ base kv H o kv' H', (l60_3 base kv H).val = some (o, kv', H') → LoopOK T0 60 3 base kv H o kv' H' := l60_3_ok T0_ok (by kernel_rfl) (by
  intro a b r hv
  obtain ⟨hl, hv2⟩ := guard_val hv
  simp only [Bool.and_eq_true, decide_eq_true_eq] at hl
  obtain ⟨⟨⟨h1, h2⟩, h3⟩, h4⟩ := hl
  have hs := sm_le h1
  have hz : (a.zip b).length = a.length := by simp [h4]
  obtain ⟨m, hm⟩ := steps_of (T := T0) (fid := 60) (lid := 3) (base := 0) (c := lpc T0 60 3) a.length (fun i => [lI a, lI b, osW 0 (((a.zip b).take i).map fun x => x.1 - x.2).length, vi (i : Nat)]) (fun i => [some (rI (((a.zip b).take i).map fun x => x.1 - x.2))]) (.ext 0, [lI a, lI b, osW 0 a.length, vi a.length], [some (rI (Clm.lessL a b))])
    (fun i hi again => by
      have hi' : i < b.length := by omega
      obtain ⟨x, hx, hm⟩ := get_i hi
      obtain ⟨y, hy, hm'⟩ := get_i hi'
      have c := Clm.sb_get h2 hm
      have d := Clm.sb_get h3 hm'
      have hxy : (a.zip b)[i]? = some (x, y) := by rw [List.getElem?_zip_eq_some]; exact ⟨hx, hy⟩
      have hr : room ((((a.zip b).take i).map fun x => x.1 - x.2).length + 1) 8 = true := room_ok (by simp; omega) (by omega)
      rw [nl60]
      simp only [dec_lt hi, dec_lt hi', dec_ge, cond_true, toNat_cast, hx, hy, oM, hr]
      rw [wrap_succ (by omega), wrapi (by omega) (by omega)]
      have e : ((a.zip b).take (i + 1)).map (fun x => x.1 - x.2) = ((a.zip b).take i).map (fun x => x.1 - x.2) ++ [x - y] := by rw [Clm.take_succ' hxy, List.map_append]; rfl
      rw [e, rI, tyI_snoc, List.length_append, List.length_singleton])
    (fun again => by
      rw [nl60]
      simp only [dec_ll, cond_false]
      rw [List.take_of_length_le (by omega)]
      simp [Clm.lessL, h4])
  exact ⟨m, hm.trans (by rw [leaf_val hv2])⟩)
theorem l74_3_run : ∀ base kv H o kv' H', (l74_3 base kv H).val = some (o, kv', H') → LoopOK T0 74 3 base kv H o kv' H' := l74_3_ok T0_ok (by kernel_rfl) (by
  intro L l r hv
  obtain ⟨hl, hv2⟩ := guard_val hv
  simp only [Bool.and_eq_true, decide_eq_true_eq] at hl
  obtain ⟨⟨⟨h1, h2⟩, h3⟩, h4⟩ := hl
  have hs := sm_le h1
  have hsb : Clm.sb (l.map fun b => min L b) = true := by
    unfold Clm.sb
    rw [List.all_eq_true]
    intro x hx
    obtain ⟨y, hy, rfl⟩ := List.mem_map.1 hx
    have := Clm.sb_get h2 hy
    simp only [Bool.and_eq_true, decide_eq_true_eq]
    omega
  obtain ⟨m, hm⟩ := steps_of (T := T0) (fid := 74) (lid := 3) (base := 0) (c := lpc T0 74 3) l.length (fun i => [vi L, lI l, vi (Clm.sumI ((l.map fun b => min L b).take i)), vi (i : Nat)]) (fun _ => []) (.ext 0, [vi L, lI l, vi (Clm.reach L l), vi l.length], [])
    (fun i hi again => by
      obtain ⟨x, hx, hm⟩ := get_i hi
      have b := Clm.sb_take hsb (by simpa using hs) i
      have c := Clm.sb_get h2 hm
      have hx' : (l.map fun b => min L b)[i]? = some (min L x) := by rw [List.getElem?_map, hx]; rfl
      rw [nl74, Clm.sumI_take hx']
      simp only [dec_lt hi, dec_ge, cond_true, toNat_cast, hx, oM]
      rw [wrap_succ (by omega), Clm.mn', wrapi (by omega) (by omega)])
    (fun again => by
      rw [nl74, List.take_of_length_le (by simp)]
      simp only [dec_ll, cond_false, Clm.reach])
  exact ⟨m, hm.trans (by rw [leaf_val hv2])⟩)
theorem l54_2_run : ∀ base kv H o kv' H', (l54_2 base kv H).val = some (o, kv', H') → LoopOK T0 54 2 base kv H o kv' H' := l54_2_ok T0_ok (by kernel_rfl) (by
  intro n m l z r hv
  obtain ⟨hl, hv2⟩ := guard_val hv
  simp only [Bool.and_eq_true, decide_eq_true_eq] at hl
  obtain ⟨⟨⟨⟨⟨rfl, rfl⟩, h1⟩, h2⟩, h3⟩, h4⟩ := hl
  have hb : ∀ x ∈ l, -120000000000 ≤ n * x ∧ n * x ≤ 120000000000 := fun x hx => by
    have c := Clm.sb_get h2 hx
    have a1 := Int.mul_le_mul_of_nonneg_left c.2 h3
    have a2 := Int.mul_le_mul_of_nonneg_left c.1 h3
    omega
  have hsum : ∀ i, -600000000000 ≤ Clm.sumI (Clm.times n (l.take i)) ∧ Clm.sumI (Clm.times n (l.take i)) ≤ 600000000000 := fun i => by
    have := Clm.sumI_bd (l := Clm.times n (l.take i)) (B := 120000000000) (by omega) (fun y hy => by
      obtain ⟨x, hx, rfl⟩ := List.mem_map.1 hy
      exact hb x (List.mem_of_mem_take hx))
    have h5 : (Clm.times n (l.take i)).length ≤ 5 := by simp [Clm.times]; omega
    omega
  obtain ⟨mm, hm⟩ := steps_of (T := T0) (fid := 54) (lid := 2) (base := 0) (c := lpc T0 54 2) l.length (fun i => [vi n, ps 0, vi (Clm.sumI (Clm.times n (l.take i))), lI l, vi l.length, vi (i : Nat)]) (fun i => [some (rP (Clm.pad5 (Clm.times n (l.take i))))]) (.ext 0, [vi n, ps 0, vi (Clm.sumI (Clm.times n l)), lI l, vi l.length, vi l.length], [some (rP (Clm.pad5 (Clm.times n l)))])
    (fun i hi again => by
      obtain ⟨x, hx, hm⟩ := get_i hi
      have h5 : i < (Clm.pad5 (Clm.times n (l.take i))).length := by simp [Clm.pad5, Clm.times]; omega
      obtain ⟨y, hy, _⟩ := get_i h5
      have c := hb x hm
      have b := hsum i
      have e : Clm.times n (l.take (i + 1)) = Clm.times n (l.take i) ++ [n * x] := Clm.map_take _ hx
      have e2 : Clm.sumI (Clm.times n (l.take (i + 1))) = Clm.sumI (Clm.times n (l.take i)) + n * x := by rw [e, Clm.sumI_append, Clm.sumI_cons, Clm.sumI_nil]; omega
      rw [nl54]
      simp only [dec_lt hi, dec_ge, cond_true, toNat_cast, hx, oM, decide_eq_true (show (i : Int) < 5 by omega), hy]
      rw [wrap_succ (by omega), wrapi (x := n * x) (by omega) (by omega), wrapi (by omega) (by omega), Clm.pad_set hx (by omega), e2])
    (fun again => by
      rw [nl54, List.take_length]
      simp only [dec_ll, cond_false])
  exact ⟨mm, hm.trans (by rw [leaf_val hv2])⟩)
theorem T1_ok : TabOK T1 := by
  have h := T0_ok
  have h := h.addCall (g := 61) (r := c61) fun a H v H' hv => by refine CallOK.tab ?_ ?_ (c61_run a H v H' hv) <;> rfl
  have h := h.addCall (g := 62) (r := c62) fun a H v H' hv => by refine CallOK.tab ?_ ?_ (c62_run a H v H' hv) <;> rfl
  have h := h.addCall (g := 97) (r := c97) fun a H v H' hv => by refine CallOK.tab ?_ ?_ (c97_run a H v H' hv) <;> rfl
  have h := h.addCall (g := 63) (r := c63) fun a H v H' hv => by refine CallOK.tab ?_ ?_ (c63_run a H v H' hv) <;> rfl
  have h := h.addCall (g := 64) (r := c64) fun a H v H' hv => by refine CallOK.tab ?_ ?_ (c64_run a H v H' hv) <;> rfl
  have h := h.addLoop (g := 58) (lid := 3) (r := l58_3) fun b k H o k' H' hv => by refine LoopOK.tab ?_ ?_ ?_ ?_ (l58_3_run b k H o k' H' hv) <;> rfl
  have h := h.addLoop (g := 57) (lid := 3) (r := l57_3) fun b k H o k' H' hv => by refine LoopOK.tab ?_ ?_ ?_ ?_ (l57_3_run b k H o k' H' hv) <;> rfl
  have h := h.addLoop (g := 60) (lid := 3) (r := l60_3) fun b k H o k' H' hv => by refine LoopOK.tab ?_ ?_ ?_ ?_ (l60_3_run b k H o k' H' hv) <;> rfl
  have h := h.addLoop (g := 74) (lid := 3) (r := l74_3) fun b k H o k' H' hv => by refine LoopOK.tab ?_ ?_ ?_ ?_ (l74_3_run b k H o k' H' hv) <;> rfl
  have h := h.addLoop (g := 54) (lid := 2) (r := l54_2) fun b k H o k' H' hv => by refine LoopOK.tab ?_ ?_ ?_ ?_ (l54_2_run b k H o k' H' hv) <;> rfl
  exact h
theorem c87_run : ∀ args H v H', (c87 args H).val = some (v, H') → CallOK T1 87 args H v H' := c87_ok T1_ok (by
  intro a b r hv
  rw [leaf_val hv, nf87])
theorem c58_run : ∀ args H v H', (c58 args H).val = some (v, H') → CallOK T1 58 args H v H' := c58_ok T1_ok (by
  intro l r hv
  obtain ⟨hl, hv2⟩ := guard_val hv
  rw [leaf_val hv2, nf58, cond_t hl])
theorem c57_run : ∀ args H v H', (c57 args H).val = some (v, H') → CallOK T1 57 args H v H' := c57_ok T1_ok (by
  intro l n r hv
  obtain ⟨hl, hv2⟩ := guard_val hv
  rw [leaf_val hv2, nf57, cond_t hl])
theorem c60_run : ∀ args H v H', (c60 args H).val = some (v, H') → CallOK T1 60 args H v H' := c60_ok T1_ok (by
  intro a b r hv
  obtain ⟨hl, hv2⟩ := guard_val hv
  rw [leaf_val hv2, nf60, cond_t hl])
theorem c74_run : ∀ args H v H', (c74 args H).val = some (v, H') → CallOK T1 74 args H v H' := c74_ok T1_ok (by
  intro L l r hv
  obtain ⟨hl, hv2⟩ := guard_val hv
  rw [leaf_val hv2, nf74, cond_t hl])
theorem c54_run : ∀ args H v H', (c54 args H).val = some (v, H') → CallOK T1 54 args H v H' := c54_ok T1_ok (by
  intro n l r hv
  obtain ⟨hl, hv2⟩ := guard_val hv
  rw [leaf_val hv2, nf54, cond_t (by
    have e : ∀ (p : Prop) (_ : Decidable p) (b : Bool), p → (decide p && b) = b := fun p _ b h => by rw [decide_eq_true h, Bool.true_and]
    simp only [Bool.and_assoc] at hl ⊢
    exact (e _ _ _ (by exact rfl)).trans ((e _ _ _ trivial).trans hl))]
  refine cond_t (decide_eq_true ?_)
  have : (Clm.pad5 (Clm.times n l)).length = 5 := by
    simp only [Bool.and_eq_true, decide_eq_true_eq] at hl
    simp [Clm.pad5, Clm.times]; omega
  show [(Clm.pad5 (Clm.times n l)).length * 1] = _
  rw [this]; kernel_rfl)
theorem T2_ok : TabOK T2 := by
  have h := T1_ok
  have h := h.addCall (g := 87) (r := c87) fun a H v H' hv => by refine CallOK.tab ?_ ?_ (c87_run a H v H' hv) <;> rfl
  have h := h.addCall (g := 58) (r := c58) fun a H v H' hv => by refine CallOK.tab ?_ ?_ (c58_run a H v H' hv) <;> rfl
  have h := h.addCall (g := 57) (r := c57) fun a H v H' hv => by refine CallOK.tab ?_ ?_ (c57_run a H v H' hv) <;> rfl
  have h := h.addCall (g := 60) (r := c60) fun a H v H' hv => by refine CallOK.tab ?_ ?_ (c60_run a H v H' hv) <;> rfl
  have h := h.addCall (g := 74) (r := c74) fun a H v H' hv => by refine CallOK.tab ?_ ?_ (c74_run a H v H' hv) <;> rfl
  have h := h.addCall (g := 54) (r := c54) fun a H v H' hv => by refine CallOK.tab ?_ ?_ (c54_run a H v H' hv) <;> rfl
  exact h
end Go.Ev.Clm
