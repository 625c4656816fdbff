/- The tables of the burn seat, in the symbolic mode. -/
import Derived.Test.YtpieoljeikpemaaDoorEvE
import Derived.Test.YtpieoljeikpemaaDoorChecked
import Derived.Test.YtpieoljeikpemaaDoorSa
set_option linter.unusedVariables false
set_option linter.unusedSimpArgs false
namespace Go.Ev.Burn
open Go Go.Ev Go.Proofs
set_option maxRecDepth 1000000
set_option linter.unusedVariables false
def assoc {α : Type} (d : α) (k : Nat) : List (Nat × α) → α
  | [] => d
  | p :: l => match Nat.beq p.1 k with
    | true => p.2
    | false => assoc d k l
def keepB : List (Nat × List (Nat × List Nat)) := [
  (7, [(8, [1, 4, 5, 10, 76, 77, 78]), (14, [1, 5, 12, 13, 76, 77, 78, 91, 92, 93])]),
  (8, [(5, [7, 8, 9, 10, 36, 37, 38]), (13, [6, 7, 8, 9, 10, 13, 66, 67]), (17, [7, 8, 9, 10, 13, 15, 16, 66, 67, 70, 71]), (20, [7, 8, 9, 10, 13, 15, 16, 17, 66, 67, 70, 71, 77, 78, 79])]),
  (10, [(6, [6, 7, 8, 9, 10, 11, 12, 40, 41])]),
  (11, [(4, [3, 5, 7, 35, 36]), (12, [5, 7, 10, 69, 70, 71]), (26, [7, 10, 23, 167, 168, 169])]),
  (12, [(14, [6, 7, 14, 16, 17, 82, 83])]),
  (13, [(7, [2, 3, 5, 6, 35, 36]), (19, [2, 3, 5, 6, 12, 70, 71]), (23, [3, 5, 6, 12, 13, 14, 70, 71, 77, 78, 79])]),
  (14, [(5, [3, 9, 10, 11, 12, 34, 35, 36]), (13, [9, 10, 11, 12, 15, 55, 56, 57]), (23, [9, 10, 11, 12, 15, 86, 87, 88]), (26, [9, 10, 11, 12, 15, 19, 86, 87, 88, 95, 96, 97])]),
  (21, [(6, [1, 6, 8, 20, 21])]),
  (23, [(4, [0, 1, 4, 5])]),
  (24, [(4, [0, 1, 4, 5])]),
  (26, [(6, [1, 2, 3])]),
  (37, [(4, [0, 4, 5])]),
  (39, [(6, [0, 4, 6, 17, 18])]),
  (40, [(6, [0, 4, 5, 6])]),
  (41, [(8, [1, 2, 3, 6, 7, 9, 27, 28, 29]), (15, [1, 2, 3, 7, 9, 11, 27, 28, 29, 55, 56, 57])]),
  (42, [(5, [1, 2, 3, 7, 8])]),
  (44, [(3, [0, 2, 3, 4])]),
  (47, [(3, [1, 4, 5, 6])]),
  (50, [(3, [2, 4, 5, 6, 7]), (7, [4, 5, 6, 45, 46, 47])]),
  (51, [(2, [2, 4, 6, 11, 12]), (6, [2, 4, 7, 8, 11, 12, 15, 16, 17])]),
  (53, [(2, [2, 3, 4, 5, 6])]),
  (54, [(1, [0, 2, 3])]),
  (55, [(2, [1, 2, 3, 6, 9, 10, 11])]),
  (56, [(8, [0, 1, 3, 4, 5, 7, 9])]),
  (59, [(5, [0, 3, 4])]),
  (63, [(3, [1, 2, 3, 11]), (6, [1, 2, 3, 4, 11, 14]), (13, [2, 3, 27, 28, 29]), (18, [2, 3, 46]), (21, [2, 3, 8, 46, 49]), (24, [2, 3, 8, 9, 46, 49, 52])]),
  (65, [(8, [1, 2, 4, 5, 6, 7, 36, 37, 38]), (21, [1, 2, 6, 7, 10, 95, 96]), (26, [1, 2, 6, 7, 10, 104]), (29, [1, 2, 6, 7, 10, 12, 104, 108, 109]), (35, [1, 2, 6, 7, 10, 12, 14, 104, 125, 126]), (38, [1, 2, 6, 7, 10, 12, 14, 15, 16, 104, 125, 126]), (44, [1, 2, 6, 10, 12, 152, 153]), (47, [1, 2, 6, 10, 12, 17, 18, 152, 153]), (55, [2, 4, 5, 6, 182, 183, 184])]),
  (68, [(2, [1, 2, 3, 7])]),
  (69, [(2, [0, 3])]),
  (70, [(3, [2, 3, 7, 8])]),
  (72, [(3, [0, 2, 7, 13, 14, 15])]),
  (73, [(7, [1, 2, 5, 6])]),
  (74, [(4, [1, 2, 5, 6, 7]), (9, [1, 2, 5, 6, 7, 8, 9])]),
  (75, [(2, [0, 1, 2, 6, 7])]),
  (78, [(6, [1, 4, 5, 6, 7, 9])]),
  (79, [(3, [1, 3, 4])]),
  (81, [(4, [0, 1, 2, 4, 5, 8])]),
  (84, [(7, [1, 2, 3, 4, 8, 9, 11])]),
  (85, [(2, [0, 3])]),
  (86, [(2, [1, 2, 3, 6, 7]), (5, [1, 2, 3, 6, 7, 8])]),
  (87, [(2, [0, 1, 4, 7, 8])]),
  (89, [(6, [0, 6, 22, 23])]),
  (90, [(2, [0, 1, 4, 7, 8])]),
  (91, [(2, [0, 1, 2, 3, 8, 9])]),
  (93, [(2, [0, 1, 4, 7, 8])]),
  (95, [(2, [0, 1, 4, 5])]),
  (96, [(3, [1, 2, 5, 6]), (7, [1, 2, 5, 6, 7, 8])]),
  (98, [(7, [1, 2, 3, 7, 8])]),
  (101, [(2, [0, 3, 4, 7, 8])]),
  (102, [(1, [0, 1, 2, 6]), (4, [0, 1, 2, 6, 7])]),
  (103, [(4, [0, 6, 7, 8, 9]), (8, [0, 6, 7, 10])]),
  (104, [(5, [0, 1, 6, 7, 8, 9])]),
  (106, [(2, [0, 6, 7])]),
  (107, [(3, [0, 1, 2, 6, 7, 8]), (5, [0, 1, 2, 7, 8]), (14, [0, 1, 2, 7, 8, 9]), (20, [0, 1, 2, 7, 8, 10])]),
  (109, [(3, [0, 1, 9, 10]), (5, [0, 1, 9, 10])]),
  (110, [(3, [0, 1, 10, 11]), (5, [0, 1, 10, 11]), (13, [0, 1, 10, 11]), (15, [0, 1, 10, 11])]),
  (113, [(10, [0, 1, 3, 7, 10, 11, 34, 35])]),
  (114, [(1, [0, 2, 3, 8])])]
def tab32 : List Int := [0, 1, 28, 2, 29, 14, 24, 3, 30, 22, 20, 15, 25, 17, 4, 8, 31, 27, 13, 23, 21, 19, 16, 7, 26, 12, 18, 6, 11, 5, 10, 9]
def tab64 : List Int := [0, 1, 56, 2, 57, 49, 28, 3, 61, 58, 42, 50, 38, 29, 17, 4, 62, 47, 59, 36, 45, 43, 51, 22, 53, 39, 33, 30, 24, 18, 12, 5, 63, 55, 48, 27, 60, 41, 37, 16, 46, 35, 44, 21, 52, 32, 23, 11, 54, 26, 40, 15, 34, 20, 31, 10, 25, 14, 19, 9, 13, 8, 7, 6]
def globB (g : Nat) : Option (List AV × TypeId) := match g with
  | 0 => some ([.run (.int .u8) tab32], 154)
  | 1 => some ([.run (.int .u8) tab64], 155)
  | _ => none
def refB (f : FuncId) : List Nat := match f with
  | 113 => [0, 2, 3, 4, 5, 6, 7]
  | 81 => [2, 3, 4, 5]
  | 56 => [1, 2, 3, 4, 5]
  | 89 => [1, 2, 3, 4, 5, 6]
  | _ => []
noncomputable def T0 : Tab := { P := Tryd.prog, il := true, fn := fnsOf Tryd.prog, glob := globB, refm := refB, keep := fun f l => assoc [] l (assoc [] f keepB), gc := fun _ _ => none, callR := fun _ _ _ => .fail, loopT := fun _ _ _ _ _ => .fail }
end Go.Ev.Burn
namespace Go.Ev.Burn
open Go Go.Ev
set_option maxRecDepth 1000000
set_option linter.unusedVariables false
abbrev Ag := List AV → Hp → Option (Out × List AV × Hp)
abbrev Ws := List (Int × Int)
abbrev lI (l : List Int) : AV := .sl (.int .i64) l false
abbrev lU (l : List Int) : AV := .sl (.int .u64) l false
abbrev lL (l : List (List Int)) : AV := .sl (.ilist .i64) l false
abbrev lW (l : Ws) : AV := .sl (.pair .i64) l false
abbrev aH (n : Int) (ws : Ws) : AV := .agg [.sc (.int .i64 n), .sl (.pair .i64) ws false] false
abbrev rH (n : Int) (ws : Ws) (t : TypeId) : Row := ⟨[.sc (.int .i64 n), .sl (.pair .i64) ws false], true, t, false, false, none⟩
abbrev ps (r : Nat) : AV := .ps r 0 0 0
def tyI (l : List Int) : TypeId := match l with
  | [] => 0
  | _ => 3
def tyL (l : List (List Int)) : TypeId := match l with
  | [] => 0
  | _ => 25
abbrev rowL (l : List (List Int)) (t : TypeId) : Row := ⟨[.run (.ilist .i64) l], false, t, false, false, none⟩
abbrev rI (l : List Int) : Row := rowI l (tyI l)
abbrev rL (l : List (List Int)) : Row := rowL l (tyL l)
def c67t (n lo hi : Int) : Tree (AV × Hp) := .leaf (vb (Brn.inR n lo hi), [])
def c67 (args : List AV) (H : Hp) : Tree (AV × Hp) := match args, H with
  | [(.sc (.int .i64 n)), (.sc (.int .i64 lo)), (.sc (.int .i64 hi))], [] => c67t n lo hi
  | _, _ => .fail
theorem c67_ok {T : Tab} (hT : TabOK T) (h : ∀ (n lo hi : Int) (r : AV × Hp), (c67t n lo hi).val = some r → evBody T 67 [vi n, vi lo, vi hi] [] = some r) : ∀ args H v H', (c67 args H).val = some (v, H') → CallOK T 67 args H v H' := by
  intro args H v H' hv
  unfold c67 at hv
  split at hv
  · exact evBody_sound hT (h _ _ _ _ hv)
  · cases hv
def c80t (n lo hi : Int) : Tree (AV × Hp) := .leaf (vb (Brn.inR n lo hi), [])
def c80 (args : List AV) (H : Hp) : Tree (AV × Hp) := match args, H with
  | [(.sc (.int .i64 n)), (.sc (.int .i64 lo)), (.sc (.int .i64 hi))], [] => c80t n lo hi
  | _, _ => .fail
theorem c80_ok {T : Tab} (hT : TabOK T) (h : ∀ (n lo hi : Int) (r : AV × Hp), (c80t n lo hi).val = some r → evBody T 80 [vi n, vi lo, vi hi] [] = some r) : ∀ args H v H', (c80 args H).val = some (v, H') → CallOK T 80 args H v H' := by
  intro args H v H' hv
  unfold c80 at hv
  split at hv
  · exact evBody_sound hT (h _ _ _ _ hv)
  · cases hv
def l95_2t (l : List Int) (n : Int) : Tree (Out × List AV × Hp) := .br (sm l) (.br (Brn.has l n) (.leaf (.ret, [lI l, vi n, vb true, vi (l.findIdx fun x => x == n)], [])) (.leaf (.ext 0, [lI l, vi n, vb false, vi l.length], []))) .fail
def l95_2 (base : Nat) (kv : List AV) (H : Hp) : Tree (Out × List AV × Hp) := match Nat.beq base 0, kv, H with
  | true, [(.sl (.int .i64) l false), (.sc (.int .i64 n)), (.sc (.bool false)), (.sc (.int .i64 0))], [] => l95_2t l n
  | _, _, _ => .fail
theorem l95_2_ok {T : Tab} (hT : TabOK T) (hlo : loopOf T.fn 95 2 = some (lpc T 95 2)) (h : ∀ (l : List Int) (n : Int) (r : Out × List AV × Hp), (l95_2t l n).val = some r → ∃ mm, lpRun T 95 2 0 (lpc T 95 2) mm [lI l, vi n, vb false, vi 0] [] = some r) : ∀ base kv H o kv' H', (l95_2 base kv H).val = some (o, kv', H') → LoopOK T 95 2 base kv H o kv' H' := by
  intro base kv H o kv' H' hv
  unfold l95_2 at hv
  split at hv
  · rename_i hb
    obtain rfl := Nat.eq_of_beq_eq_true hb
    exact loop_ok hT hlo (h _ _ _ hv)
  · cases hv
def l75_2t (l : Ws) (a b : Int) : Tree (Out × List AV × Hp) := .br (sm l) (.br (Brn.way l a b) (.leaf (.ret, [lW l, vi a, vi b, vb true, vi (l.findIdx fun w => [w.1, w.2] == [a, b])], [])) (.leaf (.ext 0, [lW l, vi a, vi b, vb false, vi l.length], []))) .fail
def l75_2 (base : Nat) (kv : List AV) (H : Hp) : Tree (Out × List AV × Hp) := match Nat.beq base 0, kv, H with
  | true, [(.sl (.pair .i64) l false), (.sc (.int .i64 a)), (.sc (.int .i64 b)), (.sc (.bool false)), (.sc (.int .i64 0))], [] => l75_2t l a b
  | _, _, _ => .fail
theorem l75_2_ok {T : Tab} (hT : TabOK T) (hlo : loopOf T.fn 75 2 = some (lpc T 75 2)) (h : ∀ (l : Ws) (a b : Int) (r : Out × List AV × Hp), (l75_2t l a b).val = some r → ∃ mm, lpRun T 75 2 0 (lpc T 75 2) mm [lW l, vi a, vi b, vb false, vi 0] [] = some r) : ∀ base kv H o kv' H', (l75_2 base kv H).val = some (o, kv', H') → LoopOK T 75 2 base kv H o kv' H' := by
  intro base kv H o kv' H' hv
  unfold l75_2 at hv
  split at hv
  · rename_i hb
    obtain rfl := Nat.eq_of_beq_eq_true hb
    exact loop_ok hT hlo (h _ _ _ _ hv)
  · cases hv
def c95t (l : List Int) (n : Int) : Tree (AV × Hp) := .br (sm l) (.leaf (vb (Brn.has l n), [])) .fail
def c95 (args : List AV) (H : Hp) : Tree (AV × Hp) := match args, H with
  | [(.sl (.int .i64) l false), (.sc (.int .i64 n))], [] => c95t l n
  | _, _ => .fail
theorem c95_ok {T : Tab} (hT : TabOK T) (h : ∀ (l : List Int) (n : Int) (r : AV × Hp), (c95t l n).val = some r → evBody T 95 [lI l, vi n] [] = some r) : ∀ args H v H', (c95 args H).val = some (v, H') → CallOK T 95 args H v H' := by
  intro args H v H' hv
  unfold c95 at hv
  split at hv
  · exact evBody_sound hT (h _ _ _ hv)
  · cases hv
def c75t (l : Ws) (a b : Int) : Tree (AV × Hp) := .br (sm l) (.leaf (vb (Brn.way l a b), [])) .fail
def c75 (args : List AV) (H : Hp) : Tree (AV × Hp) := match args, H with
  | [(.sl (.pair .i64) l false), (.sc (.int .i64 a)), (.sc (.int .i64 b))], [] => c75t l a b
  | _, _ => .fail
theorem c75_ok {T : Tab} (hT : TabOK T) (h : ∀ (l : Ws) (a b : Int) (r : AV × Hp), (c75t l a b).val = some r → evBody T 75 [lW l, vi a, vi b] [] = some r) : ∀ args H v H', (c75 args H).val = some (v, H') → CallOK T 75 args H v H' := by
  intro args H v H' hv
  unfold c75 at hv
  split at hv
  · exact evBody_sound hT (h _ _ _ _ hv)
  · cases hv
theorem nf67 (n lo hi : Int) : evBody T0 67 [vi n, vi lo, vi hi] [] = (bif decide (n ≥ lo) then some (vb (decide (n ≤ hi)), []) else some (vb false, [])) := by kernel_rfl
theorem nf80 (n lo hi : Int) : evBody T0 80 [vi n, vi lo, vi hi] [] = (bif decide (lo ≤ n) then some (vb (decide (n ≤ hi)), []) else some (vb false, [])) := by kernel_rfl
theorem nl95 (again : Ag) (l : List Int) (n i : Int) : lpStep T0 95 2 0 (lpc T0 95 2) again [lI l, vi n, vb false, vi i] [] = (bif decide (i < (↑l.length : Int)) then bif decide (0 ≤ i) then bif decide (i < (↑l.length : Int)) then oM l[i.toNat]? fun x => bif x == n then some (.ret, [.sl (.int .i64) l false, vi n, vb true, vi i], []) else again [.sl (.int .i64) l false, vi n, vb false, vi (IntKind.i64.wrap (i + 1))] [] else none else none else some (.ext 0, [.sl (.int .i64) l false, vi n, vb false, vi i], [])) := by kernel_rfl
theorem nl75 (again : Ag) (l : List (Int × Int)) (a b i : Int) : lpStep T0 75 2 0 (lpc T0 75 2) again [lW l, vi a, vi b, vb false, vi i] [] = (bif decide (i < (↑l.length : Int)) then bif decide (0 ≤ i) then bif decide (i < (↑l.length : Int)) then oM l[i.toNat]? fun x => bif [x.fst, x.snd] == ((List.replicate 2 0).set 0 a).set 1 b then some (.ret, [.sl (.pair .i64) l false, vi a, vi b, vb true, vi i], []) else again [.sl (.pair .i64) l false, vi a, vi b, vb false, vi (IntKind.i64.wrap (i + 1))] [] else none else none else some (.ext 0, [.sl (.pair .i64) l false, vi a, vi b, vb false, vi i], [])) := by kernel_rfl
noncomputable def T1 : Tab := ((((T0).addCall 67 c67).addCall 80 c80).addLoop 95 2 l95_2).addLoop 75 2 l75_2
theorem nf95 (l : List Int) (n : Int) : evBody T1 95 [lI l, vi n] [] = (bif sm l then bif Brn.has l n then some (vb true, []) else some (vb false, []) else none) := by kernel_rfl
theorem nf75 (l : Ws) (a b : Int) : evBody T1 75 [lW l, vi a, vi b] [] = (bif sm l then bif Brn.way l a b then some (vb true, []) else some (vb false, []) else none) := by kernel_rfl
noncomputable def T2 : Tab := ((T1).addCall 95 c95).addCall 75 c75
def l96_7t (l : List Int) (n : Int) (ws : Ws) (out : List Int) (k : Nat) (ty : TypeId) (p : Int) (is : Bool) : Tree (Out × List AV × Hp) := .br (sm l && sm ws) (.leaf (.ext 2, [lI l, ps 0, osW 1 k, vi p, vb (is || l.any fun q => Brn.way ws (min p q) (max p q)), vi l.length], [some (rH n ws 28), some (rowI out ty)])) .fail
def l96_7 (base : Nat) (kv : List AV) (H : Hp) : Tree (Out × List AV × Hp) := match Nat.beq base 0, kv, H with
  | true, [(.sl (.int .i64) l false), (.ps 0 0 0 0), (.os 1 0 0 k true false true), (.sc (.int .i64 p)), (.sc (.bool is)), (.sc (.int .i64 0))], [some ⟨[.sc (.int .i64 n), .sl (.pair .i64) ws false], true, 28, false, false, none⟩, some ⟨[.run (.int .i64) out], false, ty, false, false, none⟩] => l96_7t l n ws out k ty p is
  | _, _, _ => .fail
theorem l96_7_ok {T : Tab} (hT : TabOK T) (hlo : loopOf T.fn 96 7 = some (lpc T 96 7)) (h : ∀ (l : List Int) (n : Int) (ws : Ws) (out : List Int) (k : Nat) (ty : TypeId) (p : Int) (is : Bool) (r : Out × List AV × Hp), (l96_7t l n ws out k ty p is).val = some r → ∃ mm, lpRun T 96 7 0 (lpc T 96 7) mm [lI l, ps 0, osW 1 k, vi p, vb is, vi 0] [some (rH n ws 28), some (rowI out ty)] = some r) : ∀ base kv H o kv' H', (l96_7 base kv H).val = some (o, kv', H') → LoopOK T 96 7 base kv H o kv' H' := by
  intro base kv H o kv' H' hv
  unfold l96_7 at hv
  split at hv
  · rename_i hb
    obtain rfl := Nat.eq_of_beq_eq_true hb
    exact loop_ok hT hlo (h _ _ _ _ _ _ _ _ _ hv)
  · cases hv
theorem nl96_7 (again : Ag) (l : List Int) (n : Int) (ws : Ws) (out : List Int) (k : Nat) (ty : TypeId) (p : Int) (is : Bool) (i : Int) : lpStep T2 96 7 0 (lpc T2 96 7) again [lI l, ps 0, osW 1 k, vi p, vb is, vi i] [some (rH n ws 28), some (rowI out ty)] = (bif decide (i < (↑l.length : Int)) then bif is then again [.sl (.int .i64) l false, .ps 0 0 0 0, osW 1 k, vi p, vb true, vi (IntKind.i64.wrap (i + 1))] [some ⟨[vi n, .sl (.pair .i64) ws false], true, 28, false, false, none⟩, some ⟨[.run (.int .i64) out], false, ty, false, false, none⟩] else bif decide (0 ≤ i) then bif decide (i < (↑l.length : Int)) then oM l[i.toNat]? fun x => bif decide (0 ≤ i) then bif decide (i < (↑l.length : Int)) then oM l[i.toNat]? fun x_1 => bif sm ws then again [.sl (.int .i64) l false, .ps 0 0 0 0, osW 1 k, vi p, vb (Brn.way ws (if x < p then x else p) (if x_1 > p then x_1 else p)), vi (IntKind.i64.wrap (i + 1))] [some ⟨[vi n, .sl (.pair .i64) ws false], true, 28, false, false, none⟩, some ⟨[.run (.int .i64) out], false, ty, false, false, none⟩] else none else none else none else none else none else some (.ext 2, [.sl (.int .i64) l false, .ps 0 0 0 0, osW 1 k, vi p, vb is, vi i], [some ⟨[vi n, .sl (.pair .i64) ws false], true, 28, false, false, none⟩, some ⟨[.run (.int .i64) out], false, ty, false, false, none⟩])) := by kernel_rfl
noncomputable def T3 : Tab := (T2).addLoop 96 7 l96_7
def l96_3t (l : List Int) (n : Int) (ws : Ws) : Tree (Out × List AV × Hp) := .br (sm l && sm ws && decide (n ≤ 100)) (.leaf (.ext 0, [lI l, ps 0, osW 1 (Brn.spread n ws l).length, vi n.toNat], [some (rH n ws 28), some (rI (Brn.spread n ws l))])) .fail
def l96_3 (base : Nat) (kv : List AV) (H : Hp) : Tree (Out × List AV × Hp) := match Nat.beq base 0, kv, H with
  | true, [(.sl (.int .i64) l false), (.ps 0 0 0 0), (.os 1 0 0 0 true false true), (.sc (.int .i64 0))], [some ⟨[.sc (.int .i64 n), .sl (.pair .i64) ws false], true, 28, false, false, none⟩, some ⟨[.run (.int .i64) []], false, 0, false, false, none⟩] => l96_3t l n ws
  | _, _, _ => .fail
theorem l96_3_ok {T : Tab} (hT : TabOK T) (hlo : loopOf T.fn 96 3 = some (lpc T 96 3)) (h : ∀ (l : List Int) (n : Int) (ws : Ws) (r : Out × List AV × Hp), (l96_3t l n ws).val = some r → ∃ mm, lpRun T 96 3 0 (lpc T 96 3) mm [lI l, ps 0, osW 1 0, vi 0] [some (rH n ws 28), some (rowI [] 0)] = some r) : ∀ base kv H o kv' H', (l96_3 base kv H).val = some (o, kv', H') → LoopOK T 96 3 base kv H o kv' H' := by
  intro base kv H o kv' H' hv
  unfold l96_3 at hv
  split at hv
  · rename_i hb
    obtain rfl := Nat.eq_of_beq_eq_true hb
    exact loop_ok hT hlo (h _ _ _ _ hv)
  · cases hv
theorem nl96_3 (again : Ag) (l : List Int) (n : Int) (ws : Ws) (out : List Int) (k : Nat) (ty : TypeId) (p : Int) : lpStep T3 96 3 0 (lpc T3 96 3) again [lI l, ps 0, osW 1 k, vi p] [some (rH n ws 28), some (rowI out ty)] = (bif decide (p < n) then bif sm l then bif sm l && sm ws then bif Brn.has l p || l.any fun q => Brn.way ws (Min.min p q) (Max.max p q) then bif room (k + 1) 8 then again [.sl (.int .i64) l false, .ps 0 0 0 0, osW 1 (k + 1), vi (IntKind.i64.wrap (p + 1))] [some ⟨[vi n, .sl (.pair .i64) ws false], true, 28, false, false, none⟩, some ⟨[.run (.int .i64) (out ++ [p])], false, 3, false, false, none⟩] else none else again [.sl (.int .i64) l false, .ps 0 0 0 0, osW 1 k, vi (IntKind.i64.wrap (p + 1))] [some ⟨[vi n, .sl (.pair .i64) ws false], true, 28, false, false, none⟩, some ⟨[.run (.int .i64) out], false, ty, false, false, none⟩] else none else none else some (.ext 0, [.sl (.int .i64) l false, .ps 0 0 0 0, osW 1 k, vi p], [some ⟨[vi n, .sl (.pair .i64) ws false], true, 28, false, false, none⟩, some ⟨[.run (.int .i64) out], false, ty, false, false, none⟩])) := by kernel_rfl
noncomputable def T4 : Tab := (T3).addLoop 96 3 l96_3
theorem nf96 (l : List Int) (n : Int) (ws : Ws) : evBody T4 96 [aH n ws, lI l] [] = (bif sm l && sm ws && decide (n ≤ 100) then some (.os 0 0 0 (Brn.spread n ws l).length true false true, [some ⟨[.run (.int .i64) (Brn.spread n ws l)], false, Burn.tyI (Brn.spread n ws l), false, false, none⟩]) else none) := by kernel_rfl
def c96t (l : List Int) (n : Int) (ws : Ws) : Tree (AV × Hp) := .br (sm l && sm ws && decide (n ≤ 100)) (.leaf (osW 0 (Brn.spread n ws l).length, [some (rI (Brn.spread n ws l))])) .fail
def c96 (args : List AV) (H : Hp) : Tree (AV × Hp) := match args, H with
  | [(.agg [.sc (.int .i64 n), .sl (.pair .i64) ws false] false), (.sl (.int .i64) l false)], [] => c96t l n ws
  | _, _ => .fail
theorem c96_ok {T : Tab} (hT : TabOK T) (h : ∀ (l : List Int) (n : Int) (ws : Ws) (r : AV × Hp), (c96t l n ws).val = some r → evBody T 96 [aH n ws, lI l] [] = some r) : ∀ args H v H', (c96 args H).val = some (v, H') → CallOK T 96 args H v H' := by
  intro args H v H' hv
  unfold c96 at hv
  split at hv
  · exact evBody_sound hT (h _ _ _ _ hv)
  · cases hv
noncomputable def T5 : Tab := (T4).addCall 96 c96
end Go.Ev.Burn
namespace Go.Ev.Burn
open Go Go.Ev
set_option maxRecDepth 1000000
set_option linter.unusedVariables false
abbrev sT (l : List Int) : AV := .sl (.int .i64) l true
theorem nl70a (again : Ag) (place : Int) (n : Int) (ws : Ws) (most i : Int) : lpStep T5 70 3 0 (lpc T5 70 3) again [vi most, ps 0, sT [place], vi i] [some (rH n ws 28)] = (bif decide (i < most) then bif decide (i < n) then bif sm [place] && sm ws && decide (n ≤ 100) then again [vi most, .ps 0 0 0 0, .os 1 0 0 (Brn.spread n ws [place]).length true false true, vi (IntKind.i64.wrap (i + 1))] [some ⟨[vi n, .sl (.pair .i64) ws false], true, 28, false, false, none⟩, some ⟨[.run (.int .i64) (Brn.spread n ws [place])], false, Burn.tyI (Brn.spread n ws [place]), false, false, none⟩] else none else some (.ext 0, [vi most, .ps 0 0 0 0, .sl (.int .i64) [place] true, vi i], [some ⟨[vi n, .sl (.pair .i64) ws false], true, 28, false, false, none⟩]) else some (.ext 0, [vi most, .ps 0 0 0 0, .sl (.int .i64) [place] true, vi i], [some ⟨[vi n, .sl (.pair .i64) ws false], true, 28, false, false, none⟩])) := by kernel_rfl
theorem nl70 (again : Ag) (l : List Int) (n : Int) (ws : Ws) (most i : Int) (ty : TypeId) : lpStep T5 70 3 0 (lpc T5 70 3) again [vi most, ps 0, osW 1 l.length, vi i] [some (rH n ws 28), some (rowI l ty)] = (bif decide (i < most) then bif decide (i < n) then bif sm l && sm ws && decide (n ≤ 100) then again [vi most, .ps 0 0 0 0, .os 1 0 0 (Brn.spread n ws l).length true false true, vi (IntKind.i64.wrap (i + 1))] [some ⟨[vi n, .sl (.pair .i64) ws false], true, 28, false, false, none⟩, some ⟨[.run (.int .i64) (Brn.spread n ws l)], false, Burn.tyI (Brn.spread n ws l), false, false, none⟩] else none else some (.ext 0, [vi most, .ps 0 0 0 0, osW 1 l.length, vi i], [some ⟨[vi n, .sl (.pair .i64) ws false], true, 28, false, false, none⟩, some ⟨[.run (.int .i64) l], false, ty, false, false, none⟩]) else some (.ext 0, [vi most, .ps 0 0 0 0, osW 1 l.length, vi i], [some ⟨[vi n, .sl (.pair .i64) ws false], true, 28, false, false, none⟩, some ⟨[.run (.int .i64) l], false, ty, false, false, none⟩])) := by kernel_rfl
def l70_3t (n : Int) (ws : Ws) (most place : Int) : Tree (Out × List AV × Hp) := .br (sm ws && decide (n ≤ 100)) (.br (decide (0 < (min most n))) (.leaf (.ext 0, [vi most, ps 0, osW 1 (Brn.near n ws place most).length, vi (min most n)], [some (rH n ws 28), some (rI (Brn.near n ws place most))])) (.leaf (.ext 0, [vi most, ps 0, sT [place], vi 0], [some (rH n ws 28)]))) .fail
def l70_3 (base : Nat) (kv : List AV) (H : Hp) : Tree (Out × List AV × Hp) := match Nat.beq base 0, kv, H with
  | true, [(.sc (.int .i64 most)), (.ps 0 0 0 0), (.sl (.int .i64) [place] true), (.sc (.int .i64 0))], [some ⟨[.sc (.int .i64 n), .sl (.pair .i64) ws false], true, 28, false, false, none⟩] => l70_3t n ws most place
  | _, _, _ => .fail
theorem l70_3_ok {T : Tab} (hT : TabOK T) (hlo : loopOf T.fn 70 3 = some (lpc T 70 3)) (h : ∀ (n : Int) (ws : Ws) (most place : Int) (r : Out × List AV × Hp), (l70_3t n ws most place).val = some r → ∃ mm, lpRun T 70 3 0 (lpc T 70 3) mm [vi most, ps 0, sT [place], vi 0] [some (rH n ws 28)] = some r) : ∀ base kv H o kv' H', (l70_3 base kv H).val = some (o, kv', H') → LoopOK T 70 3 base kv H o kv' H' := by
  intro base kv H o kv' H' hv
  unfold l70_3 at hv
  split at hv
  · rename_i hb
    obtain rfl := Nat.eq_of_beq_eq_true hb
    exact loop_ok hT hlo (h _ _ _ _ _ hv)
  · cases hv
theorem nl26 (again : Ag) (n : Int) (ws : Ws) (i : Int) : lpStep T5 26 6 0 (lpc T5 26 6) again [ps 0, vi 0, vi i] [some (rH n ws 28)] = (bif decide (i < (↑(List.length ws) : Int)) then bif decide (0 ≤ i) then bif decide (i < (↑(List.length ws) : Int)) then oM ws[i.toNat]? fun x => bif !Brn.inR x.fst 0 (IntKind.i64.wrap (n - 1)) then some (.ret, [.ps 0 0 0 0, vi 2, vi i], [some ⟨[vi n, .sl (.pair .i64) ws false], true, 28, false, false, none⟩]) else bif !Brn.inR x.snd 0 (IntKind.i64.wrap (n - 1)) then some (.ret, [.ps 0 0 0 0, vi 2, vi i], [some ⟨[vi n, .sl (.pair .i64) ws false], true, 28, false, false, none⟩]) else bif decide (x.fst ≥ x.snd) then some (.ret, [.ps 0 0 0 0, vi 7, vi i], [some ⟨[vi n, .sl (.pair .i64) ws false], true, 28, false, false, none⟩]) else bif decide (0 ≤ i) then bif decide (i ≤ (↑(List.length ws) : Int)) then bif sm (List.take i.toNat ws) then bif Brn.way (List.take i.toNat ws) x.fst x.snd then some (.ret, [.ps 0 0 0 0, vi 6, vi i], [some ⟨[vi n, .sl (.pair .i64) ws false], true, 28, false, false, none⟩]) else again [.ps 0 0 0 0, vi 0, vi (IntKind.i64.wrap (i + 1))] [some ⟨[vi n, .sl (.pair .i64) ws false], true, 28, false, false, none⟩] else none else none else none else none else none else some (.ext 0, [.ps 0 0 0 0, vi 0, vi i], [some ⟨[vi n, .sl (.pair .i64) ws false], true, 28, false, false, none⟩])) := by kernel_rfl
def l26_6t (n : Int) (ws : Ws) : Tree (Out × List AV × Hp) := .br (sm ws && decide (1 ≤ n) && decide (n ≤ 9)) (.br (Brn.waysErr n ws == 0) (.leaf (.ext 0, [ps 0, vi 0, vi ws.length], [some (rH n ws 28)])) (.leaf (.ret, [ps 0, vi (Brn.waysErr n ws), vi (Brn.waysE n [] ws 0).2], [some (rH n ws 28)]))) .fail
def l26_6 (base : Nat) (kv : List AV) (H : Hp) : Tree (Out × List AV × Hp) := match Nat.beq base 0, kv, H with
  | true, [(.ps 0 0 0 0), (.sc (.int .i64 0)), (.sc (.int .i64 0))], [some ⟨[.sc (.int .i64 n), .sl (.pair .i64) ws false], true, 28, false, false, none⟩] => l26_6t n ws
  | _, _, _ => .fail
theorem l26_6_ok {T : Tab} (hT : TabOK T) (hlo : loopOf T.fn 26 6 = some (lpc T 26 6)) (h : ∀ (n : Int) (ws : Ws) (r : Out × List AV × Hp), (l26_6t n ws).val = some r → ∃ mm, lpRun T 26 6 0 (lpc T 26 6) mm [ps 0, vi 0, vi 0] [some (rH n ws 28)] = some r) : ∀ base kv H o kv' H', (l26_6 base kv H).val = some (o, kv', H') → LoopOK T 26 6 base kv H o kv' H' := by
  intro base kv H o kv' H' hv
  unfold l26_6 at hv
  split at hv
  · rename_i hb
    obtain rfl := Nat.eq_of_beq_eq_true hb
    exact loop_ok hT hlo (h _ _ _ hv)
  · cases hv
noncomputable def T6 : Tab := ((T5).addLoop 70 3 l70_3).addLoop 26 6 l26_6
theorem nf70 (n : Int) (ws : Ws) (place most : Int) : evBody T6 70 [aH n ws, vi place, vi most] [] = (bif sm ws && decide (n ≤ 100) then bif decide (0 < Min.min most n) then some (.os 0 0 0 (Brn.near n ws place most).length true false true, [some ⟨[.run (.int .i64) (Brn.near n ws place most)], false, Burn.tyI (Brn.near n ws place most), false, false, none⟩]) else some (.sl (.int .i64) [place] true, []) else none) := by kernel_rfl
def c70t (n : Int) (ws : Ws) (place most : Int) : Tree (AV × Hp) := .br (sm ws && decide (n ≤ 100)) (.br (decide (0 < (min most n))) (.leaf (osW 0 (Brn.near n ws place most).length, [some (rI (Brn.near n ws place most))])) (.leaf (sT [place], []))) .fail
def c70 (args : List AV) (H : Hp) : Tree (AV × Hp) := match args, H with
  | [(.agg [.sc (.int .i64 n), .sl (.pair .i64) ws false] false), (.sc (.int .i64 place)), (.sc (.int .i64 most))], [] => c70t n ws place most
  | _, _ => .fail
theorem c70_ok {T : Tab} (hT : TabOK T) (h : ∀ (n : Int) (ws : Ws) (place most : Int) (r : AV × Hp), (c70t n ws place most).val = some r → evBody T 70 [aH n ws, vi place, vi most] [] = some r) : ∀ args H v H', (c70 args H).val = some (v, H') → CallOK T 70 args H v H' := by
  intro args H v H' hv
  unfold c70 at hv
  split at hv
  · exact evBody_sound hT (h _ _ _ _ _ hv)
  · cases hv
noncomputable def T7 : Tab := (T6).addCall 70 c70
theorem nf26 (n : Int) (ws : Ws) : evBody T7 26 [aH n ws] [] = (bif !Brn.inR n 1 9 then some (vi 1, []) else bif decide ((↑(List.length ws) : Int) > 12) then some (vi 3, []) else bif sm ws && decide (1 ≤ n) && decide (n ≤ 9) then bif Brn.waysErr n ws == 0 then bif sm ws && decide (n ≤ 100) then bif decide (0 < Min.min n n) then bif decide ((↑(Brn.near n ws 0 n).length : Int) < n) then some (vi 5, []) else some (vi 0, []) else bif decide ((↑1 : Int) < n) then some (vi 5, []) else some (vi 0, []) else none else some (vi (Brn.waysErr n ws), []) else none) := by kernel_rfl
theorem nl68 (again : Ag) (n : Int) (ws : Ws) (a b i : Int) : lpStep T7 68 2 0 (lpc T7 68 2) again [vi a, vi b, ps 0, vi i] [some (rH n ws 28)] = (bif sm ws && decide (n ≤ 100) then bif decide (0 < Min.min i n) then bif sm (Brn.near n ws a i) then bif !Brn.has (Brn.near n ws a i) b then again [vi a, vi b, .ps 0 0 0 0, vi (IntKind.i64.wrap (i + 1))] [some ⟨[vi n, .sl (.pair .i64) ws false], true, 28, false, false, none⟩] else some (.ext 0, [vi a, vi b, .ps 0 0 0 0, vi i], [some ⟨[vi n, .sl (.pair .i64) ws false], true, 28, false, false, none⟩]) else none else bif !Brn.has [a] b then again [vi a, vi b, .ps 0 0 0 0, vi (IntKind.i64.wrap (i + 1))] [some ⟨[vi n, .sl (.pair .i64) ws false], true, 28, false, false, none⟩] else some (.ext 0, [vi a, vi b, .ps 0 0 0 0, vi i], [some ⟨[vi n, .sl (.pair .i64) ws false], true, 28, false, false, none⟩]) else none) := by kernel_rfl
def c26t (n : Int) (ws : Ws) : Tree (AV × Hp) := .br (sm ws) (.leaf (vi (Brn.chk n ws), [])) .fail
def c26 (args : List AV) (H : Hp) : Tree (AV × Hp) := match args, H with
  | [(.agg [.sc (.int .i64 n), .sl (.pair .i64) ws false] false)], [] => c26t n ws
  | _, _ => .fail
theorem c26_ok {T : Tab} (hT : TabOK T) (h : ∀ (n : Int) (ws : Ws) (r : AV × Hp), (c26t n ws).val = some r → evBody T 26 [aH n ws] [] = some r) : ∀ args H v H', (c26 args H).val = some (v, H') → CallOK T 26 args H v H' := by
  intro args H v H' hv
  unfold c26 at hv
  split at hv
  · exact evBody_sound hT (h _ _ _ hv)
  · cases hv
def l68_2t (n : Int) (ws : Ws) (a b : Int) : Tree (Out × List AV × Hp) := .br (sm ws && decide (n ≤ 100) && decide (Brn.farN n ws a b < 10)) (.leaf (.ext 0, [vi a, vi b, ps 0, vi (Brn.farN n ws a b)], [some (rH n ws 28)])) .fail
def l68_2 (base : Nat) (kv : List AV) (H : Hp) : Tree (Out × List AV × Hp) := match Nat.beq base 0, kv, H with
  | true, [(.sc (.int .i64 a)), (.sc (.int .i64 b)), (.ps 0 0 0 0), (.sc (.int .i64 0))], [some ⟨[.sc (.int .i64 n), .sl (.pair .i64) ws false], true, 28, false, false, none⟩] => l68_2t n ws a b
  | _, _, _ => .fail
theorem l68_2_ok {T : Tab} (hT : TabOK T) (hlo : loopOf T.fn 68 2 = some (lpc T 68 2)) (h : ∀ (n : Int) (ws : Ws) (a b : Int) (r : Out × List AV × Hp), (l68_2t n ws a b).val = some r → ∃ mm, lpRun T 68 2 0 (lpc T 68 2) mm [vi a, vi b, ps 0, vi 0] [some (rH n ws 28)] = some r) : ∀ base kv H o kv' H', (l68_2 base kv H).val = some (o, kv', H') → LoopOK T 68 2 base kv H o kv' H' := by
  intro base kv H o kv' H' hv
  unfold l68_2 at hv
  split at hv
  · rename_i hb
    obtain rfl := Nat.eq_of_beq_eq_true hb
    exact loop_ok hT hlo (h _ _ _ _ _ hv)
  · cases hv
noncomputable def T8 : Tab := ((T7).addCall 26 c26).addLoop 68 2 l68_2
theorem nf68 (n : Int) (ws : Ws) (a b : Int) : evBody T8 68 [aH n ws, vi a, vi b] [] = (bif sm ws && decide (n ≤ 100) && decide (Brn.farN n ws a b < 10) then some (vi (↑(Brn.farN n ws a b) : Int), []) else none) := by kernel_rfl
def c68t (n : Int) (ws : Ws) (a b : Int) : Tree (AV × Hp) := .br (sm ws && decide (n ≤ 100) && decide (Brn.farN n ws a b < 10)) (.leaf (vi (Brn.farN n ws a b), [])) .fail
def c68 (args : List AV) (H : Hp) : Tree (AV × Hp) := match args, H with
  | [(.agg [.sc (.int .i64 n), .sl (.pair .i64) ws false] false), (.sc (.int .i64 a)), (.sc (.int .i64 b))], [] => c68t n ws a b
  | _, _ => .fail
theorem c68_ok {T : Tab} (hT : TabOK T) (h : ∀ (n : Int) (ws : Ws) (a b : Int) (r : AV × Hp), (c68t n ws a b).val = some r → evBody T 68 [aH n ws, vi a, vi b] [] = some r) : ∀ args H v H', (c68 args H).val = some (v, H') → CallOK T 68 args H v H' := by
  intro args H v H' hv
  unfold c68 at hv
  split at hv
  · exact evBody_sound hT (h _ _ _ _ _ hv)
  · cases hv
theorem nl73 (again : Ag) (n : Int) (ws : Ws) (fires : List Int) (e i : Int) : lpStep T8 73 7 0 (lpc T8 73 7) again [lI fires, ps 0, vi e, vi i] [some (rH n ws 28)] = (bif decide (i < (↑fires.length : Int)) then bif e == 0 then bif decide (0 ≤ i) then bif decide (i < (↑fires.length : Int)) then oM fires[i.toNat]? fun x => bif !Brn.inR x 0 (IntKind.i64.wrap (n - 1)) then again [.sl (.int .i64) fires false, .ps 0 0 0 0, vi 2, vi (IntKind.i64.wrap (i + 1))] [some ⟨[vi n, .sl (.pair .i64) ws false], true, 28, false, false, none⟩] else again [.sl (.int .i64) fires false, .ps 0 0 0 0, vi e, vi (IntKind.i64.wrap (i + 1))] [some ⟨[vi n, .sl (.pair .i64) ws false], true, 28, false, false, none⟩] else none else none else some (.ext 0, [.sl (.int .i64) fires false, .ps 0 0 0 0, vi e, vi i], [some ⟨[vi n, .sl (.pair .i64) ws false], true, 28, false, false, none⟩]) else some (.ext 0, [.sl (.int .i64) fires false, .ps 0 0 0 0, vi e, vi i], [some ⟨[vi n, .sl (.pair .i64) ws false], true, 28, false, false, none⟩])) := by kernel_rfl
def l73_7t (n : Int) (ws : Ws) (fires : List Int) (e : Int) : Tree (Out × List AV × Hp) := .br (sm fires) (.br (e == 0) (.br (decide (1 ≤ n) && decide (n ≤ 9)) (.br (fires.all fun p => Brn.inR p 0 (n - 1)) (.leaf (.ext 0, [lI fires, ps 0, vi 0, vi fires.length], [some (rH n ws 28)])) (.leaf (.ext 0, [lI fires, ps 0, vi 2, vi ((fires.findIdx fun p => !Brn.inR p 0 (n - 1)) + 1 : Nat)], [some (rH n ws 28)]))) .fail) (.leaf (.ext 0, [lI fires, ps 0, vi e, vi 0], [some (rH n ws 28)]))) .fail
def l73_7 (base : Nat) (kv : List AV) (H : Hp) : Tree (Out × List AV × Hp) := match Nat.beq base 0, kv, H with
  | true, [(.sl (.int .i64) fires false), (.ps 0 0 0 0), (.sc (.int .i64 e)), (.sc (.int .i64 0))], [some ⟨[.sc (.int .i64 n), .sl (.pair .i64) ws false], true, 28, false, false, none⟩] => l73_7t n ws fires e
  | _, _, _ => .fail
theorem l73_7_ok {T : Tab} (hT : TabOK T) (hlo : loopOf T.fn 73 7 = some (lpc T 73 7)) (h : ∀ (n : Int) (ws : Ws) (fires : List Int) (e : Int) (r : Out × List AV × Hp), (l73_7t n ws fires e).val = some r → ∃ mm, lpRun T 73 7 0 (lpc T 73 7) mm [lI fires, ps 0, vi e, vi 0] [some (rH n ws 28)] = some r) : ∀ base kv H o kv' H', (l73_7 base kv H).val = some (o, kv', H') → LoopOK T 73 7 base kv H o kv' H' := by
  intro base kv H o kv' H' hv
  unfold l73_7 at hv
  split at hv
  · rename_i hb
    obtain rfl := Nat.eq_of_beq_eq_true hb
    exact loop_ok hT hlo (h _ _ _ _ _ hv)
  · cases hv
theorem nl74_9 (again : Ag) (n : Int) (ws : Ws) (fires l now : List Int) (out : List (List Int)) (i p : Int) (k k3 : Nat) (t1 t2 t3 : TypeId) : lpStep T8 74 9 0 (lpc T8 74 9) again [lI fires, ps 0, osW 1 k, osW 2 now.length, vi i, osW 3 k3, vi p] [some (rH n ws 28), some (rowL out t1), some (rowI now t2), some (rowI l t3)] = (bif decide (p < n) then bif sm l then bif Brn.has l p then bif room (now.length + 1) 8 then again [.sl (.int .i64) fires false, .ps 0 0 0 0, osW 1 k, osW 2 (now.length + 1), vi i, osW 3 k3, vi (IntKind.i64.wrap (p + 1))] [some ⟨[vi n, .sl (.pair .i64) ws false], true, 28, false, false, none⟩, some ⟨[.run (.ilist .i64) out], false, t1, false, false, none⟩, some ⟨[.run (.int .i64) (now ++ [p])], false, 3, false, false, none⟩, some ⟨[.run (.int .i64) l], false, t3, false, false, none⟩] else none else again [.sl (.int .i64) fires false, .ps 0 0 0 0, osW 1 k, osW 2 now.length, vi i, osW 3 k3, vi (IntKind.i64.wrap (p + 1))] [some ⟨[vi n, .sl (.pair .i64) ws false], true, 28, false, false, none⟩, some ⟨[.run (.ilist .i64) out], false, t1, false, false, none⟩, some ⟨[.run (.int .i64) now], false, t2, false, false, none⟩, some ⟨[.run (.int .i64) l], false, t3, false, false, none⟩] else none else some (.ext 2, [.sl (.int .i64) fires false, .ps 0 0 0 0, osW 1 k, osW 2 now.length, vi i, osW 3 k3, vi p], [some ⟨[vi n, .sl (.pair .i64) ws false], true, 28, false, false, none⟩, some ⟨[.run (.ilist .i64) out], false, t1, false, false, none⟩, some ⟨[.run (.int .i64) now], false, t2, false, false, none⟩, some ⟨[.run (.int .i64) l], false, t3, false, false, none⟩])) := by kernel_rfl
def l74_9t (n : Int) (ws : Ws) (fires l : List Int) (out : List (List Int)) (i : Int) (k k3 : Nat) (t1 t3 : TypeId) : Tree (Out × List AV × Hp) := .br (sm l && decide (n ≤ 100)) (.leaf (.ext 2, [lI fires, ps 0, osW 1 k, osW 2 ((Brn.irange n).filter (Brn.has l)).length, vi i, osW 3 k3, vi n.toNat], [some (rH n ws 28), some (rowL out t1), some (rI ((Brn.irange n).filter (Brn.has l))), some (rowI l t3)])) .fail
def l74_9 (base : Nat) (kv : List AV) (H : Hp) : Tree (Out × List AV × Hp) := match Nat.beq base 0, kv, H with
  | true, [(.sl (.int .i64) fires false), (.ps 0 0 0 0), (.os 1 0 0 k true false true), (.os 2 0 0 0 true false true), (.sc (.int .i64 i)), (.os 3 0 0 k3 true false true), (.sc (.int .i64 0))], [some ⟨[.sc (.int .i64 n), .sl (.pair .i64) ws false], true, 28, false, false, none⟩, some ⟨[.run (.ilist .i64) out], false, t1, false, false, none⟩, some ⟨[.run (.int .i64) []], false, 0, false, false, none⟩, some ⟨[.run (.int .i64) l], false, t3, false, false, none⟩] => l74_9t n ws fires l out i k k3 t1 t3
  | _, _, _ => .fail
theorem l74_9_ok {T : Tab} (hT : TabOK T) (hlo : loopOf T.fn 74 9 = some (lpc T 74 9)) (h : ∀ (n : Int) (ws : Ws) (fires l : List Int) (out : List (List Int)) (i : Int) (k k3 : Nat) (t1 t3 : TypeId) (r : Out × List AV × Hp), (l74_9t n ws fires l out i k k3 t1 t3).val = some r → ∃ mm, lpRun T 74 9 0 (lpc T 74 9) mm [lI fires, ps 0, osW 1 k, osW 2 0, vi i, osW 3 k3, vi 0] [some (rH n ws 28), some (rowL out t1), some (rowI [] 0), some (rowI l t3)] = some r) : ∀ base kv H o kv' H', (l74_9 base kv H).val = some (o, kv', H') → LoopOK T 74 9 base kv H o kv' H' := by
  intro base kv H o kv' H' hv
  unfold l74_9 at hv
  split at hv
  · rename_i hb
    obtain rfl := Nat.eq_of_beq_eq_true hb
    exact loop_ok hT hlo (h _ _ _ _ _ _ _ _ _ _ _ hv)
  · cases hv
noncomputable def T9 : Tab := (((T8).addCall 68 c68).addLoop 73 7 l73_7).addLoop 74 9 l74_9
theorem nf18 (n : Int) (ws : Ws) (a b : Int) : evBody T9 18 [aH n ws, vi a, vi b] [] = (bif sm ws then bif Brn.chk n ws == 0 then bif !Brn.inR a 0 (IntKind.i64.wrap (n - 1)) then some (.tuple [vi 0, vi 2], []) else bif !Brn.inR b 0 (IntKind.i64.wrap (n - 1)) then some (.tuple [vi 0, vi 2], []) else bif Brn.chk n ws != 0 then some (.tuple [vi 0, vi (Brn.chk n ws)], []) else bif sm ws && decide (n ≤ 100) && decide (Brn.farN n ws a b < 10) then some (.tuple [vi (↑(Brn.farN n ws a b) : Int), vi 0], []) else none else bif Brn.chk n ws != 0 then some (.tuple [vi 0, vi (Brn.chk n ws)], []) else bif sm ws && decide (n ≤ 100) && decide (Brn.farN n ws a b < 10) then some (.tuple [vi (↑(Brn.farN n ws a b) : Int), vi 0], []) else none else none) := by kernel_rfl
theorem nf20 (n : Int) (ws : Ws) (a b : Int) : evBody T9 20 [aH n ws, vi a, vi b] [] = (bif sm ws then bif Brn.chk n ws == 0 then bif !Brn.inR a 0 (IntKind.i64.wrap (n - 1)) then some (.tuple [osW 0 0, vi 2], [some ⟨[.run (.int .i64) []], false, 0, false, false, none⟩]) else bif Brn.chk n ws == 0 then bif decide (b < 0) then some (.tuple [osW 0 0, vi 1], [some ⟨[.run (.int .i64) []], false, 0, false, false, none⟩]) else bif Brn.chk n ws != 0 then some (.tuple [osW 0 0, vi (Brn.chk n ws)], [some ⟨[.run (.int .i64) []], false, 0, false, false, none⟩]) else bif sm ws && decide (n ≤ 100) then bif decide (0 < Min.min b n) then some (.tuple [.os 0 0 0 (Brn.near n ws a b).length true false true, vi 0], [some { c := [.run (.int .i64) (Brn.near n ws a b)], vr := false, ty := Burn.tyI (Brn.near n ws a b), fz := false, loose := false : Row }]) else some (.tuple [.sl (.int .i64) [a] true, vi 0], []) else none else bif Brn.chk n ws != 0 then some (.tuple [osW 0 0, vi (Brn.chk n ws)], [some ⟨[.run (.int .i64) []], false, 0, false, false, none⟩]) else bif sm ws && decide (n ≤ 100) then bif decide (0 < Min.min b n) then some (.tuple [.os 0 0 0 (Brn.near n ws a b).length true false true, vi 0], [some ⟨[.run (.int .i64) (Brn.near n ws a b)], false, Burn.tyI (Brn.near n ws a b), false, false, none⟩]) else some (.tuple [.sl (.int .i64) [a] true, vi 0], []) else none else bif Brn.chk n ws == 0 then bif decide (b < 0) then some (.tuple [osW 0 0, vi 1], [some ⟨[.run (.int .i64) []], false, 0, false, false, none⟩]) else bif Brn.chk n ws != 0 then some (.tuple [osW 0 0, vi (Brn.chk n ws)], [some ⟨[.run (.int .i64) []], false, 0, false, false, none⟩]) else bif sm ws && decide (n ≤ 100) then bif decide (0 < Min.min b n) then some (.tuple [.os 0 0 0 (Brn.near n ws a b).length true false true, vi 0], [some ⟨[.run (.int .i64) (Brn.near n ws a b)], false, Burn.tyI (Brn.near n ws a b), false, false, none⟩]) else some (.tuple [.sl (.int .i64) [a] true, vi 0], []) else none else bif Brn.chk n ws != 0 then some (.tuple [osW 0 0, vi (Brn.chk n ws)], [some ⟨[.run (.int .i64) []], false, 0, false, false, none⟩]) else bif sm ws && decide (n ≤ 100) then bif decide (0 < Min.min b n) then some (.tuple [.os 0 0 0 (Brn.near n ws a b).length true false true, vi 0], [some ⟨[.run (.int .i64) (Brn.near n ws a b)], false, Burn.tyI (Brn.near n ws a b), false, false, none⟩]) else some (.tuple [.sl (.int .i64) [a] true, vi 0], []) else none else none) := by kernel_rfl
theorem nf73 (n : Int) (ws : Ws) (fires : List Int) : evBody T9 73 [aH n ws, lI fires] [] = (bif sm ws then bif Brn.chk n ws == 0 then bif (↑fires.length : Int) == 0 then bif sm fires then some (vi 4, []) else none else bif Brn.chk n ws == 0 then bif decide ((↑fires.length : Int) > 9) then bif sm fires then some (vi 3, []) else none else bif sm fires then bif Brn.chk n ws == 0 then bif decide (1 ≤ n) && decide (n ≤ 9) then bif fires.all fun p => Brn.inR p 0 (n - 1) then some (vi 0, []) else some (vi 2, []) else none else some (vi (Brn.chk n ws), []) else none else bif sm fires then bif Brn.chk n ws == 0 then bif decide (1 ≤ n) && decide (n ≤ 9) then bif fires.all fun p => Brn.inR p 0 (n - 1) then some (vi 0, []) else some (vi 2, []) else none else some (vi (Brn.chk n ws), []) else none else bif Brn.chk n ws == 0 then bif decide ((↑fires.length : Int) > 9) then bif sm fires then some (vi 3, []) else none else bif sm fires then bif Brn.chk n ws == 0 then bif decide (1 ≤ n) && decide (n ≤ 9) then bif fires.all fun p => Brn.inR p 0 (n - 1) then some (vi 0, []) else some (vi 2, []) else none else some (vi (Brn.chk n ws), []) else none else bif sm fires then bif Brn.chk n ws == 0 then bif decide (1 ≤ n) && decide (n ≤ 9) then bif fires.all fun p => Brn.inR p 0 (n - 1) then some (vi 0, []) else some (vi 2, []) else none else some (vi (Brn.chk n ws), []) else none else none) := by kernel_rfl
abbrev rowZ (l : List Int) (t : TypeId) (z : Bool) : Row := ⟨[.run (.int .i64) l], false, t, z, false, none⟩
theorem nl74_4 (again : Ag) (n : Int) (ws : Ws) (fires now : List Int) (out : List (List Int)) (i : Int) (t1 t2 : TypeId) (z : Bool) : lpStep T9 74 4 0 (lpc T9 74 4) again [lI fires, ps 0, osW 1 out.length, osW 2 now.length, vi i] [some (rH n ws 28), some (rowL out t1), some (rowZ now t2 z)] = (bif decide (i < (↑fires.length : Int)) then bif sm now && sm ws && decide (n ≤ 100) then bif decide (0 ≤ i) then bif decide (i < (↑fires.length : Int)) then oM fires[i.toNat]? fun x => bif room ((Brn.spread n ws now).length + 1) 8 then bif sm (Brn.spread n ws now ++ [x]) && decide (n ≤ 100) then bif room (out.length + 1) 24 then again [.sl (.int .i64) fires false, .ps 0 0 0 0, osW 1 (out.length + 1), .os 2 0 0 (List.filter (Brn.has (Brn.spread n ws now ++ [x])) (Brn.irange n)).length true false true, vi (IntKind.i64.wrap (i + 1))] [some ⟨[vi n, .sl (.pair .i64) ws false], true, 28, false, false, none⟩, some ⟨[.run (.ilist .i64) (out ++ [List.filter (Brn.has (Brn.spread n ws now ++ [x])) (Brn.irange n)])], false, 25, false, false, none⟩, some ⟨[.run (.int .i64) (List.filter (Brn.has (Brn.spread n ws now ++ [x])) (Brn.irange n))], false, Burn.tyI (List.filter (Brn.has (Brn.spread n ws now ++ [x])) (Brn.irange n)), true, false, none⟩] else none else none else none else none else none else none else some (.ext 0, [.sl (.int .i64) fires false, .ps 0 0 0 0, osW 1 out.length, osW 2 now.length, vi i], [some ⟨[vi n, .sl (.pair .i64) ws false], true, 28, false, false, none⟩, some ⟨[.run (.ilist .i64) out], false, t1, false, false, none⟩, some ⟨[.run (.int .i64) now], false, t2, z, false, none⟩])) := by kernel_rfl
def c73t (n : Int) (ws : Ws) (fires : List Int) : Tree (AV × Hp) := .br (sm ws && sm fires) (.leaf (vi (Brn.laidErr n ws fires), [])) .fail
def c73 (args : List AV) (H : Hp) : Tree (AV × Hp) := match args, H with
  | [(.agg [.sc (.int .i64 n), .sl (.pair .i64) ws false] false), (.sl (.int .i64) fires false)], [] => c73t n ws fires
  | _, _ => .fail
theorem c73_ok {T : Tab} (hT : TabOK T) (h : ∀ (n : Int) (ws : Ws) (fires : List Int) (r : AV × Hp), (c73t n ws fires).val = some r → evBody T 73 [aH n ws, lI fires] [] = some r) : ∀ args H v H', (c73 args H).val = some (v, H') → CallOK T 73 args H v H' := by
  intro args H v H' hv
  unfold c73 at hv
  split at hv
  · exact evBody_sound hT (h _ _ _ _ hv)
  · cases hv
def l74_4t (n : Int) (ws : Ws) (fires : List Int) : Tree (Out × List AV × Hp) := .br (sm ws && sm fires && decide (n ≤ 100)) (.leaf (.ext 0, [lI fires, ps 0, osW 1 (Brn.burntR n ws [] fires).length, osW 2 (fires.foldl (Brn.dayNext n ws) []).length, vi fires.length], [some (rH n ws 28), some (rL (Brn.burntR n ws [] fires)), some (rowZ (fires.foldl (Brn.dayNext n ws) []) (tyI (fires.foldl (Brn.dayNext n ws) [])) (!fires.isEmpty))])) .fail
def l74_4 (base : Nat) (kv : List AV) (H : Hp) : Tree (Out × List AV × Hp) := match Nat.beq base 0, kv, H with
  | true, [(.sl (.int .i64) fires false), (.ps 0 0 0 0), (.os 1 0 0 0 true false true), (.os 2 0 0 0 true false true), (.sc (.int .i64 0))], [some ⟨[.sc (.int .i64 n), .sl (.pair .i64) ws false], true, 28, false, false, none⟩, some ⟨[.run (.ilist .i64) []], false, 0, false, false, none⟩, some ⟨[.run (.int .i64) []], false, 0, false, false, none⟩] => l74_4t n ws fires
  | _, _, _ => .fail
theorem l74_4_ok {T : Tab} (hT : TabOK T) (hlo : loopOf T.fn 74 4 = some (lpc T 74 4)) (h : ∀ (n : Int) (ws : Ws) (fires : List Int) (r : Out × List AV × Hp), (l74_4t n ws fires).val = some r → ∃ mm, lpRun T 74 4 0 (lpc T 74 4) mm [lI fires, ps 0, osW 1 0, osW 2 0, vi 0] [some (rH n ws 28), some (rowL [] 0), some (rowI [] 0)] = some r) : ∀ base kv H o kv' H', (l74_4 base kv H).val = some (o, kv', H') → LoopOK T 74 4 base kv H o kv' H' := by
  intro base kv H o kv' H' hv
  unfold l74_4 at hv
  split at hv
  · rename_i hb
    obtain rfl := Nat.eq_of_beq_eq_true hb
    exact loop_ok hT hlo (h _ _ _ _ hv)
  · cases hv
noncomputable def T10 : Tab := ((T9).addCall 73 c73).addLoop 74 4 l74_4
theorem nf74 (n : Int) (ws : Ws) (fires : List Int) : evBody T10 74 [aH n ws, lI fires] [] = (bif sm ws && sm fires && decide (n ≤ 100) then some (.os 0 0 0 (Brn.burntR n ws [] fires).length true false true, [some ⟨[.run (.ilist .i64) (Brn.burntR n ws [] fires)], false, Burn.tyL (Brn.burntR n ws [] fires), false, false, none⟩]) else none) := by kernel_rfl
def c74t (n : Int) (ws : Ws) (fires : List Int) : Tree (AV × Hp) := .br (sm ws && sm fires && decide (n ≤ 100)) (.leaf (osW 0 (Brn.burntR n ws [] fires).length, [some (rL (Brn.burntR n ws [] fires))])) .fail
def c74 (args : List AV) (H : Hp) : Tree (AV × Hp) := match args, H with
  | [(.agg [.sc (.int .i64 n), .sl (.pair .i64) ws false] false), (.sl (.int .i64) fires false)], [] => c74t n ws fires
  | _, _ => .fail
theorem c74_ok {T : Tab} (hT : TabOK T) (h : ∀ (n : Int) (ws : Ws) (fires : List Int) (r : AV × Hp), (c74t n ws fires).val = some r → evBody T 74 [aH n ws, lI fires] [] = some r) : ∀ args H v H', (c74 args H).val = some (v, H') → CallOK T 74 args H v H' := by
  intro args H v H' hv
  unfold c74 at hv
  split at hv
  · exact evBody_sound hT (h _ _ _ _ hv)
  · cases hv
noncomputable def T11 : Tab := (T10).addCall 74 c74
theorem nf22 (n : Int) (ws : Ws) (fires : List Int) : evBody T11 22 [aH n ws, lI fires] [] = (bif sm ws && sm fires then bif Brn.laidErr n ws fires != 0 then some (.tuple [osW 0 0, vi (Brn.laidErr n ws fires)], [some ⟨[.run (.ilist .i64) []], false, 0, false, false, none⟩]) else bif sm ws && sm fires && decide (n ≤ 100) then some (.tuple [.os 0 0 0 (Brn.burntR n ws [] fires).length true false true, vi 0], [some ⟨[.run (.ilist .i64) (Brn.burntR n ws [] fires)], false, Burn.tyL (Brn.burntR n ws [] fires), false, false, none⟩]) else none else none) := by kernel_rfl
theorem nf77 (n : Int) (ws : Ws) (fires : List Int) : evBody T11 77 [aH n ws, lI fires] [] = (bif sm ws && sm fires && decide (n ≤ 100) then bif decide (0 ≤ IntKind.i64.wrap ((↑fires.length : Int) - 1)) then bif decide (IntKind.i64.wrap ((↑fires.length : Int) - 1) < (↑(Brn.burntR n ws [] fires).length : Int)) then oM (Brn.burntR n ws [] fires)[(IntKind.i64.wrap ((↑fires.length : Int) - 1)).toNat]? fun x => some (vb ((↑(List.length x) : Int) == n), []) else none else none else none) := by kernel_rfl
def c77t (n : Int) (ws : Ws) (fires : List Int) : Tree (AV × Hp) := .br (sm ws && sm fires && decide (1 ≤ n) && decide (n ≤ 100) && decide (0 < fires.length)) (.leaf (vb (decide (((fires.foldl (Brn.dayNext n ws) []).length : Int) = n)), [])) .fail
def c77 (args : List AV) (H : Hp) : Tree (AV × Hp) := match args, H with
  | [(.agg [.sc (.int .i64 n), .sl (.pair .i64) ws false] false), (.sl (.int .i64) fires false)], [] => c77t n ws fires
  | _, _ => .fail
theorem c77_ok {T : Tab} (hT : TabOK T) (h : ∀ (n : Int) (ws : Ws) (fires : List Int) (r : AV × Hp), (c77t n ws fires).val = some r → evBody T 77 [aH n ws, lI fires] [] = some r) : ∀ args H v H', (c77 args H).val = some (v, H') → CallOK T 77 args H v H' := by
  intro args H v H' hv
  unfold c77 at hv
  split at hv
  · exact evBody_sound hT (h _ _ _ _ hv)
  · cases hv
noncomputable def T12 : Tab := (T11).addCall 77 c77
theorem nf28 (n : Int) (ws : Ws) (fires : List Int) : evBody T12 28 [aH n ws, lI fires] [] = (bif sm ws && sm fires then bif Brn.laidErr n ws fires == 0 then bif sm ws && sm fires && decide (1 ≤ n) && decide (n ≤ 100) && decide (0 < fires.length) then bif !decide ((↑(List.foldl (Brn.dayNext n ws) [] fires).length : Int) = n) then some (vi 14, []) else some (vi (Brn.laidErr n ws fires), []) else none else some (vi (Brn.laidErr n ws fires), []) else none) := by kernel_rfl
end Go.Ev.Burn
namespace Go.Ev.Burn
open Go Go.Ev
set_option maxRecDepth 1000000
set_option linter.unusedVariables false
theorem mn (p q : Int) : (if q < p then q else p) = min p q := by rw [Int.min_def]; split <;> split <;> omega
theorem mx (p q : Int) : (if q > p then q else p) = max p q := by rw [Int.max_def]; split <;> split <;> omega
theorem foldl_or {α : Type} (f : α → Bool) : ∀ (l : List α) (b : Bool), l.foldl (fun b x => b || f x) b = (b || l.any f)
  | [], b => by simp
  | x :: l, b => by simp only [List.foldl_cons, foldl_or f l, List.any_cons, Bool.or_assoc]
theorem tyI_snoc (l : List Int) (x : Int) : tyI (l ++ [x]) = 3 := by cases l <;> rfl
theorem fns_ok : ∀ f fn, T0.fn f = some fn → T0.P.funcs[f]? = some fn ∧ fnOK fn = true := fun _ _ h => fnsOf_spec h
theorem mixed_ok : T0.P.follows .mixedOrders = true := by kernel_rfl
theorem T0_ok : TabOK T0 := TabOK.bare fns_ok mixed_ok
theorem c67_run : ∀ args H v H', (c67 args H).val = some (v, H') → CallOK T0 67 args H v H' := c67_ok T0_ok (by
  intro n lo hi r hv
  rw [leaf_val hv, nf67, Brn.inR]
  by_cases h : lo ≤ n <;> simp [h])
theorem c80_run : ∀ args H v H', (c80 args H).val = some (v, H') → CallOK T0 80 args H v H' := c80_ok T0_ok (by
  intro n lo hi r hv
  rw [leaf_val hv, nf80, Brn.inR]
  by_cases h : lo ≤ n <;> simp [h])
theorem l95_2_run : ∀ base kv H o kv' H', (l95_2 base kv H).val = some (o, kv', H') → LoopOK T0 95 2 base kv H o kv' H' := l95_2_ok T0_ok (by kernel_rfl) (by
  intro l n r hv
  obtain ⟨hl, hv⟩ := guard_val hv
  have := sm_le hl
  obtain ⟨m, hm⟩ := scan_of (T := T0) (fid := 95) (lid := 2) (base := 0) (c := lpc T0 95 2) l (fun x => x == n) (fun i => [lI l, vi n, vb false, vi i]) [] (fun i => (.ret, [lI l, vi n, vb true, vi i], [])) (.ext 0, [lI l, vi n, vb false, vi l.length], [])
    (fun i x hx hlt again => by
      rw [nl95]
      simp only [dec_lt hlt, dec_ge, cond_true, toNat_cast, hx, oM]
      rw [wrap_succ (by omega)])
    (fun again => by
      rw [nl95]
      simp only [dec_ll, cond_false])
  refine ⟨m, hm.trans ?_⟩
  unfold Brn.has at hv
  rcases br_val hv with ⟨h, hv⟩ | ⟨h, hv⟩ <;> rw [leaf_val hv, h] <;> rfl)
theorem l75_2_run : ∀ base kv H o kv' H', (l75_2 base kv H).val = some (o, kv', H') → LoopOK T0 75 2 base kv H o kv' H' := l75_2_ok T0_ok (by kernel_rfl) (by
  intro l a b r hv
  obtain ⟨hl, hv⟩ := guard_val hv
  have := sm_le hl
  obtain ⟨m, hm⟩ := scan_of (T := T0) (fid := 75) (lid := 2) (base := 0) (c := lpc T0 75 2) l (fun w => [w.1, w.2] == [a, b]) (fun i => [lW l, vi a, vi b, vb false, vi i]) [] (fun i => (.ret, [lW l, vi a, vi b, vb true, vi i], [])) (.ext 0, [lW l, vi a, vi b, vb false, vi l.length], [])
    (fun i x hx hlt again => by
      rw [nl75]
      simp only [dec_lt hlt, dec_ge, cond_true, toNat_cast, hx, oM]
      rw [wrap_succ (by omega)]
      rfl)
    (fun again => by
      rw [nl75]
      simp only [dec_ll, cond_false])
  refine ⟨m, hm.trans ?_⟩
  unfold Brn.way at hv
  rcases br_val hv with ⟨h, hv⟩ | ⟨h, hv⟩ <;> rw [leaf_val hv, h] <;> rfl)
theorem T1_ok : TabOK T1 := by
  have h := T0_ok
  have h := h.addCall (g := 67) (r := c67) fun a H v H' hv => by refine CallOK.tab ?_ ?_ (c67_run a H v H' hv) <;> rfl
  have h := h.addCall (g := 80) (r := c80) fun a H v H' hv => by refine CallOK.tab ?_ ?_ (c80_run a H v H' hv) <;> rfl
  have h := h.addLoop (g := 95) (lid := 2) (r := l95_2) fun b k H o k' H' hv => by refine LoopOK.tab ?_ ?_ ?_ ?_ (l95_2_run b k H o k' H' hv) <;> rfl
  have h := h.addLoop (g := 75) (lid := 2) (r := l75_2) fun b k H o k' H' hv => by refine LoopOK.tab ?_ ?_ ?_ ?_ (l75_2_run b k H o k' H' hv) <;> rfl
  exact h
theorem c95_run : ∀ args H v H', (c95 args H).val = some (v, H') → CallOK T1 95 args H v H' := c95_ok T1_ok (by
  intro l n r hv
  obtain ⟨hl, hv⟩ := guard_val hv
  rw [leaf_val hv, nf95]
  rw [cond_t hl]
  cases Brn.has l n <;> rfl)
theorem c75_run : ∀ args H v H', (c75 args H).val = some (v, H') → CallOK T1 75 args H v H' := c75_ok T1_ok (by
  intro l a b r hv
  obtain ⟨hl, hv⟩ := guard_val hv
  rw [leaf_val hv, nf75]
  rw [cond_t hl]
  cases Brn.way l a b <;> rfl)
theorem T2_ok : TabOK T2 := by
  have h := T1_ok
  have h := h.addCall (g := 95) (r := c95) fun a H v H' hv => by refine CallOK.tab ?_ ?_ (c95_run a H v H' hv) <;> rfl
  have h := h.addCall (g := 75) (r := c75) fun a H v H' hv => by refine CallOK.tab ?_ ?_ (c75_run a H v H' hv) <;> rfl
  exact h
theorem l96_7_run : ∀ base kv H o kv' H', (l96_7 base kv H).val = some (o, kv', H') → LoopOK T2 96 7 base kv H o kv' H' := l96_7_ok T2_ok (by kernel_rfl) (by
  intro l n ws out k ty p is r hv
  obtain ⟨hl, hv⟩ := guard_val hv
  rw [Bool.and_eq_true] at hl
  obtain ⟨hl, hws⟩ := hl
  have := sm_le hl
  obtain ⟨m, hm⟩ := fold_of (T := T2) (fid := 96) (lid := 7) (base := 0) (c := lpc T2 96 7) l (fun _ _ => True) (fun (is : Bool) q => is || Brn.way ws (min p q) (max p q))
    (fun i is => [lI l, ps 0, osW 1 k, vi p, vb is, vi i]) (fun _ => [some (rH n ws 28), some (rowI out ty)])
    (fun is => (.ext 2, [lI l, ps 0, osW 1 k, vi p, vb is, vi l.length], [some (rH n ws 28), some (rowI out ty)]))
    (fun i x s hx hlt _ again => by
      rw [nl96_7]
      simp only [dec_lt hlt, dec_ge, cond_true, toNat_cast, hx, oM, hws]
      rw [wrap_succ (by omega)]
      cases s
      · simp only [cond_false, Bool.false_or, mn, mx]
      · rfl)
    (fun _ _ _ _ _ _ => trivial)
    (fun s _ again => by
      rw [nl96_7]
      simp only [dec_ll, cond_false]) is trivial
  refine ⟨m, hm.trans ?_⟩
  rw [leaf_val hv, foldl_or])
theorem T3_ok : TabOK T3 := by
  have h := T2_ok
  have h := h.addLoop (g := 96) (lid := 7) (r := l96_7) fun b k H o k' H' hv => by refine LoopOK.tab ?_ ?_ ?_ ?_ (l96_7_run b k H o k' H' hv) <;> rfl
  exact h
theorem l96_3_run : ∀ base kv H o kv' H', (l96_3 base kv H).val = some (o, kv', H') → LoopOK T3 96 3 base kv H o kv' H' := l96_3_ok T3_ok (by kernel_rfl) (by
  intro l n ws r hv
  obtain ⟨hl, hv⟩ := guard_val hv
  simp only [Bool.and_eq_true, decide_eq_true_eq] at hl
  obtain ⟨⟨hl, hws⟩, hn⟩ := hl
  have h1 := Brn.irange_len n
  obtain ⟨m, hm⟩ := fold_of (T := T3) (fid := 96) (lid := 3) (base := 0) (c := lpc T3 96 3) (Brn.irange n) (fun i s => s.length ≤ i) (fun (s : List Int) p => bif Brn.next ws l p then s ++ [p] else s)
    (fun p s => [lI l, ps 0, osW 1 s.length, vi p]) (fun s => [some (rH n ws 28), some (rI s)])
    (fun s => (.ext 0, [lI l, ps 0, osW 1 s.length, vi n.toNat], [some (rH n ws 28), some (rI s)]))
    (fun i x s hx hlt hI again => by
      rw [nl96_3]
      have hxi := Brn.irange_get hx
      subst hxi
      have e1 : decide ((i : Int) < n) = true := decide_eq_true (by omega)
      have hr : room (s.length + 1) 8 = true := room_ok (by omega) (by omega)
      simp only [e1, hl, hws, Bool.and_self, cond_true]
      rw [wrap_succ (by omega)]
      show (bif Brn.next ws l i then _ else _) = _
      cases Brn.next ws l i
      · rfl
      · simp only [cond_true, List.length_cons, List.length_nil, Nat.zero_add, hr, rI, tyI_snoc, List.length_append])
    (fun i x s hx hlt hI => by
      cases h : Brn.next ws l x
      · simpa [h] using Nat.le_succ_of_le hI
      · simpa [h] using hI)
    (fun s hI again => by
      rw [nl96_3, h1]
      have e1 : decide ((n.toNat : Int) < n) = false := decide_eq_false (by omega)
      simp only [e1, cond_false]) [] (Nat.zero_le _)
  refine ⟨m, hm.trans ?_⟩
  rw [leaf_val hv, Brn.foldl_filter]
  rfl)
theorem T4_ok : TabOK T4 := by
  have h := T3_ok
  have h := h.addLoop (g := 96) (lid := 3) (r := l96_3) fun b k H o k' H' hv => by refine LoopOK.tab ?_ ?_ ?_ ?_ (l96_3_run b k H o k' H' hv) <;> rfl
  exact h
theorem c96_run : ∀ args H v H', (c96 args H).val = some (v, H') → CallOK T4 96 args H v H' := c96_ok T4_ok (by
  intro l n ws r hv
  obtain ⟨hl, hv⟩ := guard_val hv
  rw [leaf_val hv, nf96, cond_t hl])
theorem T5_ok : TabOK T5 := by
  have h := T4_ok
  have h := h.addCall (g := 96) (r := c96) fun a H v H' hv => by refine CallOK.tab ?_ ?_ (c96_run a H v H' hv) <;> rfl
  exact h
end Go.Ev.Burn
namespace Go.Ev.Burn
open Go Go.Ev
set_option maxRecDepth 1000000
set_option linter.unusedVariables false
theorem sm_of {α : Type} {l : List α} {k : Nat} (h : l.length ≤ k) (hk : k ≤ 100000) : sm l = true := decide_eq_true (Nat.le_trans h hk)
theorem l70_3_run : ∀ base kv H o kv' H', (l70_3 base kv H).val = some (o, kv', H') → LoopOK T5 70 3 base kv H o kv' H' := l70_3_ok T5_ok (by kernel_rfl) (by
  intro n ws most place r hv
  obtain ⟨hl, hv⟩ := guard_val hv
  simp only [Bool.and_eq_true, decide_eq_true_eq] at hl
  obtain ⟨hws, hn⟩ := hl
  have hd : decide (n ≤ 100) = true := decide_eq_true hn
  obtain ⟨m, hm⟩ := lpRun_of (T := T5) (fid := 70) (lid := 3) (base := 0) (c := lpc T5 70 3) (fun k : Nat => (k : Int) ≤ max (min most n) 0)
    (fun k => match k with
      | 0 => [vi most, ps 0, sT [place], vi 0]
      | k + 1 => [vi most, ps 0, osW 1 (Brn.nearK n ws place (k + 1)).length, vi ((k + 1 : Nat) : Int)])
    (fun k => match k with
      | 0 => [some (rH n ws 28)]
      | k + 1 => [some (rH n ws 28), some (rI (Brn.nearK n ws place (k + 1)))]) (fun _ => r) (fun k => 200 - k)
    (fun k hk again => by
      by_cases h1 : (k : Int) < min most n
      · refine .inr ⟨k + 1, by omega, by omega, rfl, ?_⟩
        have a1 : decide ((k : Int) < most) = true := decide_eq_true (by omega)
        have a2 : decide ((k : Int) < n) = true := decide_eq_true (by omega)
        cases k with
        | zero =>
          show lpStep T5 70 3 0 (lpc T5 70 3) again [vi most, ps 0, sT [place], vi ((0 : Nat) : Int)] [some (rH n ws 28)] = _
          rw [nl70a]
          simp only [a1, a2, cond_true, hws, hd, show sm [place] = true from rfl, Bool.and_self]
          rw [wrap_succ (by omega)]
          rfl
        | succ k =>
          show lpStep T5 70 3 0 (lpc T5 70 3) again [vi most, ps 0, osW 1 (Brn.nearK n ws place (k + 1)).length, vi ((k + 1 : Nat) : Int)] [some (rH n ws 28), some (rI (Brn.nearK n ws place (k + 1)))] = _
          have hs : sm (Brn.nearK n ws place (k + 1)) = true := sm_of (Brn.nearK_le n ws place k) (by omega)
          rw [nl70]
          simp only [a1, a2, cond_true, hws, hd, hs, Bool.and_self]
          rw [wrap_succ (by omega)]
          rfl
      · refine .inl ?_
        cases k with
        | zero =>
          have h0 : decide (0 < min most n) = false := decide_eq_false (by simpa using h1)
          rw [cond_f' h0] at hv
          have e : r = (.ext 0, [vi most, ps 0, sT [place], vi 0], [some (rH n ws 28)]) := leaf_val hv
          show lpStep T5 70 3 0 (lpc T5 70 3) again [vi most, ps 0, sT [place], vi 0] [some (rH n ws 28)] = _
          rw [nl70a, e]
          by_cases h2 : (0 : Int) < most
          · have a2 : decide ((0 : Int) < n) = false := decide_eq_false (by simp at h1; omega)
            simp only [decide_eq_true h2, a2, cond_true, cond_false]
          · simp only [decide_eq_false h2, cond_false]
        | succ k =>
          have hk' : ((k + 1 : Nat) : Int) = min most n := by omega
          have h0 : decide (0 < min most n) = true := decide_eq_true (by omega)
          rw [cond_t' h0] at hv
          have e := leaf_val hv
          have hN : Brn.near n ws place most = Brn.nearK n ws place (k + 1) := by
            unfold Brn.near; rw [show (min most n).toNat = k + 1 by omega]
          show lpStep T5 70 3 0 (lpc T5 70 3) again [vi most, ps 0, osW 1 (Brn.nearK n ws place (k + 1)).length, vi ((k + 1 : Nat) : Int)] [some (rH n ws 28), some (rI (Brn.nearK n ws place (k + 1)))] = _
          rw [nl70, e, hN, ← hk']
          by_cases h2 : ((k + 1 : Nat) : Int) < most
          · have a2 : decide (((k + 1 : Nat) : Int) < n) = false := decide_eq_false (by omega)
            simp only [decide_eq_true h2, a2, cond_true, cond_false]
          · simp only [decide_eq_false h2, cond_false]) 0 (by show ((0 : Nat) : Int) ≤ _; omega)
  exact ⟨m, hm⟩)
theorem l26_6_run : ∀ base kv H o kv' H', (l26_6 base kv H).val = some (o, kv', H') → LoopOK T5 26 6 base kv H o kv' H' := l26_6_ok T5_ok (by kernel_rfl) (by
  intro n ws r hv
  obtain ⟨hl, hv⟩ := guard_val hv
  simp only [Bool.and_eq_true, decide_eq_true_eq] at hl
  obtain ⟨⟨hws, hn1⟩, hn⟩ := hl
  have hwl := sm_le hws
  obtain ⟨m, hm⟩ := each_of (T := T5) (fid := 26) (lid := 6) (base := 0) (c := lpc T5 26 6) ws (fun i (s : Ws) => s = ws.take i)
    (fun i (s : Ws) w => bif Brn.wayErr n s w == 0 then .inr (s ++ [w]) else .inl (.ret, [ps 0, vi (Brn.wayErr n s w), vi i], [some (rH n ws 28)]))
    (fun i _ => [ps 0, vi 0, vi i]) (fun _ => [some (rH n ws 28)]) (fun _ => (.ext 0, [ps 0, vi 0, vi ws.length], [some (rH n ws 28)]))
    (fun i x s hx hlt hI again => by
      subst hI
      have b1 : decide ((i : Int) ≤ (ws.length : Int)) = true := decide_eq_true (by omega)
      have hs : sm (ws.take i) = true := sm_of (List.length_take_le i ws) (by omega)
      rw [nl26]
      simp only [dec_lt hlt, dec_ge, cond_true, toNat_cast, hx, oM, b1, hs, Brn.wayErr]
      rw [wrapi (x := n - 1) (by omega) (by omega), wrap_succ (by omega)]
      cases Brn.inR x.1 0 (n - 1) <;> cases Brn.inR x.2 0 (n - 1) <;> try rfl
      simp only [Bool.not_true, cond_false, ge_iff_le, Bool.or_self]
      by_cases h3 : x.2 ≤ x.1
      · simp only [h3, decide_true, cond_true]; rfl
      · simp only [h3, decide_false, cond_false]
        cases Brn.way (ws.take i) x.1 x.2 <;> rfl)
    (fun i x s s' hx hlt hI hf => by
      subst hI
      cases hc : Brn.wayErr n (ws.take i) x == 0
      · rw [hc] at hf; cases hf
      · rw [hc] at hf
        cases hf
        rw [List.take_add_one, hx]; rfl)
    (fun s hI again => by
      rw [nl26]
      simp only [dec_ll, cond_false]) [] rfl
  refine ⟨m, hm.trans ?_⟩
  have key : ∀ (l b : Ws) (i : Nat), i + l.length = ws.length → (endX (fun _ => ((.ext 0, [ps 0, vi 0, vi ws.length], [some (rH n ws 28)]) : Out × List AV × Hp)) (foldX (fun i (s : Ws) w => bif Brn.wayErr n s w == 0 then .inr (s ++ [w]) else .inl (.ret, [ps 0, vi (Brn.wayErr n s w), vi i], [some (rH n ws 28)])) i l b)) =
      bif (Brn.waysE n b l i).1 == 0 then (.ext 0, [ps 0, vi 0, vi ws.length], [some (rH n ws 28)]) else (.ret, [ps 0, vi (Brn.waysE n b l i).1, vi (Brn.waysE n b l i).2], [some (rH n ws 28)]) := by
    intro l
    induction l with
    | nil => intro b i h; rfl
    | cons w l ih =>
      intro b i h
      simp only [foldX, Brn.waysE]
      cases hc : Brn.wayErr n b w == 0
      · simp only [cond_false, endX, hc]
      · simp only [cond_true]
        exact ih _ _ (by simp only [List.length_cons] at h; omega)
  rw [key ws [] 0 (by omega)]
  unfold Brn.waysErr at hv
  rcases br_val hv with ⟨h, hv⟩ | ⟨h, hv⟩ <;> rw [leaf_val hv, h] <;> rfl)
theorem T6_ok : TabOK T6 := by
  have h := T5_ok
  have h := h.addLoop (g := 70) (lid := 3) (r := l70_3) fun b k H o k' H' hv => by refine LoopOK.tab ?_ ?_ ?_ ?_ (l70_3_run b k H o k' H' hv) <;> rfl
  have h := h.addLoop (g := 26) (lid := 6) (r := l26_6) fun b k H o k' H' hv => by refine LoopOK.tab ?_ ?_ ?_ ?_ (l26_6_run b k H o k' H' hv) <;> rfl
  exact h
theorem min_pos {most n : Int} (h : ¬ (0 < min most n)) (place : Int) (ws : Ws) : Brn.near n ws place most = [place] := by
  unfold Brn.near
  rw [show (min most n).toNat = 0 by omega]; rfl
theorem chk_range {n : Int} {ws : Ws} (h : Brn.inR n 1 9 = true) : 1 ≤ n ∧ n ≤ 9 := by
  simpa [Brn.inR] using h
theorem near_le (n : Int) (ws : Ws) (p m : Int) (hn : n ≤ 100) : (Brn.near n ws p m).length ≤ 100 := by
  unfold Brn.near
  cases (min m n).toNat with
  | zero => simp [Brn.nearK]
  | succ k => exact Brn.nearK_le n ws p k
theorem c70_run : ∀ args H v H', (c70 args H).val = some (v, H') → CallOK T6 70 args H v H' := c70_ok T6_ok (by
  intro n ws place most r hv
  obtain ⟨hl, hv⟩ := guard_val hv
  rw [nf70, cond_t hl]
  rcases br_val hv with ⟨h, hv⟩ | ⟨h, hv⟩ <;> rw [leaf_val hv, h] <;> rfl)
theorem T7_ok : TabOK T7 := by
  have h := T6_ok
  have h := h.addCall (g := 70) (r := c70) fun a H v H' hv => by refine CallOK.tab ?_ ?_ (c70_run a H v H' hv) <;> rfl
  exact h
theorem c26_run : ∀ args H v H', (c26 args H).val = some (v, H') → CallOK T7 26 args H v H' := c26_ok T7_ok (by
  intro n ws r hv
  obtain ⟨hl, hv⟩ := guard_val hv
  rw [leaf_val hv, nf26, Brn.chk]
  cases h1 : Brn.inR n 1 9 with
  | false => rfl
  | true =>
    obtain ⟨a, b⟩ := chk_range (ws := ws) h1
    have e1 : decide (1 ≤ n) = true := decide_eq_true a
    have e2 : decide (n ≤ 9) = true := decide_eq_true b
    have e3 : decide (n ≤ 100) = true := decide_eq_true (by omega)
    have e4 : decide (0 < min n n) = true := decide_eq_true (by omega)
    simp only [Bool.not_true, cond_false, hl, e1, e2, e3, e4, Bool.and_self, cond_true]
    by_cases h2 : 12 < ws.length
    · simp only [decide_eq_true h2, decide_eq_true (show ((ws.length : Int) > 12) by omega), cond_true]
    · simp only [decide_eq_false h2, decide_eq_false (show ¬ ((ws.length : Int) > 12) by omega), cond_false]
      cases Brn.waysErr n ws == 0
      · rfl
      · simp only [cond_true]
        cases decide (((Brn.near n ws 0 n).length : Int) < n) <;> rfl)
theorem l68_2_run : ∀ base kv H o kv' H', (l68_2 base kv H).val = some (o, kv', H') → LoopOK T7 68 2 base kv H o kv' H' := l68_2_ok T7_ok (by kernel_rfl) (by
  intro n ws a b r hv
  obtain ⟨hl, hv⟩ := guard_val hv
  simp only [Bool.and_eq_true, decide_eq_true_eq] at hl
  obtain ⟨⟨hws, hn⟩, hf⟩ := hl
  have hd : decide (n ≤ 100) = true := decide_eq_true hn
  obtain ⟨m, hm⟩ := lpRun_of (T := T7) (fid := 68) (lid := 2) (base := 0) (c := lpc T7 68 2) (fun k : Nat => k ≤ Brn.farN n ws a b)
    (fun k => [vi a, vi b, ps 0, vi k]) (fun _ => [some (rH n ws 28)]) (fun _ => (.ext 0, [vi a, vi b, ps 0, vi (Brn.farN n ws a b)], [some (rH n ws 28)])) (fun k => 10 - k)
    (fun k hk again => by
      have hs : sm (Brn.near n ws a k) = true := sm_of (near_le n ws a k hn) (by omega)
      have step : lpStep T7 68 2 0 (lpc T7 68 2) again [vi a, vi b, ps 0, vi k] [some (rH n ws 28)] = bif Brn.has (Brn.near n ws a k) b then some (.ext 0, [vi a, vi b, ps 0, vi k], [some (rH n ws 28)]) else again [vi a, vi b, ps 0, vi ((k + 1 : Nat) : Int)] [some (rH n ws 28)] := by
        rw [nl68]
        simp only [hws, hd, Bool.and_self, cond_true, hs]
        rw [wrap_succ (by omega)]
        by_cases h0 : 0 < min (k : Int) n
        · simp only [decide_eq_true h0, cond_true]
          cases Brn.has (Brn.near n ws a k) b <;> rfl
        · simp only [decide_eq_false h0, cond_false, min_pos h0]
          cases Brn.has [a] b <;> rfl
      rw [step]
      by_cases he : k = Brn.farN n ws a b
      · subst he
        have := List.findIdx_getElem (xs := List.range 10) (p := fun (k : Nat) => Brn.has (Brn.near n ws a (k : Int)) b) (w := by rw [List.length_range]; exact hf)
        simp only [List.getElem_range] at this
        exact .inl (by rw [show Brn.has (Brn.near n ws a (Brn.farN n ws a b : Nat)) b = true from this]; rfl)
      · refine .inr ⟨k + 1, by omega, by omega, rfl, ?_⟩
        have := List.not_of_lt_findIdx (xs := List.range 10) (p := fun (k : Nat) => Brn.has (Brn.near n ws a (k : Int)) b) (i := k) (show k < Brn.farN n ws a b by omega)
        simp only [List.getElem_range] at this
        rw [show Brn.has (Brn.near n ws a (k : Nat)) b = false by simpa using this]; rfl) 0 (Nat.zero_le _)
  refine ⟨m, hm.trans ?_⟩
  rw [leaf_val hv])
theorem T8_ok : TabOK T8 := by
  have h := T7_ok
  have h := h.addCall (g := 26) (r := c26) fun a H v H' hv => by refine CallOK.tab ?_ ?_ (c26_run a H v H' hv) <;> rfl
  have h := h.addLoop (g := 68) (lid := 2) (r := l68_2) fun b k H o k' H' hv => by refine LoopOK.tab ?_ ?_ ?_ ?_ (l68_2_run b k H o k' H' hv) <;> rfl
  exact h
theorem c68_run : ∀ args H v H', (c68 args H).val = some (v, H') → CallOK T8 68 args H v H' := c68_ok T8_ok (by
  intro n ws a b r hv
  obtain ⟨hl, hv⟩ := guard_val hv
  rw [leaf_val hv, nf68, cond_t hl])
theorem l73_7_run : ∀ base kv H o kv' H', (l73_7 base kv H).val = some (o, kv', H') → LoopOK T8 73 7 base kv H o kv' H' := l73_7_ok T8_ok (by kernel_rfl) (by
  intro n ws fires e r hv
  obtain ⟨hl, hv⟩ := guard_val hv
  have hfl := sm_le hl
  rcases br_val hv with ⟨he, hv⟩ | ⟨he, hv⟩
  · obtain ⟨hn, hv2⟩ := guard_val hv
    simp only [Bool.and_eq_true, decide_eq_true_eq] at hn
    obtain rfl : e = 0 := by simpa using he
    obtain ⟨m, hm⟩ := each_of (T := T8) (fid := 73) (lid := 7) (base := 0) (c := lpc T8 73 7) fires (fun i (s : Bool) => s = true → i < fires.length + 1)
      (fun i (s : Bool) p => bif s then .inl (.ext 0, [lI fires, ps 0, vi 2, vi i], [some (rH n ws 28)]) else bif Brn.inR p 0 (n - 1) then .inr false else .inr true)
      (fun i s => [lI fires, ps 0, vi (bif s then 2 else 0), vi i]) (fun _ => [some (rH n ws 28)])
      (fun s => (.ext 0, [lI fires, ps 0, vi (bif s then 2 else 0), vi fires.length], [some (rH n ws 28)]))
      (fun i x s hx hlt hI again => by
        rw [nl73]
        cases s
        · simp only [dec_lt hlt, dec_ge, cond_true, cond_false, toNat_cast, hx, oM, show ((0 : Int) == 0) = true from rfl]
          rw [wrapi (x := n - 1) (by omega) (by omega), wrap_succ (by omega)]
          cases Brn.inR x 0 (n - 1) <;> rfl
        · simp only [dec_lt hlt, cond_true, cond_false, show ((2 : Int) == 0) = false from rfl])
      (fun i x s s' hx hlt hI hf _ => by omega)
      (fun s hI again => by
        rw [nl73]
        simp only [dec_ll, cond_false]) false (by simp)
    refine ⟨m, hm.trans ?_⟩
    have key2 : ∀ (l : List Int) (i : Nat), i + l.length = fires.length → endX (fun s => ((.ext 0, [lI fires, ps 0, vi (bif s then 2 else 0), vi fires.length], [some (rH n ws 28)]) : Out × List AV × Hp)) (foldX (fun i (s : Bool) p => bif s then .inl (.ext 0, [lI fires, ps 0, vi 2, vi i], [some (rH n ws 28)]) else bif Brn.inR p 0 (n - 1) then .inr false else .inr true) i l true) = (.ext 0, [lI fires, ps 0, vi 2, vi i], [some (rH n ws 28)]) := by
      intro l i hi
      cases l with
      | nil => simp only [List.length_nil, Nat.add_zero] at hi; subst hi; rfl
      | cons x l => rfl
    have key : ∀ (l : List Int) (i : Nat), i + l.length = fires.length → endX (fun s => ((.ext 0, [lI fires, ps 0, vi (bif s then 2 else 0), vi fires.length], [some (rH n ws 28)]) : Out × List AV × Hp)) (foldX (fun i (s : Bool) p => bif s then .inl (.ext 0, [lI fires, ps 0, vi 2, vi i], [some (rH n ws 28)]) else bif Brn.inR p 0 (n - 1) then .inr false else .inr true) i l false) =
        bif l.all (fun p => Brn.inR p 0 (n - 1)) then (.ext 0, [lI fires, ps 0, vi 0, vi fires.length], [some (rH n ws 28)]) else (.ext 0, [lI fires, ps 0, vi 2, vi ((i + (l.findIdx fun p => !Brn.inR p 0 (n - 1)) + 1 : Nat) : Int)], [some (rH n ws 28)]) := by
      intro l
      induction l with
      | nil => intro i hi; rfl
      | cons x l ih =>
        intro i hi
        simp only [List.length_cons] at hi
        simp only [foldX, List.all_cons, List.findIdx_cons, cond_false]
        cases hx : Brn.inR x 0 (n - 1)
        · simp only [cond_false, Bool.false_and, Bool.not_false, cond_true]
          rw [key2 l (i + 1) (by omega)]
        · simp only [cond_true, Bool.true_and, Bool.not_true, cond_false]
          rw [ih (i + 1) (by omega)]
          have e : i + (List.findIdx (fun p => !Brn.inR p 0 (n - 1)) l + 1) + 1 = i + 1 + List.findIdx (fun p => !Brn.inR p 0 (n - 1)) l + 1 := by omega
          first | done | rw [e]
    rw [key fires 0 (by omega)]
    rcases br_val hv2 with ⟨h, hv3⟩ | ⟨h, hv3⟩ <;> rw [leaf_val hv3, h] <;> simp
  · refine ⟨1, ?_⟩
    show lpStep T8 73 7 0 (lpc T8 73 7) _ [lI fires, ps 0, vi e, vi 0] [some (rH n ws 28)] = _
    rw [nl73, leaf_val hv, he]
    cases decide ((0 : Int) < (fires.length : Int)) <;> rfl)
theorem l74_9_run : ∀ base kv H o kv' H', (l74_9 base kv H).val = some (o, kv', H') → LoopOK T8 74 9 base kv H o kv' H' := l74_9_ok T8_ok (by kernel_rfl) (by
  intro n ws fires l out i k k3 t1 t3 r hv
  obtain ⟨hl, hv⟩ := guard_val hv
  simp only [Bool.and_eq_true, decide_eq_true_eq] at hl
  obtain ⟨hl, hn⟩ := hl
  have h1 := Brn.irange_len n
  obtain ⟨m, hm⟩ := fold_of (T := T8) (fid := 74) (lid := 9) (base := 0) (c := lpc T8 74 9) (Brn.irange n) (fun i s => s.length ≤ i) (fun (s : List Int) p => bif Brn.has l p then s ++ [p] else s)
    (fun p s => [lI fires, ps 0, osW 1 k, osW 2 s.length, vi i, osW 3 k3, vi p]) (fun s => [some (rH n ws 28), some (rowL out t1), some (rI s), some (rowI l t3)])
    (fun s => (.ext 2, [lI fires, ps 0, osW 1 k, osW 2 s.length, vi i, osW 3 k3, vi n.toNat], [some (rH n ws 28), some (rowL out t1), some (rI s), some (rowI l t3)]))
    (fun j x s hx hlt hI again => by
      rw [nl74_9]
      have hxi := Brn.irange_get hx
      subst hxi
      have e1 : decide ((j : Int) < n) = true := decide_eq_true (by omega)
      have hr : room (s.length + 1) 8 = true := room_ok (by omega) (by omega)
      simp only [e1, hl, cond_true]
      rw [wrap_succ (by omega)]
      cases Brn.has l j
      · rfl
      · simp only [cond_true, List.length_cons, List.length_nil, Nat.zero_add, hr, rI, tyI_snoc, List.length_append])
    (fun j x s hx hlt hI => by
      cases h : Brn.has l x
      · simpa [h] using Nat.le_succ_of_le hI
      · simpa [h] using hI)
    (fun s hI again => by
      rw [nl74_9, h1]
      have e1 : decide ((n.toNat : Int) < n) = false := decide_eq_false (by omega)
      simp only [e1, cond_false]) [] (Nat.zero_le _)
  refine ⟨m, hm.trans ?_⟩
  rw [leaf_val hv, Brn.foldl_filter])
theorem T9_ok : TabOK T9 := by
  have h := T8_ok
  have h := h.addCall (g := 68) (r := c68) fun a H v H' hv => by refine CallOK.tab ?_ ?_ (c68_run a H v H' hv) <;> rfl
  have h := h.addLoop (g := 73) (lid := 7) (r := l73_7) fun b k H o k' H' hv => by refine LoopOK.tab ?_ ?_ ?_ ?_ (l73_7_run b k H o k' H' hv) <;> rfl
  have h := h.addLoop (g := 74) (lid := 9) (r := l74_9) fun b k H o k' H' hv => by refine LoopOK.tab ?_ ?_ ?_ ?_ (l74_9_run b k H o k' H' hv) <;> rfl
  exact h
end Go.Ev.Burn
namespace Go.Ev.Burn
open Go Go.Ev
set_option maxRecDepth 1000000
set_option linter.unusedVariables false
theorem tyL_snoc (l : List (List Int)) (x : List Int) : tyL (l ++ [x]) = 25 := by cases l <;> rfl
theorem chk_ok {n : Int} {ws : Ws} (h : (Brn.chk n ws == 0) = true) : 1 ≤ n ∧ n ≤ 9 := by
  unfold Brn.chk at h
  cases h1 : Brn.inR n 1 9 with
  | false => rw [h1] at h; cases h
  | true => exact chk_range (ws := ws) h1
theorem c73_run : ∀ args H v H', (c73 args H).val = some (v, H') → CallOK T9 73 args H v H' := c73_ok T9_ok (by
  intro n ws fires r hv
  obtain ⟨hl, hv⟩ := guard_val hv
  simp only [Bool.and_eq_true] at hl
  obtain ⟨hws, hf⟩ := hl
  rw [leaf_val hv, nf73, Brn.laidErr]
  simp only [hws, hf, cond_true]
  cases hc : Brn.chk n ws == 0 with
  | false =>
    simp only [cond_false]
  | true =>
    obtain ⟨a, b⟩ := chk_ok hc
    have e1 : decide (1 ≤ n) = true := decide_eq_true a
    have e2 : decide (n ≤ 9) = true := decide_eq_true b
    simp only [cond_true, e1, e2, Bool.and_self]
    by_cases h0 : fires.length = 0
    · simp only [h0]; rfl
    · have e3 : (((fires.length : Nat) : Int) == 0) = false := by simpa using h0
      have e4 : (fires.length == 0) = false := by simpa using h0
      simp only [e3, e4, cond_false]
      by_cases h9 : 9 < fires.length
      · simp only [decide_eq_true h9, decide_eq_true (show ((fires.length : Nat) : Int) > 9 by omega), cond_true]
      · simp only [decide_eq_false h9, decide_eq_false (show ¬ ((fires.length : Nat) : Int) > 9 by omega), cond_false]
        cases fires.all fun p => Brn.inR p 0 (n - 1) <;> rfl)
theorem dayNext_le (n : Int) (ws : Ws) (l : List Int) (f : Int) : (Brn.dayNext n ws l f).length ≤ n.toNat := by
  rw [← Brn.irange_len n]; exact List.length_filter_le _ _
theorem l74_4_run : ∀ base kv H o kv' H', (l74_4 base kv H).val = some (o, kv', H') → LoopOK T9 74 4 base kv H o kv' H' := l74_4_ok T9_ok (by kernel_rfl) (by
  intro n ws fires r hv
  obtain ⟨hl, hv⟩ := guard_val hv
  simp only [Bool.and_eq_true, decide_eq_true_eq] at hl
  obtain ⟨⟨hws, hf⟩, hn⟩ := hl
  have hd : decide (n ≤ 100) = true := decide_eq_true hn
  have hfl := sm_le hf
  obtain ⟨m, hm⟩ := fold_of (T := T9) (fid := 74) (lid := 4) (base := 0) (c := lpc T9 74 4) fires (fun i (s : List (List Int) × List Int × Bool) => s.1.length = i ∧ s.2.1.length ≤ 100)
    (fun (s : List (List Int) × List Int × Bool) x => (s.1 ++ [Brn.dayNext n ws s.2.1 x], Brn.dayNext n ws s.2.1 x, true))
    (fun i s => [lI fires, ps 0, osW 1 s.1.length, osW 2 s.2.1.length, vi i]) (fun s => [some (rH n ws 28), some (rL s.1), some (rowZ s.2.1 (tyI s.2.1) s.2.2)])
    (fun s => (.ext 0, [lI fires, ps 0, osW 1 s.1.length, osW 2 s.2.1.length, vi fires.length], [some (rH n ws 28), some (rL s.1), some (rowZ s.2.1 (tyI s.2.1) s.2.2)]))
    (fun i x s hx hlt hI again => by
      rw [nl74_4]
      have hs1 : sm s.2.1 = true := sm_of hI.2 (by omega)
      have hs2 : sm (Brn.spread n ws s.2.1 ++ [x]) = true := sm_of (k := 101) (by
        have := Brn.spread_le n ws s.2.1
        simp only [List.length_append, List.length_cons, List.length_nil]; omega) (by omega)
      have hr : room ((Brn.spread n ws s.2.1).length + 1) 8 = true := room_ok (by
        have := Brn.spread_le n ws s.2.1
        omega) (by omega)
      have hr2 : room (s.1.length + 1) 24 = true := room_ok (by omega) (by omega)
      simp only [dec_lt hlt, dec_ge, cond_true, hs1, hws, hd, Bool.and_self, toNat_cast, hx, oM, hr, hs2, List.length_cons, List.length_nil, Nat.zero_add, hr2]
      rw [wrap_succ (by omega)]
      simp only [rL, tyL_snoc, List.length_append, List.length_cons, List.length_nil, Nat.zero_add]
      rfl)
    (fun i x s hx hlt hI => by
      refine ⟨by simp [hI.1], ?_⟩
      have := dayNext_le n ws s.2.1 x
      show (Brn.dayNext n ws s.2.1 x).length ≤ 100
      omega)
    (fun s hI again => by
      rw [nl74_4]
      simp only [dec_ll, cond_false]) ([], [], false) ⟨rfl, Nat.zero_le _⟩
  refine ⟨m, hm.trans ?_⟩
  rw [leaf_val hv]
  have key : ∀ (l : List Int) (a : List (List Int)) (b : List Int) (z : Bool), l.foldl (fun (s : List (List Int) × List Int × Bool) x => (s.1 ++ [Brn.dayNext n ws s.2.1 x], Brn.dayNext n ws s.2.1 x, true)) (a, b, z) = (a ++ Brn.burntR n ws b l, l.foldl (Brn.dayNext n ws) b, z || !l.isEmpty) := by
    intro l
    induction l with
    | nil => intro a b z; simp [Brn.burntR]
    | cons x l ih => intro a b z; simp only [List.foldl_cons, ih, Brn.burntR]; simp
  rw [key]
  simp)
theorem T10_ok : TabOK T10 := by
  have h := T9_ok
  have h := h.addCall (g := 73) (r := c73) fun a H v H' hv => by refine CallOK.tab ?_ ?_ (c73_run a H v H' hv) <;> rfl
  have h := h.addLoop (g := 74) (lid := 4) (r := l74_4) fun b k H o k' H' hv => by refine LoopOK.tab ?_ ?_ ?_ ?_ (l74_4_run b k H o k' H' hv) <;> rfl
  exact h
theorem c74_run : ∀ args H v H', (c74 args H).val = some (v, H') → CallOK T10 74 args H v H' := c74_ok T10_ok (by
  intro n ws fires r hv
  obtain ⟨hl, hv⟩ := guard_val hv
  rw [leaf_val hv, nf74, cond_t hl])
theorem T11_ok : TabOK T11 := by
  have h := T10_ok
  have h := h.addCall (g := 74) (r := c74) fun a H v H' hv => by refine CallOK.tab ?_ ?_ (c74_run a H v H' hv) <;> rfl
  exact h
theorem burntR_len (n : Int) (ws : Ws) : ∀ (l b : List Int), (Brn.burntR n ws b l).length = l.length
  | [], b => rfl
  | x :: l, b => by simp only [Brn.burntR, List.length_cons, burntR_len n ws l]
theorem burntR_last (n : Int) (ws : Ws) : ∀ (l b : List Int), l ≠ [] → (Brn.burntR n ws b l)[l.length - 1]? = some (l.foldl (Brn.dayNext n ws) b)
  | [], b, h => absurd rfl h
  | [x], b, _ => rfl
  | x :: y :: l, b, _ => by
    have := burntR_last n ws (y :: l) (Brn.dayNext n ws b x) (by simp)
    simpa [Brn.burntR] using this
theorem c77_run : ∀ args H v H', (c77 args H).val = some (v, H') → CallOK T11 77 args H v H' := c77_ok T11_ok (by
  intro n ws fires r hv
  obtain ⟨hl, hv⟩ := guard_val hv
  simp only [Bool.and_eq_true, decide_eq_true_eq] at hl
  obtain ⟨⟨⟨⟨hws, hf⟩, h1⟩, hn⟩, h0⟩ := hl
  have hd : decide (n ≤ 100) = true := decide_eq_true hn
  have hfl := sm_le hf
  rw [leaf_val hv, nf77]
  simp only [hws, hf, hd, Bool.and_self, cond_true]
  rw [wrapi (by omega) (by omega)]
  have e1 : decide ((0 : Int) ≤ (fires.length : Int) - 1) = true := decide_eq_true (by omega)
  have e2 : decide ((fires.length : Int) - 1 < ((Brn.burntR n ws [] fires).length : Int)) = true := decide_eq_true (by rw [burntR_len]; omega)
  have e3 : ((fires.length : Int) - 1).toNat = fires.length - 1 := by omega
  simp only [e1, e2, cond_true, e3, burntR_last n ws fires [] (by intro h; simp [h] at h0), oM]
  congr 4)
theorem T12_ok : TabOK T12 := by
  have h := T11_ok
  have h := h.addCall (g := 77) (r := c77) fun a H v H' hv => by refine CallOK.tab ?_ ?_ (c77_run a H v H' hv) <;> rfl
  exact h
end Go.Ev.Burn
