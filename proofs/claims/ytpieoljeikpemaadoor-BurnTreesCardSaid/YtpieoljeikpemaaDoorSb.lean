/- The tables of the burn seat, in the symbolic mode. -/
import Derived.Test.YtpieoljeikpemaaDoorEvE
import Derived.Test.YtpieoljeikpemaaDoorChecked
import Derived.Test.YtpieoljeikpemaaDoorSa
set_option linter.unusedVariables false
set_option linter.unusedSimpArgs false
namespace Go.Ev.Burn
open Go Go.Ev Go.Proofs
set_option maxRecDepth 1000000
set_option linter.unusedVariables false
def assoc {α : Type} (d : α) (k : Nat) : List (Nat × α) → α
  | [] => d
  | p :: l => match Nat.beq p.1 k with
    | true => p.2
    | false => assoc d k l
def keepB : List (Nat × List (Nat × List Nat)) := [
  (7, [(8, [1, 4, 5, 10, 76, 77, 78]), (14, [1, 5, 12, 13, 76, 77, 78, 91, 92, 93])]),
  (8, [(5, [7, 8, 9, 10, 36, 37, 38]), (13, [6, 7, 8, 9, 10, 13, 66, 67]), (17, [7, 8, 9, 10, 13, 15, 16, 66, 67, 70, 71]), (20, [7, 8, 9, 10, 13, 15, 16, 17, 66, 67, 70, 71, 77, 78, 79])]),
  (10, [(6, [6, 7, 8, 9, 10, 11, 12, 40, 41])]),
  (11, [(4, [3, 5, 7, 35, 36]), (12, [5, 7, 10, 69, 70, 71]), (26, [7, 10, 23, 167, 168, 169])]),
  (12, [(14, [6, 7, 14, 16, 17, 82, 83])]),
  (13, [(7, [2, 3, 5, 6, 35, 36]), (19, [2, 3, 5, 6, 12, 70, 71]), (23, [3, 5, 6, 12, 13, 14, 70, 71, 77, 78, 79])]),
  (14, [(5, [3, 9, 10, 11, 12, 34, 35, 36]), (13, [9, 10, 11, 12, 15, 55, 56, 57]), (23, [9, 10, 11, 12, 15, 86, 87, 88]), (26, [9, 10, 11, 12, 15, 19, 86, 87, 88, 95, 96, 97])]),
  (21, [(6, [1, 6, 8, 20, 21])]),
  (23, [(4, [0, 1, 4, 5])]),
  (24, [(4, [0, 1, 4, 5])]),
  (26, [(6, [1, 2, 3])]),
  (37, [(4, [0, 4, 5])]),
  (39, [(6, [0, 4, 6, 17, 18])]),
  (40, [(6, [0, 4, 5, 6])]),
  (41, [(8, [1, 2, 3, 6, 7, 9, 27, 28, 29]), (15, [1, 2, 3, 7, 9, 11, 27, 28, 29, 55, 56, 57])]),
  (42, [(5, [1, 2, 3, 7, 8])]),
  (44, [(3, [0, 2, 3, 4])]),
  (47, [(3, [1, 4, 5, 6])]),
  (50, [(3, [2, 4, 5, 6, 7]), (7, [4, 5, 6, 45, 46, 47])]),
  (51, [(2, [2, 4, 6, 11, 12]), (6, [2, 4, 7, 8, 11, 12, 15, 16, 17])]),
  (53, [(2, [2, 3, 4, 5, 6])]),
  (54, [(1, [0, 2, 3])]),
  (55, [(2, [1, 2, 3, 6, 9, 10, 11])]),
  (56, [(8, [0, 1, 3, 4, 5, 7, 9])]),
  (59, [(5, [0, 3, 4])]),
  (63, [(3, [1, 2, 3, 11]), (6, [1, 2, 3, 4, 11, 14]), (13, [2, 3, 27, 28, 29]), (18, [2, 3, 46]), (21, [2, 3, 8, 46, 49]), (24, [2, 3, 8, 9, 46, 49, 52])]),
  (65, [(8, [1, 2, 4, 5, 6, 7, 36, 37, 38]), (21, [1, 2, 6, 7, 10, 95, 96]), (26, [1, 2, 6, 7, 10, 104]), (29, [1, 2, 6, 7, 10, 12, 104, 108, 109]), (35, [1, 2, 6, 7, 10, 12, 14, 104, 125, 126]), (38, [1, 2, 6, 7, 10, 12, 14, 15, 16, 104, 125, 126]), (44, [1, 2, 6, 10, 12, 152, 153]), (47, [1, 2, 6, 10, 12, 17, 18, 152, 153]), (55, [2, 4, 5, 6, 182, 183, 184])]),
  (68, [(2, [1, 2, 3, 7])]),
  (69, [(2, [0, 3])]),
  (70, [(3, [2, 3, 7, 8])]),
  (72, [(3, [0, 2, 7, 13, 14, 15])]),
  (73, [(7, [1, 2, 5, 6])]),
  (74, [(4, [1, 2, 5, 6, 7]), (9, [1, 2, 5, 6, 7, 8, 9])]),
  (75, [(2, [0, 1, 2, 6, 7])]),
  (78, [(6, [1, 4, 5, 6, 7, 9])]),
  (79, [(3, [1, 3, 4])]),
  (81, [(4, [0, 1, 2, 4, 5, 8])]),
  (84, [(7, [1, 2, 3, 4, 8, 9, 11])]),
  (85, [(2, [0, 3])]),
  (86, [(2, [1, 2, 3, 6, 7]), (5, [1, 2, 3, 6, 7, 8])]),
  (87, [(2, [0, 1, 4, 7, 8])]),
  (89, [(6, [0, 6, 22, 23])]),
  (90, [(2, [0, 1, 4, 7, 8])]),
  (91, [(2, [0, 1, 2, 3, 8, 9])]),
  (93, [(2, [0, 1, 4, 7, 8])]),
  (95, [(2, [0, 1, 4, 5])]),
  (96, [(3, [1, 2, 5, 6]), (7, [1, 2, 5, 6, 7, 8])]),
  (98, [(7, [1, 2, 3, 7, 8])]),
  (101, [(2, [0, 3, 4, 7, 8])]),
  (102, [(1, [0, 1, 2, 6]), (4, [0, 1, 2, 6, 7])]),
  (103, [(4, [0, 6, 7, 8, 9]), (8, [0, 6, 7, 10])]),
  (104, [(5, [0, 1, 6, 7, 8, 9])]),
  (106, [(2, [0, 6, 7])]),
  (107, [(3, [0, 1, 2, 6, 7, 8]), (5, [0, 1, 2, 7, 8]), (14, [0, 1, 2, 7, 8, 9]), (20, [0, 1, 2, 7, 8, 10])]),
  (109, [(3, [0, 1, 9, 10]), (5, [0, 1, 9, 10])]),
  (110, [(3, [0, 1, 10, 11]), (5, [0, 1, 10, 11]), (13, [0, 1, 10, 11]), (15, [0, 1, 10, 11])]),
  (113, [(10, [0, 1, 3, 7, 10, 11, 34, 35])]),
  (114, [(1, [0, 2, 3, 8])])]
def tab32 : List Int := [0, 1, 28, 2, 29, 14, 24, 3, 30, 22, 20, 15, 25, 17, 4, 8, 31, 27, 13, 23, 21, 19, 16, 7, 26, 12, 18, 6, 11, 5, 10, 9]
def tab64 : List Int := [0, 1, 56, 2, 57, 49, 28, 3, 61, 58, 42, 50, 38, 29, 17, 4, 62, 47, 59, 36, 45, 43, 51, 22, 53, 39, 33, 30, 24, 18, 12, 5, 63, 55, 48, 27, 60, 41, 37, 16, 46, 35, 44, 21, 52, 32, 23, 11, 54, 26, 40, 15, 34, 20, 31, 10, 25, 14, 19, 9, 13, 8, 7, 6]
def globB (g : Nat) : Option (List AV × TypeId) := match g with
  | 0 => some ([.run (.int .u8) tab32], 154)
  | 1 => some ([.run (.int .u8) tab64], 155)
  | _ => none
def refB (f : FuncId) : List Nat := match f with
  | 113 => [0, 2, 3, 4, 5, 6, 7]
  | 81 => [2, 3, 4, 5]
  | 56 => [1, 2, 3, 4, 5]
  | 89 => [1, 2, 3, 4, 5, 6]
  | _ => []
noncomputable def T0 : Tab := { P := Tryd.prog, il := true, fn := fnsOf Tryd.prog, glob := globB, refm := refB, keep := fun f l => assoc [] l (assoc [] f keepB), gc := fun _ _ => none, callR := fun _ _ _ => .fail, loopT := fun _ _ _ _ _ => .fail }
end Go.Ev.Burn
namespace Go.Ev.Burn
open Go Go.Ev
set_option maxRecDepth 1000000
set_option linter.unusedVariables false
abbrev Ag := List AV → Hp → Option (Out × List AV × Hp)
abbrev Ws := List (Int × Int)
abbrev lI (l : List Int) : AV := .sl (.int .i64) l false
abbrev lW (l : Ws) : AV := .sl (.pair .i64) l false
abbrev aH (n : Int) (ws : Ws) : AV := .agg [.sc (.int .i64 n), .sl (.pair .i64) ws false] false
abbrev rH (n : Int) (ws : Ws) (t : TypeId) : Row := ⟨[.sc (.int .i64 n), .sl (.pair .i64) ws false], true, t, false, false, none⟩
abbrev ps (r : Nat) : AV := .ps r 0 0 0
def tyI (l : List Int) : TypeId := match l with
  | [] => 0
  | _ => 3
abbrev rI (l : List Int) : Row := rowI l (tyI l)
def c80t (n lo hi : Int) : Tree (AV × Hp) := .leaf (vb (Brn.inR n lo hi), [])
def c80 (args : List AV) (H : Hp) : Tree (AV × Hp) := match args, H with
  | [(.sc (.int .i64 n)), (.sc (.int .i64 lo)), (.sc (.int .i64 hi))], [] => c80t n lo hi
  | _, _ => .fail
theorem c80_ok {T : Tab} (hT : TabOK T) (h : ∀ (n lo hi : Int) (r : AV × Hp), (c80t n lo hi).val = some r → evBody T 80 [vi n, vi lo, vi hi] [] = some r) : ∀ args H v H', (c80 args H).val = some (v, H') → CallOK T 80 args H v H' := by
  intro args H v H' hv
  unfold c80 at hv
  split at hv
  · exact evBody_sound hT (h _ _ _ _ hv)
  · cases hv
theorem nf80 (n lo hi : Int) : evBody T0 80 [vi n, vi lo, vi hi] [] = (bif decide (lo ≤ n) then some (vb (decide (n ≤ hi)), []) else some (vb false, [])) := by kernel_rfl
noncomputable def T1 : Tab := (T0).addCall 80 c80
noncomputable def T2 : Tab := T1
noncomputable def T3 : Tab := T2
noncomputable def T4 : Tab := T3
noncomputable def T5 : Tab := T4
end Go.Ev.Burn
namespace Go.Ev.Burn
open Go Go.Ev
set_option maxRecDepth 1000000
set_option linter.unusedVariables false
noncomputable def T6 : Tab := T5
noncomputable def T7 : Tab := T6
noncomputable def T8 : Tab := T7
noncomputable def T9 : Tab := T8
abbrev rowZ (l : List Int) (t : TypeId) (z : Bool) : Row := ⟨[.run (.int .i64) l], false, t, z, false, none⟩
noncomputable def T10 : Tab := T9
noncomputable def T11 : Tab := T10
noncomputable def T12 : Tab := T11
end Go.Ev.Burn
namespace Go.Ev.Burn
open Go Go.Ev
set_option maxRecDepth 1000000
set_option linter.unusedVariables false
theorem mx (p q : Int) : (if q > p then q else p) = max p q := by rw [Int.max_def]; split <;> split <;> omega
theorem fns_ok : ∀ f fn, T0.fn f = some fn → T0.P.funcs[f]? = some fn ∧ fnOK fn = true := fun _ _ h => fnsOf_spec h
theorem mixed_ok : T0.P.follows .mixedOrders = true := by kernel_rfl
theorem T0_ok : TabOK T0 := TabOK.bare fns_ok mixed_ok
theorem c80_run : ∀ args H v H', (c80 args H).val = some (v, H') → CallOK T0 80 args H v H' := c80_ok T0_ok (by
  intro n lo hi r hv
  rw [leaf_val hv, nf80, Brn.inR]
  by_cases h : lo ≤ n <;> simp [h])
theorem T1_ok : TabOK T1 := by
  have h := T0_ok
  have h := h.addCall (g := 80) (r := c80) fun a H v H' hv => by refine CallOK.tab ?_ ?_ (c80_run a H v H' hv) <;> rfl
  exact h
theorem T2_ok : TabOK T2 := by
  have h := T1_ok
  exact h
theorem T3_ok : TabOK T3 := by
  have h := T2_ok
  exact h
theorem T4_ok : TabOK T4 := by
  have h := T3_ok
  exact h
theorem T5_ok : TabOK T5 := by
  have h := T4_ok
  exact h
end Go.Ev.Burn
namespace Go.Ev.Burn
open Go Go.Ev
set_option maxRecDepth 1000000
set_option linter.unusedVariables false
theorem sm_of {α : Type} {l : List α} {k : Nat} (h : l.length ≤ k) (hk : k ≤ 100000) : sm l = true := decide_eq_true (Nat.le_trans h hk)
theorem T6_ok : TabOK T6 := by
  have h := T5_ok
  exact h
theorem chk_range {n : Int} {ws : Ws} (h : Brn.inR n 1 9 = true) : 1 ≤ n ∧ n ≤ 9 := by
  simpa [Brn.inR] using h
theorem T7_ok : TabOK T7 := by
  have h := T6_ok
  exact h
theorem T8_ok : TabOK T8 := by
  have h := T7_ok
  exact h
theorem T9_ok : TabOK T9 := by
  have h := T8_ok
  exact h
end Go.Ev.Burn
namespace Go.Ev.Burn
open Go Go.Ev
set_option maxRecDepth 1000000
set_option linter.unusedVariables false
theorem T10_ok : TabOK T10 := by
  have h := T9_ok
  exact h
theorem T11_ok : TabOK T11 := by
  have h := T10_ok
  exact h
theorem T12_ok : TabOK T12 := by
  have h := T11_ok
  exact h
end Go.Ev.Burn
