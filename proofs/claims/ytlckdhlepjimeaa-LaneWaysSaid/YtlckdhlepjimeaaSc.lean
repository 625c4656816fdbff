/- Ways by lists: plain definitions. -/
import Derived.Test.YtlckdhlepjimeaaSb
set_option linter.unusedVariables false
set_option linter.unusedSimpArgs false
namespace Lan
open Go
def lastI (l : List Int) : Int := l.getD (l.length - 1) 0
def wB (to : Int) (l : List Int) : List (List Int) := bif lastI l == to then [l] else []
def wF (b to : Int) (sh : List Int) (f : Nat) (l : List Int) : List (List Int) :=
  match f with
  | 0 => []
  | f + 1 => bif has sh (lastI l) then [] else wB to l ++ (List.range f).flatMap fun (k : Nat) => bif stepR b (lastI l) (lastI l + 1 + k) then wF b to sh (f - k) (l ++ [lastI l + 1 + k]) else []
termination_by f
decreasing_by omega
def wN (b to : Int) (sh : List Int) (f : Nat) (l : List Int) (i : Nat) : List (List Int) := wB to l ++ (List.range i).flatMap fun (k : Nat) => bif stepR b (lastI l) (lastI l + 1 + k) then wF b to sh (f - k) (l ++ [lastI l + 1 + k]) else []
theorem wF_succ (b to : Int) (sh : List Int) (f : Nat) (l : List Int) : wF b to sh (f + 1) l = bif has sh (lastI l) then [] else wN b to sh f l f := by
  rw [wF]; rfl
theorem wN_succ (b to : Int) (sh : List Int) (f : Nat) (l : List Int) (i : Nat) : wN b to sh f l (i + 1) = wN b to sh f l i ++ bif stepR b (lastI l) (lastI l + 1 + i) then wF b to sh (f - i) (l ++ [lastI l + 1 + i]) else [] := by
  unfold wN
  rw [List.range_succ, List.flatMap_append, List.append_assoc]
  simp only [List.flatMap_cons, List.flatMap_nil, List.append_nil]
def wR (a b to : Int) (sh l : List Int) : List (List Int) := wF b to sh (a * b - lastI l).toNat l
def wayG (a b : Int) (sh l : List Int) : Bool := side a b && Ev.sm sh && !l.isEmpty && decide (0 ≤ lastI l) && decide (lastI l < a * b) && decide ((l.length : Int) ≤ lastI l + 1)
def tyW (b to : Int) (l : List Int) (i : Nat) : TypeId := bif (lastI l == to) || ((List.range i).any fun (k : Nat) => stepR b (lastI l) (lastI l + 1 + k)) then 22 else 0
theorem tyW_succ (b to : Int) (l : List Int) (i : Nat) : tyW b to l (i + 1) = bif stepR b (lastI l) (lastI l + 1 + i) then 22 else tyW b to l i := by
  unfold tyW
  rw [List.range_succ, List.any_append]
  simp only [List.any_cons, List.any_nil, Bool.or_false]
  cases lastI l == to <;> cases (List.range i).any (fun (k : Nat) => stepR b (lastI l) (lastI l + 1 + k)) <;> cases stepR b (lastI l) (lastI l + 1 + i) <;> rfl
def tyR (a b to : Int) (sh l : List Int) : TypeId := bif has sh (lastI l) then 0 else tyW b to l (a * b - lastI l - 1).toNat
end Lan
namespace Go.Ev.Lane
open Go Go.Ev
set_option maxRecDepth 1000000
set_option maxHeartbeats 0
set_option linter.unusedVariables false
def c71t (d : Nat) (l sh : List Int) (a b to : Int) : Tree (AV × Hp) := .br (Lan.wayG a b sh l && decide (a * b - Lan.lastI l ≤ (d : Int))) (.leaf (osW 0 (Lan.wR a b to sh l).length, [some (rowL (Lan.wR a b to sh l) (Lan.tyR a b to sh l))])) .fail
def c71 (d : Nat) (args : List AV) (H : Hp) : Tree (AV × Hp) := match args, H with
  | [(.agg [.sc (.int .i64 a), .sc (.int .i64 b), .sl (.int .i64) sh false] false), (.sl (.int .i64) l false), (.sc (.int .i64 to))], [] => c71t d l sh a b to
  | _, _ => .fail
theorem c71_ok (d : Nat) {T : Tab} (hT : TabOK T) (h : ∀ (l sh : List Int) (a b to : Int) (r : AV × Hp), (c71t d l sh a b to).val = some r → evBody T 71 [aP a b sh, lI l, vi to] [] = some r) : ∀ args H v H', (c71 d args H).val = some (v, H') → CallOK T 71 args H v H' := by
  intro args H v H' hv
  unfold c71 at hv
  split at hv
  · exact evBody_sound hT (h _ _ _ _ _ _ hv)
  · cases hv
noncomputable def U0 (d : Nat) : Tab := T11.addCall 71 (c71 d)
theorem nl71 (d : Nat) (again : Ag) (l sh : List Int) (out : List (List Int)) (ty : TypeId) (a b to t n : Int) (k : Nat) : lpStep (U0 d) 71 8 0 (lpc (U0 d) 71 8) again [lI l, vi to, ps 0, vi t, osW 1 k, vi n] [some (rP a b sh 29), some (rowL out ty)] = (bif decide (n < IntKind.i64.wrap (a * b)) then bif Lan.side a b && decide (0 ≤ t) && decide (t < 16) then bif Lan.stepR b t n then bif bif decide (0 < l.length) then true else ([] : List Int).isEmpty then bif room (0 + l.length) 8 then bif room (0 + l.length + 1) 8 then bif Lan.wayG a b sh ([] ++ l ++ [n]) && decide (a * b - Lan.lastI ([] ++ l ++ [n]) ≤ (↑d : Int)) then bif room (k + (Lan.wR a b to sh ([] ++ l ++ [n])).length) 24 then again [.sl (.int .i64) l false, vi to, .ps 0 0 0 0, vi t, osW 1 (k + (Lan.wR a b to sh ([] ++ l ++ [n])).length), vi (IntKind.i64.wrap (n + 1))] [some ⟨[vi a, vi b, .sl (.int .i64) sh false], true, 29, false, false, none⟩, some ⟨[.run (.ilist .i64) (out ++ Lan.wR a b to sh ([] ++ l ++ [n]))], false, 22, false, false, none⟩] else none else none else none else none else none else again [.sl (.int .i64) l false, vi to, .ps 0 0 0 0, vi t, osW 1 k, vi (IntKind.i64.wrap (n + 1))] [some ⟨[vi a, vi b, .sl (.int .i64) sh false], true, 29, false, false, none⟩, some ⟨[.run (.ilist .i64) out], false, ty, false, false, none⟩] else none else some (.ext 0, [.sl (.int .i64) l false, vi to, .ps 0 0 0 0, vi t, osW 1 k, vi n], [some ⟨[vi a, vi b, .sl (.int .i64) sh false], true, 29, false, false, none⟩, some ⟨[.run (.ilist .i64) out], false, ty, false, false, none⟩])) := by kernel_rfl
def l71_8t (d : Nat) (l sh : List Int) (out : List (List Int)) (ty : TypeId) (a b to t n : Int) (k : Nat) : Tree (Out × List AV × Hp) := .br (Lan.wayG a b sh l && decide (t = Lan.lastI l) && decide (n = t + 1) && decide (k = out.length) && decide (out = Lan.wB to l) && decide (ty = tyL out) && decide (a * b - t ≤ (d : Int) + 1)) (.leaf (.ext 0, [lI l, vi to, ps 0, vi t, osW 1 (Lan.wN b to sh (a * b - t - 1).toNat l (a * b - t - 1).toNat).length, vi (a * b)], [some (rP a b sh 29), some (rowL (Lan.wN b to sh (a * b - t - 1).toNat l (a * b - t - 1).toNat) (Lan.tyW b to l (a * b - t - 1).toNat))])) .fail
def l71_8 (d : Nat) (base : Nat) (kv : List AV) (H : Hp) : Tree (Out × List AV × Hp) := match Nat.beq base 0, kv, H with
  | true, [(.sl (.int .i64) l false), (.sc (.int .i64 to)), (.ps 0 0 0 0), (.sc (.int .i64 t)), (.os 1 0 0 k true false true), (.sc (.int .i64 n))], [some ⟨[.sc (.int .i64 a), .sc (.int .i64 b), .sl (.int .i64) sh false], true, 29, false, false, none⟩, some ⟨[.run (.ilist .i64) out], false, ty, false, false, none⟩] => l71_8t d l sh out ty a b to t n k
  | _, _, _ => .fail
theorem l71_8_ok (d : Nat) {T : Tab} (hT : TabOK T) (hlo : loopOf T.fn 71 8 = some (lpc T 71 8)) (h : ∀ (l sh : List Int) (out : List (List Int)) (ty : TypeId) (a b to t n : Int) (k : Nat) (r : Out × List AV × Hp), (l71_8t d l sh out ty a b to t n k).val = some r → ∃ mm, lpRun T 71 8 0 (lpc T 71 8) mm [lI l, vi to, ps 0, vi t, osW 1 k, vi n] [some (rP a b sh 29), some (rowL out ty)] = some r) : ∀ base kv H o kv' H', (l71_8 d base kv H).val = some (o, kv', H') → LoopOK T 71 8 base kv H o kv' H' := by
  intro base kv H o kv' H' hv
  unfold l71_8 at hv
  split at hv
  · rename_i hb
    obtain rfl := Nat.eq_of_beq_eq_true hb
    exact loop_ok hT hlo (h _ _ _ _ _ _ _ _ _ _ _ hv)
  · cases hv
noncomputable def U1 (d : Nat) : Tab := (U0 d).addLoop 71 8 (l71_8 d)
theorem nf71 (d : Nat) (l sh : List Int) (a b to : Int) : evBody (U1 d) 71 [aP a b sh, lI l, vi to] [] = (bif decide (0 ≤ IntKind.i64.wrap ((↑l.length : Int) - 1)) then bif decide (IntKind.i64.wrap ((↑l.length : Int) - 1) < (↑l.length : Int)) then oM l[(IntKind.i64.wrap ((↑l.length : Int) - 1)).toNat]? fun x => bif sm sh then bif Lan.has sh x then some (osW 0 0, [some ⟨[.run (.ilist .i64) []], false, 0, false, false, none⟩]) else bif x == to then bif Lan.wayG a b sh l && decide (x = Lan.lastI l) && decide (IntKind.i64.wrap (x + 1) = x + 1) && decide (1 = 1) && decide ([] ++ [l] = Lan.wB to l) && decide (22 = Lane.tyL ([] ++ [l])) && decide (a * b - x ≤ (↑d : Int) + 1) then some (.os 0 0 0 (Lan.wN b to sh (a * b - x - 1).toNat l (a * b - x - 1).toNat).length true false true, [some ⟨[.run (.ilist .i64) (Lan.wN b to sh (a * b - x - 1).toNat l (a * b - x - 1).toNat)], false, Lan.tyW b to l (a * b - x - 1).toNat, false, false, none⟩]) else none else bif Lan.wayG a b sh l && decide (x = Lan.lastI l) && decide (IntKind.i64.wrap (x + 1) = x + 1) && decide (0 = 0) && decide ([] = Lan.wB to l) && decide (0 = Lane.tyL []) && decide (a * b - x ≤ (↑d : Int) + 1) then some (.os 0 0 0 (Lan.wN b to sh (a * b - x - 1).toNat l (a * b - x - 1).toNat).length true false true, [some ⟨[.run (.ilist .i64) (Lan.wN b to sh (a * b - x - 1).toNat l (a * b - x - 1).toNat)], false, Lan.tyW b to l (a * b - x - 1).toNat, false, false, none⟩]) else none else none else none else none) := by kernel_rfl
end Go.Ev.Lane
namespace Go.Ev.Lane
open Go Go.Ev
set_option maxRecDepth 1000000
set_option maxHeartbeats 0
set_option linter.unusedVariables false
abbrev rY (ya ti : List Int) : Row := ⟨[.sl (.int .i64) ya false, .sl (.int .i64) ti false], true, 30, false, false, none⟩
theorem nf17 (sh ya ti : List Int) (a b fr to : Int) : evBody (U0 16) 17 [aP a b sh, aX ya ti, vi fr, vi to] [] = (bif sm sh && sm ya && sm ti then bif Lan.chk a b sh ya ti == 0 then bif Lan.side a b then bif !!Lan.wrongB a b fr then some (.tuple [vi 0, vi 2], []) else bif Lan.side a b then bif !!Lan.wrongB a b to then some (.tuple [vi 0, vi 2], []) else bif Lan.chk a b sh ya ti != 0 then some (.tuple [vi 0, vi (Lan.chk a b sh ya ti)], []) else bif Lan.wayG a b sh [fr] && decide (a * b - Lan.lastI [fr] ≤ (↑16 : Int)) then some (.tuple [vi (↑(Lan.wR a b to sh [fr]).length : Int), vi 0], []) else none else none else none else bif Lan.chk a b sh ya ti != 0 then some (.tuple [vi 0, vi (Lan.chk a b sh ya ti)], []) else bif Lan.wayG a b sh [fr] && decide (a * b - Lan.lastI [fr] ≤ (↑16 : Int)) then some (.tuple [vi (↑(Lan.wR a b to sh [fr]).length : Int), vi 0], []) else none else none) := by kernel_rfl
theorem nl19_10 (again : Ag) (sh ya ti l : List Int) (out : List (List Int)) (t t2 : TypeId) (a b i k : Int) (n : Nat) : lpStep (U0 16) 19 10 0 (lpc (U0 16) 19 10) again [ps 0, ps 1, osW 2 n, vi i, osW 3 l.length, vi k] [some (rP a b sh 29), some (rY ya ti), some (rowL out t), some (rowI l t2)] = (bif decide (k < (↑ti.length : Int)) then bif decide (0 ≤ i) then bif decide (i < (↑ya.length : Int)) then oM ya[i.toNat]? fun x => bif decide (0 ≤ k) then bif decide (k < (↑ti.length : Int)) then oM ti[k.toNat]? fun x_1 => bif Lan.wayG a b sh [x] && decide (a * b - Lan.lastI [x] ≤ (↑16 : Int)) then bif room (l.length + 1) 8 then again [.ps 0 0 0 0, .ps 1 0 0 0, osW 2 n, vi i, osW 3 (l.length + 1), vi (IntKind.i64.wrap (k + 1))] [some ⟨[vi a, vi b, .sl (.int .i64) sh false], true, 29, false, false, none⟩, some ⟨[.sl (.int .i64) ya false, .sl (.int .i64) ti false], true, 30, false, false, none⟩, some ⟨[.run (.ilist .i64) out], false, t, false, false, none⟩, some ⟨[.run (.int .i64) (l ++ [(↑(Lan.wR a b x_1 sh [x]).length : Int)])], false, 3, false, false, none⟩] else none else none else none else none else none else none else some (.ext 2, [.ps 0 0 0 0, .ps 1 0 0 0, osW 2 n, vi i, osW 3 l.length, vi k], [some ⟨[vi a, vi b, .sl (.int .i64) sh false], true, 29, false, false, none⟩, some ⟨[.sl (.int .i64) ya false, .sl (.int .i64) ti false], true, 30, false, false, none⟩, some ⟨[.run (.ilist .i64) out], false, t, false, false, none⟩, some ⟨[.run (.int .i64) l], false, t2, false, false, none⟩])) := by kernel_rfl
def _root_.Lan.wc (a b : Int) (sh : List Int) (x to : Int) : Int := ((Lan.wR a b to sh [x]).length : Int)
def _root_.Lan.rowR (a b : Int) (sh ti : List Int) (x : Int) : List Int := ti.map fun t => Lan.wc a b sh x t
def _root_.Lan.onP (a b x : Int) : Bool := decide (0 ≤ x) && decide (x < a * b)
def l19_10t (sh ya ti : List Int) (out : List (List Int)) (t : TypeId) (a b i : Int) (n : Nat) : Tree (Out × List AV × Hp) := .br (Lan.side a b && sm sh && decide (ti.length ≤ 3) && decide (ya.length ≤ 3) && decide (0 ≤ i) && decide (i < (ya.length : Int)) && Lan.onP a b (ya.getD i.toNat 0)) (.leaf (.ext 2, [ps 0, ps 1, osW 2 n, vi i, osW 3 ti.length, vi ti.length], [some (rP a b sh 29), some (rY ya ti), some (rowL out t), some (rowI (Lan.rowR a b sh ti (ya.getD i.toNat 0)) (tyI ti))])) .fail
def l19_10 (base : Nat) (kv : List AV) (H : Hp) : Tree (Out × List AV × Hp) := match Nat.beq base 0, kv, H with
  | true, [(.ps 0 0 0 0), (.ps 1 0 0 0), (.os 2 0 0 n true false true), (.sc (.int .i64 i)), (.os 3 0 0 0 true false true), (.sc (.int .i64 0))], [some ⟨[.sc (.int .i64 a), .sc (.int .i64 b), .sl (.int .i64) sh false], true, 29, false, false, none⟩, some ⟨[.sl (.int .i64) ya false, .sl (.int .i64) ti false], true, 30, false, false, none⟩, some ⟨[.run (.ilist .i64) out], false, t, false, false, none⟩, some ⟨[.run (.int .i64) []], false, 0, false, false, none⟩] => l19_10t sh ya ti out t a b i n
  | _, _, _ => .fail
theorem l19_10_ok {T : Tab} (hT : TabOK T) (hlo : loopOf T.fn 19 10 = some (lpc T 19 10)) (h : ∀ (sh ya ti : List Int) (out : List (List Int)) (t : TypeId) (a b i : Int) (n : Nat) (r : Out × List AV × Hp), (l19_10t sh ya ti out t a b i n).val = some r → ∃ mm, lpRun T 19 10 0 (lpc T 19 10) mm [ps 0, ps 1, osW 2 n, vi i, osW 3 0, vi 0] [some (rP a b sh 29), some (rY ya ti), some (rowL out t), some (rowI [] 0)] = some r) : ∀ base kv H o kv' H', (l19_10 base kv H).val = some (o, kv', H') → LoopOK T 19 10 base kv H o kv' H' := by
  intro base kv H o kv' H' hv
  unfold l19_10 at hv
  split at hv
  · rename_i hb
    obtain rfl := Nat.eq_of_beq_eq_true hb
    exact loop_ok hT hlo (h _ _ _ _ _ _ _ _ _ _ hv)
  · cases hv
noncomputable def U2 : Tab := U0 16
noncomputable def V1 : Tab := (U2).addLoop 19 10 l19_10
theorem nl19_6 (again : Ag) (sh ya ti : List Int) (out : List (List Int)) (t : TypeId) (a b i : Int) : lpStep V1 19 6 0 (lpc V1 19 6) again [ps 0, ps 1, osW 2 out.length, vi i] [some (rP a b sh 29), some (rY ya ti), some (rowL out t)] = (bif decide (i < (↑ya.length : Int)) then bif Lan.side a b && sm sh && decide (ti.length ≤ 3) && decide (ya.length ≤ 3) && decide (0 ≤ i) && decide (i < (↑ya.length : Int)) && Lan.onP a b (ya.getD i.toNat 0) then bif room (out.length + 1) 24 then again [.ps 0 0 0 0, .ps 1 0 0 0, osW 2 (out.length + 1), vi (IntKind.i64.wrap (i + 1))] [some ⟨[vi a, vi b, .sl (.int .i64) sh false], true, 29, false, false, none⟩, some ⟨[.sl (.int .i64) ya false, .sl (.int .i64) ti false], true, 30, false, false, none⟩, some ⟨[.run (.ilist .i64) (out ++ [Lan.rowR a b sh ti (ya.getD i.toNat 0)])], false, 22, false, false, none⟩] else none else none else some (.ext 0, [.ps 0 0 0 0, .ps 1 0 0 0, osW 2 out.length, vi i], [some ⟨[vi a, vi b, .sl (.int .i64) sh false], true, 29, false, false, none⟩, some ⟨[.sl (.int .i64) ya false, .sl (.int .i64) ti false], true, 30, false, false, none⟩, some ⟨[.run (.ilist .i64) out], false, t, false, false, none⟩])) := by kernel_rfl
def l19_6t (sh ya ti : List Int) (a b : Int) : Tree (Out × List AV × Hp) := .br (Lan.side a b && sm sh && decide (ti.length ≤ 3) && decide (ya.length ≤ 3) && (ya.all fun x => Lan.onP a b x)) (.leaf (.ext 0, [ps 0, ps 1, osW 2 ya.length, vi ya.length], [some (rP a b sh 29), some (rY ya ti), some (rL (ya.map fun x => Lan.rowR a b sh ti x))])) .fail
def l19_6 (base : Nat) (kv : List AV) (H : Hp) : Tree (Out × List AV × Hp) := match Nat.beq base 0, kv, H with
  | true, [(.ps 0 0 0 0), (.ps 1 0 0 0), (.os 2 0 0 0 true false true), (.sc (.int .i64 0))], [some ⟨[.sc (.int .i64 a), .sc (.int .i64 b), .sl (.int .i64) sh false], true, 29, false, false, none⟩, some ⟨[.sl (.int .i64) ya false, .sl (.int .i64) ti false], true, 30, false, false, none⟩, some ⟨[.run (.ilist .i64) []], false, 0, false, false, none⟩] => l19_6t sh ya ti a b
  | _, _, _ => .fail
theorem l19_6_ok {T : Tab} (hT : TabOK T) (hlo : loopOf T.fn 19 6 = some (lpc T 19 6)) (h : ∀ (sh ya ti : List Int) (a b : Int) (r : Out × List AV × Hp), (l19_6t sh ya ti a b).val = some r → ∃ mm, lpRun T 19 6 0 (lpc T 19 6) mm [ps 0, ps 1, osW 2 0, vi 0] [some (rP a b sh 29), some (rY ya ti), some (rowL [] 0)] = some r) : ∀ base kv H o kv' H', (l19_6 base kv H).val = some (o, kv', H') → LoopOK T 19 6 base kv H o kv' H' := by
  intro base kv H o kv' H' hv
  unfold l19_6 at hv
  split at hv
  · rename_i hb
    obtain rfl := Nat.eq_of_beq_eq_true hb
    exact loop_ok hT hlo (h _ _ _ _ _ _ hv)
  · cases hv
noncomputable def V2 : Tab := (V1).addLoop 19 6 l19_6
theorem nf19 (sh ya ti : List Int) (a b : Int) : evBody V2 19 [aP a b sh, aX ya ti] [] = (bif sm sh && sm ya && sm ti then bif Lan.chk a b sh ya ti != 0 then some (.tuple [osW 0 0, vi (Lan.chk a b sh ya ti)], [some ⟨[.run (.ilist .i64) []], false, 0, false, false, none⟩]) else bif Lan.side a b && sm sh && decide (ti.length ≤ 3) && decide (ya.length ≤ 3) && ya.all fun x => Lan.onP a b x then some (.tuple [osW 0 ya.length, vi 0], [some ⟨[.run (.ilist .i64) (List.map (fun x => Lan.rowR a b sh ti x) ya)], false, Lane.tyL (List.map (fun x => Lan.rowR a b sh ti x) ya), false, false, none⟩]) else none else none) := by kernel_rfl
def _root_.Lan.wayE (a b : Int) (sh ya ti : List Int) (fr to : Int) : Int := bif Lan.chk a b sh ya ti != 0 then Lan.chk a b sh ya ti else bif Lan.wrongB a b fr || Lan.wrongB a b to then 2 else 0
def _root_.Lan.cv (a b : Int) (sh : List Int) (fr to : Int) : Int := (Lan.cntL a b to (Lan.ofN sh)).getD fr.toNat 0
def c16t (sh ya ti : List Int) (a b fr to : Int) : Tree (AV × Hp) := .br (sm sh && sm ya && sm ti) (.leaf (.tuple [vi (bif Lan.wayE a b sh ya ti fr to == 0 then Lan.cv a b sh fr to else 0), vi (Lan.wayE a b sh ya ti fr to)], [])) .fail
def c16 (args : List AV) (H : Hp) : Tree (AV × Hp) := match args, H with
  | [(.agg [.sc (.int .i64 a), .sc (.int .i64 b), .sl (.int .i64) sh false] false), (.agg [.sl (.int .i64) ya false, .sl (.int .i64) ti false] false), (.sc (.int .i64 fr)), (.sc (.int .i64 to))], [] => c16t sh ya ti a b fr to
  | _, _ => .fail
theorem c16_ok {T : Tab} (hT : TabOK T) (h : ∀ (sh ya ti : List Int) (a b fr to : Int) (r : AV × Hp), (c16t sh ya ti a b fr to).val = some r → evBody T 16 [aP a b sh, aX ya ti, vi fr, vi to] [] = some r) : ∀ args H v H', (c16 args H).val = some (v, H') → CallOK T 16 args H v H' := by
  intro args H v H' hv
  unfold c16 at hv
  split at hv
  · exact evBody_sound hT (h _ _ _ _ _ _ _ _ hv)
  · cases hv
def c17t (sh ya ti : List Int) (a b fr to : Int) : Tree (AV × Hp) := .br (sm sh && sm ya && sm ti) (.leaf (.tuple [vi (bif Lan.wayE a b sh ya ti fr to == 0 then Lan.wc a b sh fr to else 0), vi (Lan.wayE a b sh ya ti fr to)], [])) .fail
def c17 (args : List AV) (H : Hp) : Tree (AV × Hp) := match args, H with
  | [(.agg [.sc (.int .i64 a), .sc (.int .i64 b), .sl (.int .i64) sh false] false), (.agg [.sl (.int .i64) ya false, .sl (.int .i64) ti false] false), (.sc (.int .i64 fr)), (.sc (.int .i64 to))], [] => c17t sh ya ti a b fr to
  | _, _ => .fail
theorem c17_ok {T : Tab} (hT : TabOK T) (h : ∀ (sh ya ti : List Int) (a b fr to : Int) (r : AV × Hp), (c17t sh ya ti a b fr to).val = some r → evBody T 17 [aP a b sh, aX ya ti, vi fr, vi to] [] = some r) : ∀ args H v H', (c17 args H).val = some (v, H') → CallOK T 17 args H v H' := by
  intro args H v H' hv
  unfold c17 at hv
  split at hv
  · exact evBody_sound hT (h _ _ _ _ _ _ _ _ hv)
  · cases hv
def c19t (sh ya ti : List Int) (a b : Int) : Tree (AV × Hp) := .br (sm sh && sm ya && sm ti) (.br (Lan.chk a b sh ya ti == 0) (.leaf (.tuple [osW 0 ya.length, vi 0], [some (rL (ya.map fun x => Lan.rowR a b sh ti x))])) (.leaf (.tuple [osW 0 0, vi (Lan.chk a b sh ya ti)], [some (rowL [] 0)]))) .fail
def c19 (args : List AV) (H : Hp) : Tree (AV × Hp) := match args, H with
  | [(.agg [.sc (.int .i64 a), .sc (.int .i64 b), .sl (.int .i64) sh false] false), (.agg [.sl (.int .i64) ya false, .sl (.int .i64) ti false] false)], [] => c19t sh ya ti a b
  | _, _ => .fail
theorem c19_ok {T : Tab} (hT : TabOK T) (h : ∀ (sh ya ti : List Int) (a b : Int) (r : AV × Hp), (c19t sh ya ti a b).val = some r → evBody T 19 [aP a b sh, aX ya ti] [] = some r) : ∀ args H v H', (c19 args H).val = some (v, H') → CallOK T 19 args H v H' := by
  intro args H v H' hv
  unfold c19 at hv
  split at hv
  · exact evBody_sound hT (h _ _ _ _ _ _ hv)
  · cases hv
end Go.Ev.Lane
namespace Lan
open Go
theorem last_snoc (l : List Int) (x : Int) : lastI (l ++ [x]) = x := by
  unfold lastI
  rw [List.length_append, List.length_singleton, Nat.add_sub_cancel, List.getD_eq_getElem?_getD, List.getElem?_append_right (Nat.le_refl _), Nat.sub_self]
  rfl
theorem last_get {l : List Int} (h : l ≠ []) : l[l.length - 1]? = some (lastI l) := get_getD (by have := List.length_pos_iff.2 h; omega)
theorem step_next {b x y : Int} (h : stepR b x y = true) : y = x + 1 ∨ y = x + b := by
  unfold stepR at h
  cases h1 : (y == x + 1) with
  | true => exact .inl (beq_iff_eq.1 h1)
  | false =>
    rw [h1, Bool.false_and, cond_false] at h
    exact .inr (beq_iff_eq.1 h)
theorem wN_lenW {b to : Int} {sh : List Int} {f : Nat} (hF : ∀ m, m ≤ f → ∀ l, (wF b to sh m l).length ≤ 2 ^ m) (l : List Int) : ∀ i, i ≤ f → (wN b to sh f l i).length + 2 ^ (f - i + 1) ≤ 1 + 2 ^ (f + 1)
  | 0, _ => by
    have : (wN b to sh f l 0).length ≤ 1 := by
      unfold wN wB
      cases lastI l == to <;> simp
    rw [Nat.sub_zero]
    omega
  | i + 1, hi => by
    have ih := wN_lenW hF l i (by omega)
    rw [wN_succ, List.length_append]
    have e : 2 ^ (f - i + 1) = 2 * 2 ^ (f - i) := by rw [Nat.pow_succ]; omega
    rw [show f - (i + 1) + 1 = f - i by omega]
    have h2 : (bif stepR b (lastI l) (lastI l + 1 + i) then wF b to sh (f - i) (l ++ [lastI l + 1 + i]) else []).length ≤ 2 ^ (f - i) := by
      cases stepR b (lastI l) (lastI l + 1 + i) with
      | true => exact hF (f - i) (by omega) _
      | false => exact Nat.zero_le _
    omega
theorem wF_len (b to : Int) (sh : List Int) : ∀ (f m : Nat), m ≤ f → ∀ l, (wF b to sh m l).length ≤ 2 ^ m
  | f, 0, _, l => by rw [wF]; exact Nat.zero_le _
  | 0, m + 1, h, l => by omega
  | f + 1, m + 1, h, l => by
    rw [wF_succ]
    cases has sh (lastI l) with
    | true => exact Nat.zero_le _
    | false =>
      have := wN_lenW (b := b) (to := to) (sh := sh) (f := m) (fun q hq l => wF_len b to sh f q (by omega) l) l m (Nat.le_refl _)
      rw [Nat.sub_self] at this
      rw [cond_false]
      omega
theorem wN_len (b to : Int) (sh : List Int) (f : Nat) (l : List Int) (i : Nat) (h : i ≤ f) (hf : f ≤ 15) : (wN b to sh f l i).length ≤ 65537 := by
  have h1 := wN_lenW (b := b) (to := to) (sh := sh) (f := f) (fun m hm l => wF_len b to sh f m hm l) l i h
  have h2 : 2 ^ (f + 1) ≤ 2 ^ 16 := Nat.pow_le_pow_right (by decide) (by omega)
  have h3 : (2 : Nat) ^ 16 = 65536 := by decide
  have h4 := Nat.le_trans (Nat.le_add_right _ _) h1
  omega
end Lan
namespace Go.Ev.Lane
open Go Go.Ev
set_option maxRecDepth 1000000
set_option linter.unusedVariables false
set_option linter.unusedSimpArgs false
theorem l71_8_run (d : Nat) (hT : TabOK (U0 d)) : ∀ base kv H o kv' H', (l71_8 d base kv H).val = some (o, kv', H') → LoopOK (U0 d) 71 8 base kv H o kv' H' := l71_8_ok d hT (by kernel_rfl) (by
  intro l sh out ty a b to t n k r hv
  obtain ⟨hl, hv2⟩ := guard_val hv
  simp only [Bool.and_eq_true, decide_eq_true_eq] at hl
  obtain ⟨⟨⟨⟨⟨⟨hg, rfl⟩, rfl⟩, rfl⟩, rfl⟩, rfl⟩, hd⟩ := hl
  unfold Lan.wayG at hg
  simp only [Bool.and_eq_true, decide_eq_true_eq, Bool.not_eq_true', List.isEmpty_eq_false_iff] at hg
  obtain ⟨⟨⟨⟨⟨hs, hsm⟩, hne⟩, x0⟩, x1⟩, hlen⟩ := hg
  obtain ⟨e1, e2, e3⟩ := Lan.wrong_wrap hs
  obtain ⟨h1, h2, h3, h4⟩ := side_yes hs
  obtain ⟨t, ht⟩ : ∃ t : Nat, Lan.lastI l = (t : Int) := Int.eq_ofNat_of_zero_le x0
  obtain ⟨f, hf⟩ : ∃ f : Nat, a * b - (t : Int) - 1 = (f : Int) := Int.eq_ofNat_of_zero_le (by omega)
  rw [leaf_val hv2]
  rw [ht] at hd ⊢
  rw [hf, toNat_cast]
  have hp : 0 < l.length := List.length_pos_iff.2 hne
  obtain ⟨mm, hm⟩ := steps_of (T := U0 d) (fid := 71) (lid := 8) (base := 0) (c := lpc (U0 d) 71 8) f
    (fun i => [lI l, vi to, ps 0, vi t, osW 1 (Lan.wN b to sh f l i).length, vi ((t : Int) + 1 + i)]) (fun i => [some (rP a b sh 29), some (rowL (Lan.wN b to sh f l i) (Lan.tyW b to l i))])
    (.ext 0, [lI l, vi to, ps 0, vi t, osW 1 (Lan.wN b to sh f l f).length, vi (a * b)], [some (rP a b sh 29), some (rowL (Lan.wN b to sh f l f) (Lan.tyW b to l f))])
    (fun i hi again => by
      rw [nl71, e1, hs, decide_eq_true (show (t : Int) + 1 + i < a * b by omega), decide_eq_true (show (0 : Int) ≤ (t : Int) by omega), decide_eq_true (show (t : Int) < 16 by omega), wrapi (x := (t : Int) + 1 + i + 1) (by omega) (by omega), Lan.wN_succ, Lan.tyW_succ, ht, show (t : Int) + 1 + (i + 1 : Nat) = (t : Int) + 1 + i + 1 by omega]
      simp only [cond_true, Bool.and_self]
      cases hst : Lan.stepR b (t : Int) ((t : Int) + 1 + i) with
      | false => simp only [cond_false, List.append_nil]
      | true =>
        have hla : Lan.lastI (l ++ [(t : Int) + 1 + i]) = (t : Int) + 1 + i := Lan.last_snoc _ _
        have hwG : Lan.wayG a b sh (l ++ [(t : Int) + 1 + i]) = true := by
          unfold Lan.wayG
          rw [hla, hs, hsm]
          simp only [List.length_append, List.length_singleton, Bool.and_eq_true, decide_eq_true_eq, Bool.not_eq_true', List.isEmpty_eq_false_iff, true_and, Bool.true_and]
          refine ⟨⟨⟨by simp, by omega⟩, by omega⟩, by omega⟩
        have hR : Lan.wR a b to sh (l ++ [(t : Int) + 1 + i]) = Lan.wF b to sh (f - i) (l ++ [(t : Int) + 1 + i]) := by
          unfold Lan.wR
          rw [hla]
          congr 1
          omega
        have hroom := Lan.wN_len b to sh f l (i + 1) (by omega) (by omega)
        rw [Lan.wN_succ, ht, hst, cond_true, List.length_append] at hroom
        simp only [cond_true, cond_false, decide_eq_true hp, List.nil_append, room_ok (show 0 + l.length ≤ 1000000 by omega) (show 8 ≤ 200 by omega), room_ok (show 0 + l.length + 1 ≤ 1000000 by omega) (show 8 ≤ 200 by omega), hwG, hla, Bool.true_and, decide_eq_true (show a * b - ((t : Int) + 1 + i) ≤ (d : Int) by omega), hR, List.length_append]
        rw [room_ok (by omega) (by omega)]
        rfl)
    (fun again => by
      rw [nl71, e1, decide_eq_false (show ¬ (t : Int) + 1 + f < a * b by omega), show (t : Int) + 1 + f = a * b by omega]
      rfl)
  refine ⟨mm, Eq.trans ?_ hm⟩
  congr 1
  · unfold Lan.wN; simp
  · unfold Lan.wN Lan.tyW Lan.wB; cases (Lan.lastI l == to) <;> simp [tyL])
theorem c71_run (d : Nat) (hT : TabOK (U1 d)) : ∀ args H v H', (c71 (d + 1) args H).val = some (v, H') → CallOK (U1 d) 71 args H v H' := c71_ok (d + 1) hT (by
  intro l sh a b to r hv
  obtain ⟨hl, hv2⟩ := guard_val hv
  simp only [Bool.and_eq_true, decide_eq_true_eq] at hl
  obtain ⟨hg, hd⟩ := hl
  have hwG := hg
  unfold Lan.wayG at hg
  simp only [Bool.and_eq_true, decide_eq_true_eq, Bool.not_eq_true', List.isEmpty_eq_false_iff] at hg
  obtain ⟨⟨⟨⟨⟨hs, hsm⟩, hne⟩, x0⟩, x1⟩, hlen⟩ := hg
  obtain ⟨e1, e2, e3⟩ := Lan.wrong_wrap hs
  have hp : 0 < l.length := List.length_pos_iff.2 hne
  have hq : IntKind.i64.wrap ((l.length : Int) - 1) = ((l.length - 1 : Nat) : Int) := by rw [wrapi (by omega) (by omega)]; omega
  obtain ⟨f, hf⟩ : ∃ f : Nat, a * b - Lan.lastI l - 1 = (f : Int) := Int.eq_ofNat_of_zero_le (by omega)
  rw [nf71, leaf_val hv2, hq, dec_ge, dec_lt (show l.length - 1 < l.length by omega), toNat_cast, Lan.last_get hne]
  unfold Lan.wR Lan.tyR
  rw [show (a * b - Lan.lastI l).toNat = f + 1 by omega, Lan.wF_succ, hf, toNat_cast]
  simp only [oM, cond_true, hsm]
  cases hh : Lan.has sh (Lan.lastI l) with
  | true => rfl
  | false =>
    have hw : Lan.wB to l = bif Lan.lastI l == to then [l] else [] := rfl
    cases ht : Lan.lastI l == to with
    | true =>
      rw [ht, cond_true] at hw
      simp only [cond_true, cond_false, hwG, hw, List.nil_append, wrapi (x := Lan.lastI l + 1) (by omega) (by omega), decide_true, tyL, decide_eq_true (show a * b - Lan.lastI l ≤ (d : Int) + 1 by omega), Bool.and_self, hf, toNat_cast]
    | false =>
      rw [ht, cond_false] at hw
      simp only [cond_true, cond_false, hwG, hw, List.nil_append, wrapi (x := Lan.lastI l + 1) (by omega) (by omega), decide_true, tyL, decide_eq_true (show a * b - Lan.lastI l ≤ (d : Int) + 1 by omega), Bool.and_self, hf, toNat_cast])
theorem c71_zero : ∀ args H, (c71 0 args H).val = none := by
  intro args H
  cases hr : (c71 0 args H).val with
  | none => rfl
  | some r =>
    exfalso
    unfold c71 at hr
    split at hr
    · obtain ⟨hg, _⟩ := guard_val hr
      unfold Lan.wayG at hg
      simp only [Bool.and_eq_true, decide_eq_true_eq] at hg
      omega
    · cases hr
theorem U0_ok : ∀ d, TabOK (U0 d)
  | 0 => T11_ok.addCall fun a H v H' hv => by rw [c71_zero] at hv; cases hv
  | d + 1 => by
    have h0 := U0_ok d
    have h1 : TabOK (U1 d) := h0.addLoop fun b k H o k' H' hv => by refine LoopOK.tab ?_ ?_ ?_ ?_ (l71_8_run d h0 b k H o k' H' hv) <;> rfl
    exact T11_ok.addCall fun a H v H' hv => by refine CallOK.tab ?_ ?_ (c71_run d h1 a H v H' hv) <;> rfl
end Go.Ev.Lane
namespace Lan
open Go
theorem fx_inl {β : Type} (err : Nat → β → Int) : ∀ (l : List β) (i : Nat) (x : Int × Nat), Ev.foldX (fun i (_ : Unit) p => bif err i p == 0 then .inr () else .inl (err i p, i)) i l () = .inl x → x.1 ≠ 0
  | [], i, x, h => by cases h
  | y :: l, i, x, h => by
    simp only [Ev.foldX] at h
    cases he : err i y == 0 with
    | true => rw [he] at h; exact fx_inl err l (i + 1) x h
    | false =>
      rw [he] at h
      cases h
      exact beq_eq_false_iff_ne.1 he
theorem fx_inr {β : Type} (err : Nat → β → Int) : ∀ (l : List β) (i : Nat), Ev.foldX (fun i (_ : Unit) p => bif err i p == 0 then .inr () else .inl (err i p, i)) i l () = .inr () → ∀ k x, l[k]? = some x → err (i + k) x = 0
  | [], i, h, k, x, hx => by simp at hx
  | y :: l, i, h, k, x, hx => by
    simp only [Ev.foldX] at h
    cases he : err i y == 0 with
    | false => rw [he] at h; cases h
    | true =>
      rw [he] at h
      cases k with
      | zero => simp at hx; subst hx; exact beq_iff_eq.1 he
      | succ k =>
        have := fx_inr err l (i + 1) h k x (by simpa using hx)
        rw [show i + (k + 1) = i + 1 + k by omega]
        exact this
theorem firstE_zero {β : Type} {err : Nat → β → Int} {l : List β} (h : firstE err l = 0) : ∀ k x, l[k]? = some x → err k x = 0 := by
  unfold firstE firstX at h
  cases hf : Ev.foldX (fun i (_ : Unit) p => bif err i p == 0 then .inr () else .inl (err i p, i)) 0 l () with
  | inl x => rw [hf] at h; exact absurd h (fx_inl err l 0 x hf)
  | inr u =>
    intro k x hx
    have := fx_inr err l 0 hf k x hx
    rwa [Nat.zero_add] at this
theorem onP_wrong {a b x : Int} : onP a b x = !wrongB a b x := by
  unfold onP wrongB
  rw [Bool.eq_iff_iff]
  simp only [Bool.and_eq_true, decide_eq_true_eq, Bool.not_eq_true', Bool.or_eq_false_iff, decide_eq_false_iff_not]
  omega
structure ChkOK (a b : Int) (sh ya ti : List Int) : Prop where
  side : side a b = true
  shut : ∀ x ∈ sh, onP a b x = true
  yards : ∀ x ∈ ya, onP a b x = true
  tips : ∀ x ∈ ti, onP a b x = true
  len : ya.length = ti.length
  pos : 1 ≤ ya.length
  few : ya.length ≤ 3
theorem asc_in {a b : Int} {l : List Int} (h : ascE a b l = 0) : ∀ x ∈ l, onP a b x = true := by
  intro x hx
  obtain ⟨k, hk⟩ := List.getElem?_of_mem hx
  have := firstE_zero h k x hk
  rw [onP_wrong]
  unfold ascErr at this
  cases hw : wrongB a b x with
  | false => rfl
  | true => rw [hw] at this; cases this
theorem pl_in {a b : Int} {sh l : List Int} (h : plE a b sh l = 0) : ∀ x ∈ l, onP a b x = true := by
  intro x hx
  obtain ⟨k, hk⟩ := List.getElem?_of_mem hx
  have := firstE_zero h k x hk
  rw [onP_wrong]
  unfold plErr at this
  cases hw : wrongB a b x with
  | false => rfl
  | true => rw [hw] at this; cases this
theorem chk_ok {a b : Int} {sh ya ti : List Int} (h : chk a b sh ya ti = 0) : ChkOK a b sh ya ti := by
  unfold chk at h
  cases h1 : Lan.side a b with
  | false => rw [h1] at h; cases h
  | true =>
  rw [h1, Bool.not_true, cond_false] at h
  cases h2 : ascE a b sh != 0 with
  | true => rw [h2, cond_true] at h; rw [h] at h2; cases h2
  | false =>
  rw [h2, cond_false] at h
  cases h3 : decide (ya.length ≠ ti.length) with
  | true => rw [h3] at h; cases h
  | false =>
  rw [h3, cond_false] at h
  cases h4 : decide (ya.length = 0) with
  | true => rw [h4] at h; cases h
  | false =>
  rw [h4, cond_false] at h
  cases h5 : decide (3 < ya.length) with
  | true => rw [h5] at h; cases h
  | false =>
  rw [h5, cond_false] at h
  cases h6 : plE a b sh ya != 0 with
  | true => rw [h6, cond_true] at h; rw [h] at h6; cases h6
  | false =>
  rw [h6, cond_false] at h
  have h2 : ascE a b sh = 0 := by simpa using h2
  have h6 : plE a b sh ya = 0 := by simpa using h6
  exact ⟨h1, asc_in h2, pl_in h6, pl_in h, by simpa using h3, by have := of_decide_eq_false h4; omega, by have := of_decide_eq_false h5; omega⟩
theorem ChkOK.in16 {a b : Int} {sh ya ti : List Int} (h : ChkOK a b sh ya ti) : in16 sh = true := by
  unfold Lan.in16
  rw [List.all_eq_true]
  intro x hx
  have h1 := h.shut x hx
  obtain ⟨e1, e2, e3⟩ := wrong_wrap h.side
  unfold onP at h1
  simp only [Bool.and_eq_true, decide_eq_true_eq] at *
  omega
theorem way_one {a b x : Int} {sh : List Int} (hs : side a b = true) (hsm : Ev.sm sh = true) (h : onP a b x = true) : wayG a b sh [x] = true ∧ a * b - lastI [x] ≤ 16 := by
  obtain ⟨e1, e2, e3⟩ := wrong_wrap hs
  unfold onP at h
  simp only [Bool.and_eq_true, decide_eq_true_eq] at h
  have hl : lastI [x] = x := rfl
  refine ⟨?_, by rw [hl]; omega⟩
  unfold wayG
  rw [hl, hs, hsm, decide_eq_true h.1, decide_eq_true h.2]
  simp only [List.length_singleton, List.isEmpty_cons, Bool.not_false, Bool.and_self, Bool.true_and]
  exact decide_eq_true (by omega)
end Lan
namespace Go.Ev.Lane
open Go Go.Ev
set_option maxRecDepth 1000000
set_option linter.unusedVariables false
set_option linter.unusedSimpArgs false
theorem U2_ok : TabOK U2 := U0_ok 16
theorem l19_10_run : ∀ base kv H o kv' H', (l19_10 base kv H).val = some (o, kv', H') → LoopOK U2 19 10 base kv H o kv' H' := l19_10_ok U2_ok (by kernel_rfl) (by
  intro sh ya ti out t a b i n r hv
  obtain ⟨hl, hv2⟩ := guard_val hv
  simp only [Bool.and_eq_true, decide_eq_true_eq] at hl
  obtain ⟨⟨⟨⟨⟨⟨hs, hsm⟩, ht3⟩, hy3⟩, i0⟩, i1⟩, hon⟩ := hl
  obtain ⟨i, rfl⟩ := Int.eq_ofNat_of_zero_le i0
  rw [toNat_cast] at hon
  have hi : i < ya.length := by omega
  obtain ⟨w1, w2⟩ := Lan.way_one hs hsm hon
  let W : Nat → List Int := fun k => (ti.take k).map fun t => Lan.wc a b sh (ya.getD i 0) t
  have hWl : ∀ k, k ≤ ti.length → (W k).length = k := fun k hk => by show ((ti.take k).map _).length = k; rw [List.length_map, List.length_take]; omega
  have hWs : ∀ k (hk : k < ti.length), W (k + 1) = W k ++ [Lan.wc a b sh (ya.getD i 0) (ti.getD k 0)] := fun k hk => by
    show (ti.take (k + 1)).map _ = (ti.take k).map _ ++ _
    rw [List.take_add_one, Lan.get_getD hk, List.map_append]; rfl
  obtain ⟨mm, hm⟩ := steps_of (T := U2) (fid := 19) (lid := 10) (base := 0) (c := lpc U2 19 10) ti.length
    (fun k => [ps 0, ps 1, osW 2 n, vi i, osW 3 (W k).length, vi (k : Nat)]) (fun k => [some (rP a b sh 29), some (rY ya ti), some (rowL out t), some (rowI (W k) (match k with | 0 => 0 | _ + 1 => 3))])
    (.ext 2, [ps 0, ps 1, osW 2 n, vi i, osW 3 (W ti.length).length, vi ti.length], [some (rP a b sh 29), some (rY ya ti), some (rowL out t), some (rowI (W ti.length) (match ti.length with | 0 => 0 | _ + 1 => 3))])
    (fun k hk again => by
      have hl := hWl k (by omega)
      refine (nl19_10 ..).trans ?_
      simp only [dec_lt hk, dec_lt hi, dec_ge, toNat_cast, Lan.get_getD hk, Lan.get_getD hi, oM, cond_true, w1, Bool.true_and]
      rw [show decide (a * b - Lan.lastI [ya.getD i 0] ≤ 16) = true from decide_eq_true w2, room_ok (n := (W k).length + 1) (b := 8) (by omega) (by omega), wrap_succ (by omega), hWs k hk, List.length_append]
      rfl)
    (fun again => by
      refine (nl19_10 ..).trans ?_
      simp only [dec_ll, cond_false])
  refine ⟨mm, hm.trans ?_⟩
  rw [leaf_val hv2, hWl _ (Nat.le_refl _), toNat_cast]
  have e : W ti.length = Lan.rowR a b sh ti (ya.getD i 0) := by
    show (ti.take ti.length).map _ = _
    rw [List.take_length]; rfl
  rw [e]
  cases ti <;> rfl)
theorem V1_ok : TabOK V1 := by
  have h := U2_ok
  have h := h.addLoop (g := 19) (lid := 10) (r := l19_10) fun b k H o k' H' hv => by refine LoopOK.tab ?_ ?_ ?_ ?_ (l19_10_run b k H o k' H' hv) <;> rfl
  exact h
theorem l19_6_run : ∀ base kv H o kv' H', (l19_6 base kv H).val = some (o, kv', H') → LoopOK V1 19 6 base kv H o kv' H' := l19_6_ok V1_ok (by kernel_rfl) (by
  intro sh ya ti a b r hv
  obtain ⟨hl, hv2⟩ := guard_val hv
  simp only [Bool.and_eq_true, decide_eq_true_eq] at hl
  obtain ⟨⟨⟨⟨hs, hsm⟩, ht3⟩, hy3⟩, hon⟩ := hl
  rw [List.all_eq_true] at hon
  let W : Nat → List (List Int) := fun k => (ya.take k).map fun x => Lan.rowR a b sh ti x
  have hWl : ∀ k, k ≤ ya.length → (W k).length = k := fun k hk => by show ((ya.take k).map _).length = k; rw [List.length_map, List.length_take]; omega
  have hWs : ∀ k (hk : k < ya.length), W (k + 1) = W k ++ [Lan.rowR a b sh ti (ya.getD k 0)] := fun k hk => by
    show (ya.take (k + 1)).map _ = (ya.take k).map _ ++ _
    rw [List.take_add_one, Lan.get_getD hk, List.map_append]; rfl
  obtain ⟨mm, hm⟩ := steps_of (T := V1) (fid := 19) (lid := 6) (base := 0) (c := lpc V1 19 6) ya.length
    (fun k => [ps 0, ps 1, osW 2 (W k).length, vi (k : Nat)]) (fun k => [some (rP a b sh 29), some (rY ya ti), some (rowL (W k) (match k with | 0 => 0 | _ + 1 => 22))])
    (.ext 0, [ps 0, ps 1, osW 2 (W ya.length).length, vi ya.length], [some (rP a b sh 29), some (rY ya ti), some (rowL (W ya.length) (match ya.length with | 0 => 0 | _ + 1 => 22))])
    (fun k hk again => by
      have hl := hWl k (by omega)
      have ho := hon _ (List.mem_of_getElem? (Lan.get_getD hk))
      refine (nl19_6 ..).trans ?_
      simp only [dec_lt hk, dec_ge, toNat_cast, cond_true, hs, hsm, ho, decide_eq_true ht3, decide_eq_true hy3, Bool.and_self]
      rw [room_ok (n := (W k).length + 1) (b := 24) (by omega) (by omega), wrap_succ (by omega), hWs k hk, List.length_append]
      rfl)
    (fun again => by
      refine (nl19_6 ..).trans ?_
      simp only [dec_ll, cond_false])
  refine ⟨mm, hm.trans ?_⟩
  rw [leaf_val hv2, hWl _ (Nat.le_refl _)]
  have e : W ya.length = ya.map fun x => Lan.rowR a b sh ti x := by
    show (ya.take ya.length).map _ = _
    rw [List.take_length]
  rw [e]
  cases ya <;> rfl)
theorem V2_ok : TabOK V2 := by
  have h := V1_ok
  have h := h.addLoop (g := 19) (lid := 6) (r := l19_6) fun b k H o k' H' hv => by refine LoopOK.tab ?_ ?_ ?_ ?_ (l19_6_run b k H o k' H' hv) <;> rfl
  exact h
theorem all_of {l : List Int} {p : Int → Bool} (h : ∀ x ∈ l, p x = true) : l.all p = true := List.all_eq_true.2 h
theorem c19_run : ∀ args H v H', (c19 args H).val = some (v, H') → CallOK V2 19 args H v H' := c19_ok V2_ok (by
  intro sh ya ti a b r hv
  obtain ⟨hl, hv2⟩ := guard_val hv
  simp only [Bool.and_eq_true] at hl
  obtain ⟨⟨h1, h2⟩, h3⟩ := hl
  rw [nf19, h1, h2, h3]
  rcases br_val hv2 with ⟨h, hv⟩ | ⟨h, hv⟩
  · have h0 := beq_iff_eq.1 h
    have hk := Lan.chk_ok h0
    rw [leaf_val hv, h0]
    simp only [bne_self_eq_false, cond_false, cond_true, Bool.and_self, hk.side, all_of hk.yards, decide_eq_true hk.few, decide_eq_true (show ti.length ≤ 3 by have := hk.len; have := hk.few; omega)]
  · rw [leaf_val hv]
    have : (Lan.chk a b sh ya ti != 0) = true := by rw [bne, h]; rfl
    simp only [this, cond_true, Bool.and_self])
theorem c16_run : ∀ args H v H', (c16 args H).val = some (v, H') → CallOK T11 16 args H v H' := c16_ok T11_ok (by
  intro sh ya ti a b fr to r hv
  obtain ⟨hl, hv2⟩ := guard_val hv
  simp only [Bool.and_eq_true] at hl
  obtain ⟨⟨h1, h2⟩, h3⟩ := hl
  rw [nf16, h1, h2, h3, leaf_val hv2]
  unfold Lan.wayE
  cases hc : Lan.chk a b sh ya ti != 0 with
  | true =>
    simp only [cond_true, Bool.and_self]
    rw [show (Lan.chk a b sh ya ti == 0) = false by rw [bne] at hc; simpa using hc]
    rfl
  | false =>
    have hk := Lan.chk_ok (by simpa using hc)
    simp only [cond_true, cond_false, Bool.and_self, hk.side]
    cases hf : Lan.wrongB a b fr with
    | true => rfl
    | false =>
      cases ht : Lan.wrongB a b to with
      | true => rfl
      | false =>
        have e1 : Lan.onP a b fr = true := by rw [Lan.onP_wrong, hf]; rfl
        have e2 : Lan.onP a b to = true := by rw [Lan.onP_wrong, ht]; rfl
        unfold Lan.onP at e1 e2
        simp only [Bool.and_eq_true, decide_eq_true_eq] at e1 e2
        obtain ⟨w1, w2, w3⟩ := Lan.wrong_wrap hk.side
        have hlen : (Lan.cntL a b to (Lan.ofN sh)).length = (a * b).toNat := Lan.cntW_len a b to (Lan.ofN sh) (to.toNat + 1)
        have hg : (Lan.cntL a b to (Lan.ofN sh))[fr.toNat]? = some (Lan.cv a b sh fr to) := Lan.get_getD (by omega)
        simp only [cond_true, cond_false, Bool.or_self, Bool.and_self, decide_eq_true e2.1, decide_eq_true e2.2, decide_eq_true e1.1, decide_eq_true (show fr < ((a * b).toNat : Int) by omega), h1, hk.in16, hg, oM]
        rfl)
theorem c17_run : ∀ args H v H', (c17 args H).val = some (v, H') → CallOK U2 17 args H v H' := c17_ok U2_ok (by
  intro sh ya ti a b fr to r hv
  obtain ⟨hl, hv2⟩ := guard_val hv
  simp only [Bool.and_eq_true] at hl
  obtain ⟨⟨h1, h2⟩, h3⟩ := hl
  refine (nf17 ..).trans ?_
  rw [h1, h2, h3, leaf_val hv2]
  unfold Lan.wayE
  cases hc : Lan.chk a b sh ya ti != 0 with
  | true =>
    rw [show (Lan.chk a b sh ya ti == 0) = false by rw [bne] at hc; simpa using hc]
    simp only [cond_true, cond_false, Bool.and_self]
    rw [show (Lan.chk a b sh ya ti == 0) = false by rw [bne] at hc; simpa using hc]
    rfl
  | false =>
    have h0 : (Lan.chk a b sh ya ti == 0) = true := by rw [bne] at hc; simpa using hc
    have hk := Lan.chk_ok (by simpa using hc)
    simp only [h0, cond_true, cond_false, Bool.and_self, hk.side, Bool.not_not]
    cases hf : Lan.wrongB a b fr with
    | true => rfl
    | false =>
      cases ht : Lan.wrongB a b to with
      | true => rfl
      | false =>
        have e1 : Lan.onP a b fr = true := by rw [Lan.onP_wrong, hf]; rfl
        obtain ⟨w1, w2⟩ := Lan.way_one hk.side h1 e1
        simp only [cond_true, cond_false, Bool.or_self, Bool.and_self, w1, Bool.true_and]
        rw [show decide (a * b - Lan.lastI [fr] ≤ 16) = true from decide_eq_true w2]
        rfl)
end Go.Ev.Lane
