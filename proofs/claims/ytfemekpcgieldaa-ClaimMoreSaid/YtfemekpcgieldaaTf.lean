/- The claim chapter: orders: tables and normal forms. -/
import Derived.Test.YtfemekpcgieldaaLa
import Derived.Test.YtfemekpcgieldaaSb
set_option linter.unusedVariables false
set_option linter.unusedSimpArgs false
namespace Go.Ev.Clm
open Go Go.Ev
set_option maxRecDepth 1000000
set_option linter.unusedVariables false
theorem nf65_1 (z : Nat) : evBody (carried T0 40 20) 65 [lI [-1], vi 1] [] = (some (.os 0 0 0 1 true true true, [some ⟨[.run (.int .i64) [-1]], false, 3, false, false, none⟩])) := by kernel_rfl
theorem nf65_2 (z : Nat) : evBody (carried T0 40 20) 65 [lI [-1], vi 2] [] = (some (.os 0 0 0 2 true true true, [some ⟨[.run (.int .i64) [-1, -1]], false, 3, false, false, none⟩])) := by kernel_rfl
theorem nf65_3 (z : Nat) : evBody (carried T0 40 20) 65 [lI [-1], vi 3] [] = (some (.os 0 0 0 3 true true true, [some ⟨[.run (.int .i64) [-1, -1, -1]], false, 3, false, false, none⟩])) := by kernel_rfl
theorem nf65_4 (z : Nat) : evBody (carried T0 40 20) 65 [lI [-1], vi 4] [] = (some (.os 0 0 0 4 true true true, [some ⟨[.run (.int .i64) [-1, -1, -1, -1]], false, 3, false, false, none⟩])) := by kernel_rfl
theorem nf65_5 (z : Nat) : evBody (carried T0 40 20) 65 [lI [-1], vi 5] [] = (some (.os 0 0 0 5 true true true, [some ⟨[.run (.int .i64) [-1, -1, -1, -1, -1]], false, 3, false, false, none⟩])) := by kernel_rfl
def c65t (x : List Int) (n : Int) : Tree (AV × Hp) := .br (decide (x = [-1]) && decide (1 ≤ n) && decide (n ≤ 5)) (.leaf (osT 0 n.toNat, [some (rowI (List.replicate n.toNat (-1)) 3)])) .fail
def c65 (args : List AV) (H : Hp) : Tree (AV × Hp) := match args, H with
  | [(.sl (.int .i64) x false), (.sc (.int .i64 n))], [] => c65t x n
  | _, _ => .fail
theorem c65_ok {T : Tab} (hT : TabOK T) (h : ∀ (x : List Int) (n : Int) (r : AV × Hp), (c65t x n).val = some r → evBody T 65 [lI x, vi n] [] = some r) : ∀ args H v H', (c65 args H).val = some (v, H') → CallOK T 65 args H v H' := by
  intro args H v H' hv
  unfold c65 at hv
  split at hv
  · exact evBody_sound hT (h _ _ _ hv)
  · cases hv
def c66t (l : List Int) (n : Int) : Tree (AV × Hp) := .br (sm l) (.leaf (vb (Clm.has l n), [])) .fail
def c66 (args : List AV) (H : Hp) : Tree (AV × Hp) := match args, H with
  | [(.sl (.int .i64) l false), (.sc (.int .i64 n))], [] => c66t l n
  | _, _ => .fail
theorem c66_ok {T : Tab} (hT : TabOK T) (h : ∀ (l : List Int) (n : Int) (r : AV × Hp), (c66t l n).val = some r → evBody T 66 [lI l, vi n] [] = some r) : ∀ args H v H', (c66 args H).val = some (v, H') → CallOK T 66 args H v H' := by
  intro args H v H' hv
  unfold c66 at hv
  split at hv
  · exact evBody_sound hT (h _ _ _ hv)
  · cases hv
def l66_2t (l : List Int) (n : Int) : Tree (Out × List AV × Hp) := .br (sm l) (.br (Clm.has l n) (.leaf (.ret, [lI l, vi n, vb true, vi (l.findIdx fun x => x == n : Nat)], [])) (.leaf (.ext 0, [lI l, vi n, vb false, vi l.length], []))) .fail
def l66_2 (base : Nat) (kv : List AV) (H : Hp) : Tree (Out × List AV × Hp) := match Nat.beq base 0, kv, H with
  | true, [(.sl (.int .i64) l false), (.sc (.int .i64 n)), (.sc (.bool false)), (.sc (.int .i64 0))], [] => l66_2t l n
  | _, _, _ => .fail
theorem l66_2_ok {T : Tab} (hT : TabOK T) (hlo : loopOf T.fn 66 2 = some (lpc T 66 2)) (h : ∀ (l : List Int) (n : Int) (r : Out × List AV × Hp), (l66_2t l n).val = some r → ∃ mm, lpRun T 66 2 0 (lpc T 66 2) mm [lI l, vi n, vb false, vi 0] [] = some r) : ∀ base kv H o kv' H', (l66_2 base kv H).val = some (o, kv', H') → LoopOK T 66 2 base kv H o kv' H' := by
  intro base kv H o kv' H' hv
  unfold l66_2 at hv
  split at hv
  · rename_i hb
    obtain rfl := Nat.eq_of_beq_eq_true hb
    exact loop_ok hT hlo (h _ _ _ hv)
  · cases hv
theorem nl66 (again : Ag) (l : List Int) (n i : Int) : lpStep T16 66 2 0 (lpc T16 66 2) again [lI l, vi n, vb false, vi i] [] = (bif decide (i < (↑l.length : Int)) then bif decide (0 ≤ i) then bif decide (i < (↑l.length : Int)) then oM l[i.toNat]? fun x => bif x == n then some (.ret, [.sl (.int .i64) l false, vi n, vb true, vi i], []) else again [.sl (.int .i64) l false, vi n, vb false, vi (IntKind.i64.wrap (i + 1))] [] else none else none else some (.ext 0, [.sl (.int .i64) l false, vi n, vb false, vi i], [])) := by kernel_rfl
noncomputable def T17 : Tab := ((T16).addCall 65 c65).addLoop 66 2 l66_2
theorem nf66 (l : List Int) (n : Int) : evBody T17 66 [lI l, vi n] [] = (bif sm l then bif Clm.has l n then some (vb true, []) else some (vb false, []) else none) := by kernel_rfl
noncomputable def T18 : Tab := (T17).addCall 66 c66
theorem nl28 (again : Ag) (cs out od : List Int) (L i : Int) (k : Nat) : lpStep T18 28 9 0 (lpc T18 28 9) again [lI cs, osW 0 0, vi 0, osT 1 k, vi L, lI od, vi od.length, vi i] [some (rowI [] 0), some (rowI out 3)] = (bif decide (i < (↑od.length : Int)) then bif decide (0 ≤ i) then bif decide (i < (↑od.length : Int)) then oM od[i.toNat]? fun x => bif !Clm.inR x 0 (IntKind.i64.wrap ((↑cs.length : Int) - 1)) then some (.ret, [.sl (.int .i64) cs false, osW 0 0, vi 2, .os 1 0 0 k true true true, vi L, .sl (.int .i64) od false, vi (↑od.length : Int), vi i], [some ⟨[.run (.int .i64) []], false, 0, false, false, none⟩, some ⟨[.run (.int .i64) out], false, 3, false, false, none⟩]) else bif decide (0 ≤ x) then bif decide (x < (↑k : Int)) then oM out[Int.toNat x]? fun x_1 => bif decide (x_1 ≥ 0) then some (.ret, [.sl (.int .i64) cs false, osW 0 0, vi 6, .os 1 0 0 k true true true, vi L, .sl (.int .i64) od false, vi (↑od.length : Int), vi i], [some ⟨[.run (.int .i64) []], false, 0, false, false, none⟩, some ⟨[.run (.int .i64) out], false, 3, false, false, none⟩]) else bif decide (0 ≤ x) then bif decide (x < (↑cs.length : Int)) then oM cs[Int.toNat x]? fun x_2 => bif decide (0 ≤ x) then bif decide (x < (↑k : Int)) then oM out[Int.toNat x]? fun x_3 => bif decide (0 ≤ x) then bif decide (x < (↑k : Int)) then oM (out.set (Int.toNat x) (if IntKind.i64.wrap (120 * x_2) < L then IntKind.i64.wrap (120 * x_2) else L))[Int.toNat x]? fun x_4 => again [.sl (.int .i64) cs false, osW 0 0, vi 0, .os 1 0 0 k true true true, vi (IntKind.i64.wrap (L - x_4)), .sl (.int .i64) od false, vi (↑od.length : Int), vi (IntKind.i64.wrap (i + 1))] [some ⟨[.run (.int .i64) []], false, 0, false, false, none⟩, some { c := [.run (.int .i64) (out.set (Int.toNat x) (if IntKind.i64.wrap (120 * x_2) < L then IntKind.i64.wrap (120 * x_2) else L))], vr := false, ty := 3, fz := false, loose := false : Row }] else none else none else none else none else none else none else none else none else none else none else some (.ext 1, [.sl (.int .i64) cs false, osW 0 0, vi 0, .os 1 0 0 k true true true, vi L, .sl (.int .i64) od false, vi (↑od.length : Int), vi i], [some ⟨[.run (.int .i64) []], false, 0, false, false, none⟩, some ⟨[.run (.int .i64) out], false, 3, false, false, none⟩])) := by kernel_rfl
theorem nl29 (again : Ag) (cs od : List Int) (w e i : Int) : lpStep T18 29 5 0 (lpc T18 29 5) again [vi w, lI cs, lI od, vi e, vi i] [] = (bif decide (i < (↑od.length : Int)) then bif e == 0 then bif decide (0 ≤ i) then bif decide (i < (↑od.length : Int)) then oM od[i.toNat]? fun x => bif !Clm.inR x 0 (IntKind.i64.wrap ((↑cs.length : Int) - 1)) then again [vi w, .sl (.int .i64) cs false, .sl (.int .i64) od false, vi 2, vi (IntKind.i64.wrap (i + 1))] [] else bif decide (0 ≤ i) then bif decide (i ≤ (↑od.length : Int)) then bif decide (0 ≤ i) then bif decide (i < (↑od.length : Int)) then oM od[i.toNat]? fun x => bif sm (List.take i.toNat od) then bif Clm.has (List.take i.toNat od) x then again [vi w, .sl (.int .i64) cs false, .sl (.int .i64) od false, vi 6, vi (IntKind.i64.wrap (i + 1))] [] else again [vi w, .sl (.int .i64) cs false, .sl (.int .i64) od false, vi e, vi (IntKind.i64.wrap (i + 1))] [] else none else none else none else none else none else none else none else some (.ext 0, [vi w, .sl (.int .i64) cs false, .sl (.int .i64) od false, vi e, vi i], []) else some (.ext 0, [vi w, .sl (.int .i64) cs false, .sl (.int .i64) od false, vi e, vi i], [])) := by kernel_rfl
theorem nl67 (again : Ag) (cs out od : List Int) (L i : Int) (k : Nat) : lpStep T18 67 4 0 (lpc T18 67 4) again [lI cs, lI od, osT 0 k, vi L, vi i] [some (rowI out 3)] = (bif decide (i < (↑od.length : Int)) then bif decide (0 ≤ i) then bif decide (i < (↑od.length : Int)) then oM od[i.toNat]? fun x => bif decide (0 ≤ x) then bif decide (x < (↑cs.length : Int)) then oM cs[Int.toNat x]? fun x => bif decide (0 ≤ i) then bif decide (i < (↑od.length : Int)) then oM od[i.toNat]? fun x_1 => bif decide (0 ≤ x_1) then bif decide (x_1 < (↑k : Int)) then oM out[Int.toNat x_1]? fun x_2 => again [.sl (.int .i64) cs false, .sl (.int .i64) od false, .os 0 0 0 k true true true, vi (IntKind.i64.wrap (L - if x < L then x else L)), vi (IntKind.i64.wrap (i + 1))] [some ⟨[.run (.int .i64) (out.set (Int.toNat x_1) (IntKind.i64.wrap (120 * if x < L then x else L)))], false, 3, false, false, none⟩] else none else none else none else none else none else none else none else none else some (.ext 0, [.sl (.int .i64) cs false, .sl (.int .i64) od false, .os 0 0 0 k true true true, vi L, vi i], [some ⟨[.run (.int .i64) out], false, 3, false, false, none⟩])) := by kernel_rfl
def l28_9t (cs od out : List Int) (L m : Int) (k : Nat) : Tree (Out × List AV × Hp) := .br (decide (m = od.length) && decide (k = cs.length) && Clm.repOK out cs.length (-1) && decide (od.length = cs.length) && decide (cs.length ≤ 5) && Clm.okC cs && decide (0 ≤ L) && decide (L ≤ 1000000)) (.br (Clm.oErr (Clm.oX cs od L) == 0) (.leaf (.ext 1, [lI cs, osW 0 0, vi 0, osT 1 k, vi (Clm.oLeft (Clm.oX cs od L)), lI od, vi m, vi m], [some (rowI [] 0), some (rowI (Clm.oOut (Clm.oX cs od L)) 3)])) (.leaf (.ret, [lI cs, osW 0 0, vi (Clm.oErr (Clm.oX cs od L)), osT 1 k, vi (Clm.oLeft (Clm.oX cs od L)), lI od, vi m, vi (Clm.oIdx (Clm.oX cs od L))], [some (rowI [] 0), some (rowI (Clm.oOut (Clm.oX cs od L)) 3)]))) .fail
def l28_9 (base : Nat) (kv : List AV) (H : Hp) : Tree (Out × List AV × Hp) := match Nat.beq base 0, kv, H with
  | true, [(.sl (.int .i64) cs false), (.os 0 0 0 0 true false true), (.sc (.int .i64 0)), (.os 1 0 0 k true true true), (.sc (.int .i64 L)), (.sl (.int .i64) od false), (.sc (.int .i64 m)), (.sc (.int .i64 0))], [some ⟨[.run (.int .i64) []], false, 0, false, false, none⟩, some ⟨[.run (.int .i64) out], false, 3, false, false, none⟩] => l28_9t cs od out L m k
  | _, _, _ => .fail
theorem l28_9_ok {T : Tab} (hT : TabOK T) (hlo : loopOf T.fn 28 9 = some (lpc T 28 9)) (h : ∀ (cs od out : List Int) (L m : Int) (k : Nat) (r : Out × List AV × Hp), (l28_9t cs od out L m k).val = some r → ∃ mm, lpRun T 28 9 0 (lpc T 28 9) mm [lI cs, osW 0 0, vi 0, osT 1 k, vi L, lI od, vi m, vi 0] [some (rowI [] 0), some (rowI out 3)] = some r) : ∀ base kv H o kv' H', (l28_9 base kv H).val = some (o, kv', H') → LoopOK T 28 9 base kv H o kv' H' := by
  intro base kv H o kv' H' hv
  unfold l28_9 at hv
  split at hv
  · rename_i hb
    obtain rfl := Nat.eq_of_beq_eq_true hb
    exact loop_ok hT hlo (h _ _ _ _ _ _ _ hv)
  · cases hv
def l29_5t (cs od : List Int) (w e : Int) : Tree (Out × List AV × Hp) := .br (e == 0) (.br (decide (od.length = cs.length) && decide (cs.length ≤ 5)) (.br (Clm.rErr (Clm.rX cs.length od) == 0) (.leaf (.ext 0, [vi w, lI cs, lI od, vi 0, vi od.length], [])) (.leaf (.ext 0, [vi w, lI cs, lI od, vi (Clm.rErr (Clm.rX cs.length od)), vi ((Clm.rIdx (Clm.rX cs.length od) + 1 : Nat) : Int)], []))) .fail) (.leaf (.ext 0, [vi w, lI cs, lI od, vi e, vi 0], []))
def l29_5 (base : Nat) (kv : List AV) (H : Hp) : Tree (Out × List AV × Hp) := match Nat.beq base 0, kv, H with
  | true, [(.sc (.int .i64 w)), (.sl (.int .i64) cs false), (.sl (.int .i64) od false), (.sc (.int .i64 e)), (.sc (.int .i64 0))], [] => l29_5t cs od w e
  | _, _, _ => .fail
theorem l29_5_ok {T : Tab} (hT : TabOK T) (hlo : loopOf T.fn 29 5 = some (lpc T 29 5)) (h : ∀ (cs od : List Int) (w e : Int) (r : Out × List AV × Hp), (l29_5t cs od w e).val = some r → ∃ mm, lpRun T 29 5 0 (lpc T 29 5) mm [vi w, lI cs, lI od, vi e, vi 0] [] = some r) : ∀ base kv H o kv' H', (l29_5 base kv H).val = some (o, kv', H') → LoopOK T 29 5 base kv H o kv' H' := by
  intro base kv H o kv' H' hv
  unfold l29_5 at hv
  split at hv
  · rename_i hb
    obtain rfl := Nat.eq_of_beq_eq_true hb
    exact loop_ok hT hlo (h _ _ _ _ _ hv)
  · cases hv
def l67_4t (cs od out : List Int) (L : Int) (k : Nat) : Tree (Out × List AV × Hp) := .br (decide (k = cs.length) && Clm.repOK out cs.length 0 && Clm.odOK cs od && Clm.okC cs && decide (0 ≤ L) && decide (L ≤ 1000000)) (.leaf (.ext 0, [lI cs, lI od, osT 0 k, vi (od.foldl (Clm.inStep cs) (List.replicate cs.length 0, L)).2, vi od.length], [some (rowI (Clm.inOrd L cs od) 3)])) .fail
def l67_4 (base : Nat) (kv : List AV) (H : Hp) : Tree (Out × List AV × Hp) := match Nat.beq base 0, kv, H with
  | true, [(.sl (.int .i64) cs false), (.sl (.int .i64) od false), (.os 0 0 0 k true true true), (.sc (.int .i64 L)), (.sc (.int .i64 0))], [some ⟨[.run (.int .i64) out], false, 3, false, false, none⟩] => l67_4t cs od out L k
  | _, _, _ => .fail
theorem l67_4_ok {T : Tab} (hT : TabOK T) (hlo : loopOf T.fn 67 4 = some (lpc T 67 4)) (h : ∀ (cs od out : List Int) (L : Int) (k : Nat) (r : Out × List AV × Hp), (l67_4t cs od out L k).val = some r → ∃ mm, lpRun T 67 4 0 (lpc T 67 4) mm [lI cs, lI od, osT 0 k, vi L, vi 0] [some (rowI out 3)] = some r) : ∀ base kv H o kv' H', (l67_4 base kv H).val = some (o, kv', H') → LoopOK T 67 4 base kv H o kv' H' := by
  intro base kv H o kv' H' hv
  unfold l67_4 at hv
  split at hv
  · rename_i hb
    obtain rfl := Nat.eq_of_beq_eq_true hb
    exact loop_ok hT hlo (h _ _ _ _ _ _ hv)
  · cases hv
noncomputable def T19 : Tab := (((T18).addLoop 28 9 l28_9).addLoop 29 5 l29_5).addLoop 67 4 l67_4
theorem nf28 (cs od : List Int) (w : Int) : evBody T19 28 [vi w, lI cs, lI od] [] = (bif Clm.chk w cs != 0 then some (.tuple [osW 0 0, vi (Clm.chk w cs)], [some ⟨[.run (.int .i64) []], false, 0, false, false, none⟩]) else bif (↑od.length : Int) != (↑cs.length : Int) then some (.tuple [osW 0 0, vi 5], [some ⟨[.run (.int .i64) []], false, 0, false, false, none⟩]) else bif decide ([-1] = [-1]) && decide (1 ≤ (↑cs.length : Int)) && decide ((↑cs.length : Int) ≤ 5) then bif decide ((↑od.length : Int) = (↑od.length : Int)) && decide ((↑cs.length : Int).toNat = cs.length) && Clm.repOK (List.replicate (↑cs.length : Int).toNat (-1)) cs.length (-1) && decide (od.length = cs.length) && decide (cs.length ≤ 5) && Clm.okC cs && decide (0 ≤ IntKind.i64.wrap (120 * w)) && decide (IntKind.i64.wrap (120 * w) ≤ 1000000) then bif Clm.oErr (Clm.oX cs od (IntKind.i64.wrap (120 * w))) == 0 then some (.tuple [.os 0 0 0 (↑cs.length : Int).toNat true true true, vi 0], [some ⟨[.run (.int .i64) (Clm.oOut (Clm.oX cs od (IntKind.i64.wrap (120 * w))))], false, 3, false, false, none⟩]) else some (.tuple [osW 0 0, vi (Clm.oErr (Clm.oX cs od (IntKind.i64.wrap (120 * w))))], [some ⟨[.run (.int .i64) []], false, 0, false, false, none⟩]) else none else none) := by kernel_rfl
theorem nf67 (cs od : List Int) (w : Int) : evBody T19 67 [vi w, lI cs, lI od] [] = (bif decide ((↑cs.length : Int) = (↑cs.length : Int)) then bif room (↑cs.length : Int).toNat 8 then bif decide ((↑cs.length : Int).toNat = cs.length) && Clm.repOK (List.replicate (↑cs.length : Int).toNat 0) cs.length 0 && Clm.odOK cs od && Clm.okC cs && decide (0 ≤ w) && decide (w ≤ 1000000) then some (.os 0 0 0 (↑cs.length : Int).toNat true true true, [some ⟨[.run (.int .i64) (Clm.inOrd w cs od)], false, 3, false, false, none⟩]) else none else none else none) := by kernel_rfl
def c28t (cs od : List Int) (w : Int) : Tree (AV × Hp) := .br (Clm.ordE w cs od == 0) (.leaf (.tuple [osT 0 cs.length, vi 0], [some (rowI (Clm.ordV w cs od) 3)])) (.leaf (.tuple [osW 0 0, vi (Clm.ordE w cs od)], [some (rowI [] 0)]))
def c28 (args : List AV) (H : Hp) : Tree (AV × Hp) := match args, H with
  | [(.sc (.int .i64 w)), (.sl (.int .i64) cs false), (.sl (.int .i64) od false)], [] => c28t cs od w
  | _, _ => .fail
theorem c28_ok {T : Tab} (hT : TabOK T) (h : ∀ (cs od : List Int) (w : Int) (r : AV × Hp), (c28t cs od w).val = some r → evBody T 28 [vi w, lI cs, lI od] [] = some r) : ∀ args H v H', (c28 args H).val = some (v, H') → CallOK T 28 args H v H' := by
  intro args H v H' hv
  unfold c28 at hv
  split at hv
  · exact evBody_sound hT (h _ _ _ _ hv)
  · cases hv
def c67t (cs od : List Int) (w : Int) : Tree (AV × Hp) := .br (decide (1 ≤ cs.length) && decide (cs.length ≤ 5) && Clm.odOK cs od && Clm.okC cs && decide (0 ≤ w) && decide (w ≤ 1000000)) (.leaf (osT 0 cs.length, [some (rowI (Clm.inOrd w cs od) 3)])) .fail
def c67 (args : List AV) (H : Hp) : Tree (AV × Hp) := match args, H with
  | [(.sc (.int .i64 w)), (.sl (.int .i64) cs false), (.sl (.int .i64) od false)], [] => c67t cs od w
  | _, _ => .fail
theorem c67_ok {T : Tab} (hT : TabOK T) (h : ∀ (cs od : List Int) (w : Int) (r : AV × Hp), (c67t cs od w).val = some r → evBody T 67 [vi w, lI cs, lI od] [] = some r) : ∀ args H v H', (c67 args H).val = some (v, H') → CallOK T 67 args H v H' := by
  intro args H v H' hv
  unfold c67 at hv
  split at hv
  · exact evBody_sound hT (h _ _ _ _ hv)
  · cases hv
noncomputable def T20 : Tab := ((T19).addCall 28 c28).addCall 67 c67
theorem nf29 (cs od : List Int) (w : Int) : evBody T20 29 [vi w, lI cs, lI od] [] = (bif Clm.chk w cs == 0 then bif (↑od.length : Int) != (↑cs.length : Int) then some (.tuple [osW 0 0, vi 5], [some ⟨[.run (.int .i64) []], false, 0, false, false, none⟩]) else bif Clm.chk w cs == 0 then bif decide (od.length = cs.length) && decide (cs.length ≤ 5) then bif Clm.rErr (Clm.rX cs.length od) == 0 then bif decide (1 ≤ cs.length) && decide (cs.length ≤ 5) && Clm.odOK cs od && Clm.okC cs && decide (0 ≤ w) && decide (w ≤ 1000000) then some (.tuple [.os 0 0 0 cs.length true true true, vi 0], [some ⟨[.run (.int .i64) (Clm.inOrd w cs od)], false, 3, false, false, none⟩]) else none else bif Clm.rErr (Clm.rX cs.length od) != 0 then some (.tuple [osW 0 0, vi (Clm.rErr (Clm.rX cs.length od))], [some ⟨[.run (.int .i64) []], false, 0, false, false, none⟩]) else bif decide (1 ≤ cs.length) && decide (cs.length ≤ 5) && Clm.odOK cs od && Clm.okC cs && decide (0 ≤ w) && decide (w ≤ 1000000) then some (.tuple [.os 0 0 0 cs.length true true true, vi 0], [some ⟨[.run (.int .i64) (Clm.inOrd w cs od)], false, 3, false, false, none⟩]) else none else none else bif Clm.chk w cs != 0 then some (.tuple [osW 0 0, vi (Clm.chk w cs)], [some ⟨[.run (.int .i64) []], false, 0, false, false, none⟩]) else bif decide (1 ≤ cs.length) && decide (cs.length ≤ 5) && Clm.odOK cs od && Clm.okC cs && decide (0 ≤ w) && decide (w ≤ 1000000) then some (.tuple [.os 0 0 0 cs.length true true true, vi 0], [some ⟨[.run (.int .i64) (Clm.inOrd w cs od)], false, 3, false, false, none⟩]) else none else bif Clm.chk w cs == 0 then bif decide (od.length = cs.length) && decide (cs.length ≤ 5) then bif Clm.rErr (Clm.rX cs.length od) == 0 then bif decide (1 ≤ cs.length) && decide (cs.length ≤ 5) && Clm.odOK cs od && Clm.okC cs && decide (0 ≤ w) && decide (w ≤ 1000000) then some (.tuple [.os 0 0 0 cs.length true true true, vi 0], [some ⟨[.run (.int .i64) (Clm.inOrd w cs od)], false, 3, false, false, none⟩]) else none else bif Clm.rErr (Clm.rX cs.length od) != 0 then some (.tuple [osW 0 0, vi (Clm.rErr (Clm.rX cs.length od))], [some ⟨[.run (.int .i64) []], false, 0, false, false, none⟩]) else bif decide (1 ≤ cs.length) && decide (cs.length ≤ 5) && Clm.odOK cs od && Clm.okC cs && decide (0 ≤ w) && decide (w ≤ 1000000) then some (.tuple [.os 0 0 0 cs.length true true true, vi 0], [some ⟨[.run (.int .i64) (Clm.inOrd w cs od)], false, 3, false, false, none⟩]) else none else none else bif Clm.chk w cs != 0 then some (.tuple [osW 0 0, vi (Clm.chk w cs)], [some ⟨[.run (.int .i64) []], false, 0, false, false, none⟩]) else bif decide (1 ≤ cs.length) && decide (cs.length ≤ 5) && Clm.odOK cs od && Clm.okC cs && decide (0 ≤ w) && decide (w ≤ 1000000) then some (.tuple [.os 0 0 0 cs.length true true true, vi 0], [some ⟨[.run (.int .i64) (Clm.inOrd w cs od)], false, 3, false, false, none⟩]) else none) := by kernel_rfl
def c29t (cs od : List Int) (w : Int) : Tree (AV × Hp) := .br (Clm.ordE w cs od == 0) (.leaf (.tuple [osT 0 cs.length, vi 0], [some (rowI (Clm.ordV w cs od) 3)])) (.leaf (.tuple [osW 0 0, vi (Clm.ordE w cs od)], [some (rowI [] 0)]))
def c29 (args : List AV) (H : Hp) : Tree (AV × Hp) := match args, H with
  | [(.sc (.int .i64 w)), (.sl (.int .i64) cs false), (.sl (.int .i64) od false)], [] => c29t cs od w
  | _, _ => .fail
theorem c29_ok {T : Tab} (hT : TabOK T) (h : ∀ (cs od : List Int) (w : Int) (r : AV × Hp), (c29t cs od w).val = some r → evBody T 29 [vi w, lI cs, lI od] [] = some r) : ∀ args H v H', (c29 args H).val = some (v, H') → CallOK T 29 args H v H' := by
  intro args H v H' hv
  unfold c29 at hv
  split at hv
  · exact evBody_sound hT (h _ _ _ _ hv)
  · cases hv
noncomputable def T21 : Tab := (T20).addCall 29 c29
end Go.Ev.Clm
namespace Go.Ev.Clm
open Go Go.Ev
set_option maxRecDepth 1000000
set_option linter.unusedVariables false
set_option linter.unusedSimpArgs false
def mapL {ρ ρ' σ : Type} (g : ρ → ρ') : Sum ρ σ → Sum ρ' σ
  | .inl a => .inl (g a)
  | .inr b => .inr b
theorem foldX_map {σ β ρ ρ' : Type} (g : ρ → ρ') (f : Nat → σ → β → Sum ρ σ) : ∀ (l : List β) (i : Nat) (s : σ), foldX (fun i s x => mapL g (f i s x)) i l s = mapL g (foldX f i l s)
  | [], i, s => rfl
  | x :: l, i, s => by
    simp only [foldX]
    cases f i s x with
    | inl a => rfl
    | inr b => exact foldX_map g f l (i + 1) b
theorem carried_T0 : TabOK (carried T0 40 20) := (carried_ok (T := T0) fns_ok mixed_ok 40 20).1
theorem c65_run : ∀ args H v H', (c65 args H).val = some (v, H') → CallOK T16 65 args H v H' := by
  intro args H v H' hv
  unfold c65 at hv
  split at hv
  · rename_i x n
    obtain ⟨hl, hv2⟩ := guard_val hv
    simp only [Bool.and_eq_true, decide_eq_true_eq] at hl
    obtain ⟨⟨rfl, h1⟩, h2⟩ := hl
    have e := leaf_val hv2
    cases e
    have hn : n = 1 ∨ n = 2 ∨ n = 3 ∨ n = 4 ∨ n = 5 := by omega
    refine CallOK.tab (T := carried T0 40 20) ?_ ?_ (evBody_sound carried_T0 ?_)
    · rfl
    · rfl
    · rcases hn with rfl | rfl | rfl | rfl | rfl
      · exact nf65_1 0
      · exact nf65_2 0
      · exact nf65_3 0
      · exact nf65_4 0
      · exact nf65_5 0
  · cases hv
theorem l66_2_run : ∀ base kv H o kv' H', (l66_2 base kv H).val = some (o, kv', H') → LoopOK T16 66 2 base kv H o kv' H' := l66_2_ok T16_ok (by kernel_rfl) (by
  intro l n r hv
  obtain ⟨hl, hv2⟩ := guard_val hv
  have := sm_le hl
  obtain ⟨m, hm⟩ := scan_of (T := T16) (fid := 66) (lid := 2) (base := 0) (c := lpc T16 66 2) l (fun x => x == n) (fun i => [lI l, vi n, vb false, vi i]) [] (fun i => (.ret, [lI l, vi n, vb true, vi i], [])) (.ext 0, [lI l, vi n, vb false, vi l.length], [])
    (fun i x hx hlt again => by
      rw [nl66]
      simp only [dec_lt hlt, dec_ge, cond_true, toNat_cast, hx, oM]
      rw [wrap_succ (by omega)])
    (fun again => by
      rw [nl66]
      simp only [dec_ll, cond_false])
  refine ⟨m, hm.trans ?_⟩
  unfold Clm.has at hv2
  rcases br_val hv2 with ⟨h, hv⟩ | ⟨h, hv⟩ <;> rw [leaf_val hv, h] <;> rfl)
theorem T17_ok : TabOK T17 := by
  have h := T16_ok
  have h := h.addCall (g := 65) (r := c65) fun a H v H' hv => by refine CallOK.tab ?_ ?_ (c65_run a H v H' hv) <;> rfl
  have h := h.addLoop (g := 66) (lid := 2) (r := l66_2) fun b k H o k' H' hv => by refine LoopOK.tab ?_ ?_ ?_ ?_ (l66_2_run b k H o k' H' hv) <;> rfl
  exact h
theorem c66_run : ∀ args H v H', (c66 args H).val = some (v, H') → CallOK T17 66 args H v H' := c66_ok T17_ok (by
  intro l n r hv
  obtain ⟨hl, hv2⟩ := guard_val hv
  rw [leaf_val hv2, nf66, cond_t hl]
  cases Clm.has l n <;> rfl)
theorem T18_ok : TabOK T18 := by
  have h := T17_ok
  have h := h.addCall (g := 66) (r := c66) fun a H v H' hv => by refine CallOK.tab ?_ ?_ (c66_run a H v H' hv) <;> rfl
  exact h
theorem okC_nn {cs : List Int} (h : Clm.okC cs = true) : ∀ i, 0 ≤ Clm.at0 cs i := fun i => by
  unfold Clm.at0
  rw [List.getD_eq_getElem?_getD]
  cases hx : cs[i.toNat]? with
  | none => simp
  | some x => have := inR_get (okC_get h (List.mem_of_getElem? hx)); simp; omega
theorem okC_at {cs : List Int} (h : Clm.okC cs = true) {i : Int} (h0 : 0 ≤ i) (h1 : i < cs.length) : cs[i.toNat]? = some (Clm.at0 cs i) ∧ 1 ≤ Clm.at0 cs i ∧ Clm.at0 cs i ≤ 1000 := by
  obtain ⟨a, b⟩ := at0_get h0 h1
  exact ⟨a, inR_get (okC_get h b)⟩
theorem l28_9_run : ∀ base kv H o kv' H', (l28_9 base kv H).val = some (o, kv', H') → LoopOK T18 28 9 base kv H o kv' H' := l28_9_ok T18_ok (by kernel_rfl) (by
  intro cs od out L m k r hv
  obtain ⟨hl, hv2⟩ := guard_val hv
  simp only [Bool.and_eq_true, decide_eq_true_eq] at hl
  obtain ⟨⟨⟨⟨⟨⟨⟨rfl, rfl⟩, h3⟩, h4⟩, h5⟩, h6⟩, h7⟩, h8⟩ := hl
  have h3 := of_decide_eq_true h3
  subst h3
  obtain ⟨mm, hm⟩ := each_of (T := T18) (fid := 28) (lid := 9) (base := 0) (c := lpc T18 28 9) od (fun i (s : List Int × Int) => s.1.length = cs.length ∧ 0 ≤ s.2 ∧ s.2 ≤ 1000000)
    (fun i s x => mapL (fun a : Nat × Int × List Int × Int => ((.ret, [lI cs, osW 0 0, vi a.2.1, osT 1 cs.length, vi a.2.2.2, lI od, vi od.length, vi (a.1 : Nat)], [some (rowI [] 0), some (rowI a.2.2.1 3)]) : Out × List AV × Hp)) (Clm.oF cs i s x))
    (fun i s => [lI cs, osW 0 0, vi 0, osT 1 cs.length, vi s.2, lI od, vi od.length, vi i]) (fun s => [some (rowI [] 0), some (rowI s.1 3)])
    (fun s => (.ext 1, [lI cs, osW 0 0, vi 0, osT 1 cs.length, vi s.2, lI od, vi od.length, vi od.length], [some (rowI [] 0), some (rowI s.1 3)]))
    (fun i x s hx hlt hI again => by
      obtain ⟨hI1, hI2, hI3⟩ := hI
      rw [nl28, wrapi (x := (cs.length : Int) - 1) (by omega) (by omega)]
      simp only [dec_lt hlt, dec_ge, cond_true, toNat_cast, hx, oM]
      unfold Clm.oF
      cases hin : Clm.inR x 0 ((cs.length : Int) - 1) with
      | false => rfl
      | true =>
        have hxr := inR_get hin
        obtain ⟨a1, a2, a3⟩ := okC_at h6 (i := x) hxr.1 (by omega)
        have g1 := getD_of (l := s.1) (i := x.toNat) (by omega)
        simp only [Bool.not_true, cond_false, decide_eq_true hxr.1, decide_eq_true (show x < (cs.length : Int) by omega), cond_true, g1, a1]
        cases hge : decide (s.1.getD x.toNat 0 ≥ 0) with
        | true => rfl
        | false =>
          simp only [cond_false]
          rw [wrapi (x := 120 * Clm.at0 cs x) (by omega) (by omega), Clm.mn', List.getElem?_set_self (by omega)]
          show again _ _ = _
          rw [wrapi (by omega) (by omega), wrap_succ (by omega)]
          rfl)
    (fun i x s s' hx hlt hI hf => by
      obtain ⟨hI1, hI2, hI3⟩ := hI
      unfold Clm.oF at hf
      cases hin : Clm.inR x 0 ((cs.length : Int) - 1) with
      | false => rw [hin] at hf; simp only [Bool.not_false, cond_true, mapL] at hf; cases hf
      | true =>
        have hxr := inR_get hin
        obtain ⟨a1, a2, a3⟩ := okC_at h6 (i := x) hxr.1 (by omega)
        rw [hin] at hf
        cases hge : decide (s.1.getD x.toNat 0 ≥ 0) with
        | true => rw [hge] at hf; simp only [Bool.not_true, cond_false, cond_true, mapL] at hf; cases hf
        | false =>
          rw [hge] at hf
          simp only [Bool.not_true, cond_false, mapL, Sum.inr.injEq] at hf
          subst hf
          refine ⟨by simp [Clm.oStep, hI1], ?_, ?_⟩ <;> simp only [Clm.oStep] <;> omega)
    (fun s hI again => by
      rw [nl28]
      simp only [dec_ll, cond_false]) (List.replicate cs.length (-1), L) ⟨by simp, h7, h8⟩
  refine ⟨mm, hm.trans ?_⟩
  rw [foldX_map]
  have hX : foldX (Clm.oF cs) 0 od (List.replicate cs.length (-1), L) = Clm.oX cs od L := rfl
  rw [hX]
  cases hA : Clm.oX cs od L with
  | inl a =>
    have hne : (Clm.oErr (.inl a) == 0) = false := by
      have key : ∀ (l : List Int) (i : Nat) (s : List Int × Int) a, foldX (Clm.oF cs) i l s = .inl a → a.2.1 ≠ 0 := by
        intro l
        induction l with
        | nil => intro i s a h; cases h
        | cons x l ih =>
          intro i s a h
          simp only [foldX] at h
          cases hq : Clm.oF cs i s x with
          | inl b =>
            rw [hq] at h
            cases h
            unfold Clm.oF at hq
            cases hin : Clm.inR x 0 ((cs.length : Int) - 1) with
            | false => rw [hin] at hq; cases hq; exact (by decide : (2 : Int) ≠ 0)
            | true =>
              rw [hin] at hq
              cases hge : decide (s.1.getD x.toNat 0 ≥ 0) with
              | true => rw [hge] at hq; cases hq; exact (by decide : (6 : Int) ≠ 0)
              | false => rw [hge] at hq; cases hq
          | inr b => rw [hq] at h; exact ih _ _ _ h
      rw [beq_eq_false_iff_ne]
      exact key od 0 _ a hA
    rw [hA] at hv2
    rcases br_val hv2 with ⟨hc, hv3⟩ | ⟨hc, hv3⟩
    · rw [hc] at hne; cases hne
    · rw [leaf_val hv3]; rfl
  | inr s =>
    rw [hA] at hv2
    rcases br_val hv2 with ⟨hc, hv3⟩ | ⟨hc, hv3⟩
    · rw [leaf_val hv3]; rfl
    · cases hc)
theorem l67_4_run : ∀ base kv H o kv' H', (l67_4 base kv H).val = some (o, kv', H') → LoopOK T18 67 4 base kv H o kv' H' := l67_4_ok T18_ok (by kernel_rfl) (by
  intro cs od out L k r hv
  obtain ⟨hl, hv2⟩ := guard_val hv
  simp only [Bool.and_eq_true, decide_eq_true_eq] at hl
  obtain ⟨⟨⟨⟨⟨rfl, h3⟩, h4⟩, h6⟩, h7⟩, h8⟩ := hl
  have h3 := of_decide_eq_true h3
  subst h3
  unfold Clm.odOK at h4
  rw [Bool.and_eq_true, decide_eq_true_eq, List.all_eq_true] at h4
  obtain ⟨mm, hm⟩ := fold_of (T := T18) (fid := 67) (lid := 4) (base := 0) (c := lpc T18 67 4) od (fun i (s : List Int × Int) => s.1.length = cs.length ∧ 0 ≤ s.2 ∧ s.2 ≤ 1000000) (Clm.inStep cs)
    (fun i s => [lI cs, lI od, osT 0 cs.length, vi s.2, vi i]) (fun s => [some (rowI s.1 3)]) (fun s => (.ext 0, [lI cs, lI od, osT 0 cs.length, vi s.2, vi od.length], [some (rowI s.1 3)]))
    (fun i x s hx hlt hI again => by
      obtain ⟨hI1, hI2, hI3⟩ := hI
      have hxr := inR_get (h4.2 x (List.mem_of_getElem? hx))
      obtain ⟨a1, a2, a3⟩ := okC_at h6 (i := x) hxr.1 (by omega)
      have g1 := getD_of (l := s.1) (i := x.toNat) (by omega)
      rw [nl67]
      simp only [dec_lt hlt, dec_ge, cond_true, toNat_cast, hx, oM, decide_eq_true hxr.1, decide_eq_true (show x < (cs.length : Int) by omega), a1, g1]
      rw [Clm.mn', wrapi (x := s.2 - min s.2 (Clm.at0 cs x)) (by omega) (by omega), wrapi (x := 120 * min s.2 (Clm.at0 cs x)) (by omega) (by omega), wrap_succ (by omega)]
      rfl)
    (fun i x s hx hlt hI => by
      obtain ⟨hI1, hI2, hI3⟩ := hI
      have hxr := inR_get (h4.2 x (List.mem_of_getElem? hx))
      obtain ⟨a1, a2, a3⟩ := okC_at h6 (i := x) hxr.1 (by omega)
      refine ⟨by simp [Clm.inStep, hI1], ?_, ?_⟩ <;> simp only [Clm.inStep] <;> omega)
    (fun s hI again => by
      rw [nl67]
      simp only [dec_ll, cond_false]) (List.replicate cs.length 0, L) ⟨by simp, h7, h8⟩
  exact ⟨mm, hm.trans (by rw [leaf_val hv2]; rfl)⟩)
theorem rX_at {n : Nat} {od : List Int} : ∀ (l : List Int) (i : Nat), od = od.take i ++ l → i + l.length = od.length → 
    match foldX (Clm.rF n od) i l () with
    | .inl a => a.2 ≠ 0 ∧ i ≤ a.1 ∧ a.1 < od.length ∧ (∀ j x, i ≤ j → j < a.1 → od[j]? = some x → Clm.inR x 0 ((n : Int) - 1) = true ∧ Clm.has (od.take j) x = false) ∧ ∃ x, od[a.1]? = some x ∧ ((Clm.inR x 0 ((n : Int) - 1) = false ∧ a.2 = 2) ∨ (Clm.inR x 0 ((n : Int) - 1) = true ∧ Clm.has (od.take a.1) x = true ∧ a.2 = 6))
    | .inr () => ∀ j x, i ≤ j → od[j]? = some x → Clm.inR x 0 ((n : Int) - 1) = true ∧ Clm.has (od.take j) x = false
  | [], i, h, hl => by
    intro j x hj hx
    rw [List.getElem?_eq_none (by simp at hl; omega)] at hx; cases hx
  | x :: l, i, h, hl => by
    have hgi : od[i]? = some x := by
      have hi : (od.take i).length = i := by rw [List.length_take]; simp at hl; omega
      conv => lhs; rw [h]
      rw [List.getElem?_append_right (by omega), hi, Nat.sub_self]; rfl
    have hlt : i < od.length := by simp at hl; omega
    cases hr : Clm.inR x 0 ((n : Int) - 1) with
    | false =>
      have h2 : Clm.rF n od i () x = .inl (i, 2) := by unfold Clm.rF; rw [hr]; rfl
      simp only [foldX, h2]
      exact ⟨by decide, Nat.le_refl _, hlt, fun j y h1 h2 => by omega, x, hgi, .inl ⟨hr, trivial⟩⟩
    | true =>
      cases hh : Clm.has (od.take i) x with
      | true =>
        have h2 : Clm.rF n od i () x = .inl (i, 6) := by unfold Clm.rF; rw [hr, hh]; rfl
        simp only [foldX, h2]
        exact ⟨by decide, Nat.le_refl _, hlt, fun j y h1 h2 => by omega, x, hgi, .inr ⟨hr, hh, trivial⟩⟩
      | false =>
        have h2 : Clm.rF n od i () x = .inr () := by unfold Clm.rF; rw [hr, hh]; rfl
        simp only [foldX, h2]
        have ht : od.take i ++ [x] = od.take (i + 1) := (Clm.take_succ' hgi).symm
        have ih := rX_at (n := n) l (i + 1) (by rw [← ht, List.append_assoc]; exact h) (by simp at hl; omega)
        revert ih
        generalize foldX (Clm.rF n od) (i + 1) l () = B
        intro ih
        cases B with
        | inl a =>
          obtain ⟨b1, b2, b3, b4, b5⟩ := ih
          refine ⟨b1, by omega, b3, fun j y h1 h2 h3 => ?_, b5⟩
          rcases Nat.lt_or_ge i j with hij | hij
          · exact b4 j y hij h2 h3
          · obtain rfl : i = j := by omega
            rw [hgi] at h3; cases h3
            exact ⟨hr, hh⟩
        | inr b =>
          intro j y h1 h3
          rcases Nat.lt_or_ge i j with hij | hij
          · exact ih j y hij h3
          · obtain rfl : i = j := by omega
            rw [hgi] at h3; cases h3
            exact ⟨hr, hh⟩
theorem l29_5_run : ∀ base kv H o kv' H', (l29_5 base kv H).val = some (o, kv', H') → LoopOK T18 29 5 base kv H o kv' H' := l29_5_ok T18_ok (by kernel_rfl) (by
  intro cs od w e r hv
  rcases br_val hv with ⟨he, hv2⟩ | ⟨he, hv2⟩
  · obtain rfl : e = 0 := beq_iff_eq.1 he
    obtain ⟨hl, hv2⟩ := guard_val hv2
    simp only [Bool.and_eq_true, decide_eq_true_eq] at hl
    obtain ⟨h2, h3⟩ := hl
    have hat := rX_at (n := cs.length) (od := od) od 0 (by simp) (by simp)
    have stp : ∀ i, i < od.length → (∀ x, od[i]? = some x → Clm.inR x 0 ((cs.length : Int) - 1) = true ∧ Clm.has (od.take i) x = false) → ∀ again : Ag, lpStep T18 29 5 0 (lpc T18 29 5) again [vi w, lI cs, lI od, vi 0, vi (i : Nat)] [] = again [vi w, lI cs, lI od, vi 0, vi ((i + 1 : Nat) : Int)] [] := by
      intro i hi hok again
      obtain ⟨x, hx, _⟩ := get_i hi
      obtain ⟨o1, o2⟩ := hok x hx
      have hsm : sm (od.take i) = true := decide_eq_true (by rw [List.length_take]; omega)
      rw [nl29, show ((0 : Int) == 0) = true from rfl, wrapi (x := (cs.length : Int) - 1) (by omega) (by omega)]
      simp only [dec_lt hi, dec_ge, cond_true, toNat_cast, hx, oM, o1, Bool.not_true, cond_false, decide_eq_true (show (i : Int) ≤ (od.length : Int) by omega), hsm, o2]
      rw [wrap_succ (by omega)]
    change match Clm.rX cs.length od with
      | .inl a => a.2 ≠ 0 ∧ 0 ≤ a.1 ∧ a.1 < od.length ∧ (∀ j x, 0 ≤ j → j < a.1 → od[j]? = some x → Clm.inR x 0 ((cs.length : Int) - 1) = true ∧ Clm.has (od.take j) x = false) ∧ ∃ x, od[a.1]? = some x ∧ ((Clm.inR x 0 ((cs.length : Int) - 1) = false ∧ a.2 = 2) ∨ (Clm.inR x 0 ((cs.length : Int) - 1) = true ∧ Clm.has (od.take a.1) x = true ∧ a.2 = 6))
      | .inr () => ∀ j x, 0 ≤ j → od[j]? = some x → Clm.inR x 0 ((cs.length : Int) - 1) = true ∧ Clm.has (od.take j) x = false at hat
    cases hX : Clm.rX cs.length od with
    | inr u =>
      rw [hX] at hat hv2
      rcases br_val hv2 with ⟨hc, hv3⟩ | ⟨hc, hv3⟩
      · obtain ⟨mm, hm⟩ := steps_of (T := T18) (fid := 29) (lid := 5) (base := 0) (c := lpc T18 29 5) od.length (fun i => [vi w, lI cs, lI od, vi 0, vi (i : Nat)]) (fun _ => []) (.ext 0, [vi w, lI cs, lI od, vi 0, vi od.length], [])
          (fun i hi again => stp i hi (fun x hx => hat i x (Nat.zero_le _) hx) again)
          (fun again => by
            rw [nl29]
            simp only [dec_ll, cond_false])
        exact ⟨mm, hm.trans (by rw [leaf_val hv3])⟩
      · cases hc
    | inl a =>
      rw [hX] at hat hv2
      obtain ⟨a, ae⟩ := a
      obtain ⟨b1, _, b3, b4, x, hx, b5⟩ := hat
      simp only at b1 b3 b4 hx b5
      rcases br_val hv2 with ⟨hc, hv3⟩ | ⟨hc, hv3⟩
      · exact absurd (beq_iff_eq.1 hc) b1
      · obtain ⟨mm, hm⟩ := steps_of (T := T18) (fid := 29) (lid := 5) (base := 0) (c := lpc T18 29 5) (a + 1) (fun i => [vi w, lI cs, lI od, vi (bif Nat.ble i a then 0 else ae), vi (i : Nat)]) (fun _ => []) (.ext 0, [vi w, lI cs, lI od, vi ae, vi ((a + 1 : Nat) : Int)], [])
          (fun i hi again => by
            rw [show Nat.ble i a = true from Nat.ble_eq_true_of_le (by omega)]
            rcases Nat.lt_or_ge i a with hb' | hb'
            · rw [show Nat.ble (i + 1) a = true from Nat.ble_eq_true_of_le (by omega)]
              exact stp i (by omega) (fun x hx => b4 i x (Nat.zero_le _) hb' hx) again
            · obtain rfl : i = a := by omega
              rw [show Nat.ble (i + 1) i = false by rw [Bool.eq_false_iff]; intro h; have := Nat.le_of_ble_eq_true h; omega]
              have hsm : sm (od.take i) = true := decide_eq_true (by rw [List.length_take]; omega)
              rw [nl29, wrapi (x := (cs.length : Int) - 1) (by omega) (by omega)]
              simp only [cond_true, cond_false, show ((0 : Int) == 0) = true from rfl, dec_lt b3, dec_ge, toNat_cast, hx, oM]
              rcases b5 with ⟨c1, rfl⟩ | ⟨c1, c2, rfl⟩
              · simp only [c1, Bool.not_false, cond_true]
                rw [wrap_succ (by omega)]
              · simp only [c1, Bool.not_true, cond_false, decide_eq_true (show (i : Int) ≤ (od.length : Int) by omega), cond_true, hsm, c2]
                rw [wrap_succ (by omega)])
          (fun again => by
            rw [show Nat.ble (a + 1) a = false by rw [Bool.eq_false_iff]; intro h; have := Nat.le_of_ble_eq_true h; omega]
            rw [nl29, show (bif false then (0 : Int) else ae) = ae from rfl, show (ae == 0) = false by rw [beq_eq_false_iff_ne]; exact b1]
            cases decide (((a + 1 : Nat) : Int) < (od.length : Int)) <;> rfl)
        rw [show Nat.ble 0 a = true from Nat.ble_eq_true_of_le (by omega)] at hm
        exact ⟨mm, hm.trans (by rw [leaf_val hv3]; rfl)⟩
  · obtain ⟨mm, hm⟩ := steps_of (T := T18) (fid := 29) (lid := 5) (base := 0) (c := lpc T18 29 5) 0 (fun i => [vi w, lI cs, lI od, vi e, vi 0]) (fun _ => []) (.ext 0, [vi w, lI cs, lI od, vi e, vi 0], [])
      (fun i hi again => by omega)
      (fun again => by
        rw [nl29, he]
        cases decide ((0 : Int) < (od.length : Int)) <;> rfl)
    exact ⟨mm, hm.trans (by rw [leaf_val hv2])⟩)
theorem T19_ok : TabOK T19 := by
  have h := T18_ok
  have h := h.addLoop (g := 28) (lid := 9) (r := l28_9) fun b k H o k' H' hv => by refine LoopOK.tab ?_ ?_ ?_ ?_ (l28_9_run b k H o k' H' hv) <;> rfl
  have h := h.addLoop (g := 29) (lid := 5) (r := l29_5) fun b k H o k' H' hv => by refine LoopOK.tab ?_ ?_ ?_ ?_ (l29_5_run b k H o k' H' hv) <;> rfl
  have h := h.addLoop (g := 67) (lid := 4) (r := l67_4) fun b k H o k' H' hv => by refine LoopOK.tab ?_ ?_ ?_ ?_ (l67_4_run b k H o k' H' hv) <;> rfl
  exact h
end Go.Ev.Clm
namespace Go.Ev.Clm
open Go Go.Ev
set_option maxRecDepth 1000000
set_option linter.unusedVariables false
set_option linter.unusedSimpArgs false
theorem c28_run : ∀ args H v H', (c28 args H).val = some (v, H') → CallOK T19 28 args H v H' := c28_ok T19_ok (by
  intro cs od w r hv
  have key : (Clm.ordE w cs od == 0) = true ∨ (Clm.ordE w cs od == 0) = false := by cases Clm.ordE w cs od == 0 <;> simp
  have hE : Clm.ordE w cs od = (bif Clm.chk w cs == 0 then (bif decide (od.length = cs.length) then Clm.rErr (Clm.rX cs.length od) else 5) else Clm.chk w cs) := rfl
  cases hc : Clm.chk w cs == 0 with
  | false =>
    rw [hc] at hE
    simp only [cond_false] at hE
    rcases br_val hv with ⟨h, hv2⟩ | ⟨h, hv2⟩
    · rw [hE, hc] at h; cases h
    · rw [leaf_val hv2, nf28, cond_t (chk_t hc), hE]
  | true =>
    have ok := Clm.ok_of (beq_iff_eq.1 hc)
    have h5 := ok.len
    have hsum := ok.sum
    have hlo := ok.lo
    have hhi := ok.hi
    have hne := List.length_pos_iff.2 ok.ne
    rw [hc] at hE
    simp only [cond_true] at hE
    have e1 : IntKind.i64.wrap (120 * w) = 120 * w := wrapi (by omega) (by omega)
    cases hl : decide (od.length = cs.length) with
    | false =>
      have hl' := of_decide_eq_false hl
      rw [hl] at hE
      simp only [cond_false] at hE
      rcases br_val hv with ⟨h, hv2⟩ | ⟨h, hv2⟩
      · rw [hE] at h; cases h
      · rw [leaf_val hv2, nf28, cond_f (chk_n hc), cond_t (by rw [bne_iff_ne]; omega), hE]
    | true =>
      have hl' := of_decide_eq_true hl
      rw [hl] at hE
      simp only [cond_true] at hE
      obtain ⟨x1, x2, _⟩ := Clm.oX_eq (cs := cs) (od := od) (w := w) hlo ok.nn hl'
      have head : evBody T19 28 [vi w, lI cs, lI od] [] = (bif Clm.oErr (Clm.oX cs od (120 * w)) == 0 then some (.tuple [.os 0 0 0 ((cs.length : Nat) : Int).toNat true true true, vi 0], [some ⟨[.run (.int .i64) (Clm.oOut (Clm.oX cs od (120 * w)))], false, 3, false, false, none⟩]) else some (.tuple [osW 0 0, vi (Clm.oErr (Clm.oX cs od (120 * w)))], [some ⟨[.run (.int .i64) []], false, 0, false, false, none⟩])) := by
        rw [nf28, cond_f (chk_n hc), cond_f (by rw [bne_eq_false_iff_eq]; omega), e1]
        refine (cond_t ?_).trans ?_
        · rw [decide_eq_true (show (1 : Int) ≤ (cs.length : Int) by omega), decide_eq_true (show (cs.length : Int) ≤ 5 by omega)]; rfl
        refine (cond_t ?_).trans rfl
        rw [Int.toNat_natCast]
        simp only [Bool.and_eq_true, decide_eq_true_eq]
        exact ⟨⟨⟨⟨⟨⟨⟨trivial, trivial⟩, decide_eq_true rfl⟩, hl'⟩, h5⟩, okC_ok ok⟩, by omega⟩, by omega⟩
      rw [head]
      rcases br_val hv with ⟨h, hv2⟩ | ⟨h, hv2⟩
      · have hz : (Clm.oErr (Clm.oX cs od (120 * w)) == 0) = true := by rw [x1, ← hE]; exact h
        have hV : Clm.ordV w cs od = Clm.inOrd w cs od := by unfold Clm.ordV; rw [h]; rfl
        rw [leaf_val hv2, cond_t hz, (x2 hz).1, hV, Int.toNat_natCast]
      · have hz : (Clm.oErr (Clm.oX cs od (120 * w)) == 0) = false := by rw [x1, ← hE]; exact h
        rw [leaf_val hv2, cond_f hz, x1, ← hE])
theorem c67_run : ∀ args H v H', (c67 args H).val = some (v, H') → CallOK T19 67 args H v H' := c67_ok T19_ok (by
  intro cs od w r hv
  obtain ⟨hl, hv2⟩ := guard_val hv
  simp only [Bool.and_eq_true, decide_eq_true_eq] at hl
  obtain ⟨⟨⟨⟨⟨h1, h2⟩, h3⟩, h4⟩, h5⟩, h6⟩ := hl
  rw [leaf_val hv2, nf67, Int.toNat_natCast]
  rw [cond_t (by simp), cond_t (room_ok (by omega) (by omega)), cond_t (by
    rw [h3, h4, decide_eq_true h5, decide_eq_true h6, show Clm.repOK (List.replicate cs.length 0) cs.length 0 = true from decide_eq_true rfl]
    simp)])
theorem T20_ok : TabOK T20 := by
  have h := T19_ok
  have h := h.addCall (g := 28) (r := c28) fun a H v H' hv => by refine CallOK.tab ?_ ?_ (c28_run a H v H' hv) <;> rfl
  have h := h.addCall (g := 67) (r := c67) fun a H v H' hv => by refine CallOK.tab ?_ ?_ (c67_run a H v H' hv) <;> rfl
  exact h
theorem rX_ok {n : Nat} {od : List Int} (h : (Clm.rErr (Clm.rX n od) == 0) = true) : ∀ x ∈ od, Clm.inR x 0 ((n : Int) - 1) = true := by
  have hat := rX_at (n := n) (od := od) od 0 (by simp) (by simp)
  change match Clm.rX n od with
    | .inl a => a.2 ≠ 0 ∧ 0 ≤ a.1 ∧ a.1 < od.length ∧ (∀ j x, 0 ≤ j → j < a.1 → od[j]? = some x → Clm.inR x 0 ((n : Int) - 1) = true ∧ Clm.has (od.take j) x = false) ∧ ∃ x, od[a.1]? = some x ∧ ((Clm.inR x 0 ((n : Int) - 1) = false ∧ a.2 = 2) ∨ (Clm.inR x 0 ((n : Int) - 1) = true ∧ Clm.has (od.take a.1) x = true ∧ a.2 = 6))
    | .inr () => ∀ j x, 0 ≤ j → od[j]? = some x → Clm.inR x 0 ((n : Int) - 1) = true ∧ Clm.has (od.take j) x = false at hat
  cases hX : Clm.rX n od with
  | inl a =>
    rw [hX] at hat h
    exact absurd (beq_iff_eq.1 h) hat.1
  | inr u =>
    rw [hX] at hat
    intro x hx
    obtain ⟨j, hj, rfl⟩ := List.getElem_of_mem hx
    exact (hat j _ (Nat.zero_le _) (List.getElem?_eq_getElem hj)).1
theorem c29_run : ∀ args H v H', (c29 args H).val = some (v, H') → CallOK T20 29 args H v H' := c29_ok T20_ok (by
  intro cs od w r hv
  have hE : Clm.ordE w cs od = (bif Clm.chk w cs == 0 then (bif decide (od.length = cs.length) then Clm.rErr (Clm.rX cs.length od) else 5) else Clm.chk w cs) := rfl
  cases hc : Clm.chk w cs == 0 with
  | false =>
    rw [hc] at hE
    simp only [cond_false] at hE
    rcases br_val hv with ⟨h, hv2⟩ | ⟨h, hv2⟩
    · rw [hE, hc] at h; cases h
    · rw [leaf_val hv2, nf29, hE]
      simp only [hc, cond_false, chk_t hc, cond_true]
  | true =>
    have ok := Clm.ok_of (beq_iff_eq.1 hc)
    have h5 := ok.len
    have hsum := ok.sum
    have hlo := ok.lo
    have hhi := ok.hi
    have hne := List.length_pos_iff.2 ok.ne
    rw [hc] at hE
    simp only [cond_true] at hE
    cases hl : decide (od.length = cs.length) with
    | false =>
      have hl' := of_decide_eq_false hl
      rw [hl] at hE
      simp only [cond_false] at hE
      rcases br_val hv with ⟨h, hv2⟩ | ⟨h, hv2⟩
      · rw [hE] at h; cases h
      · rw [leaf_val hv2, nf29, cond_t hc, cond_t (by rw [bne_iff_ne]; omega), hE]
    | true =>
      have hl' := of_decide_eq_true hl
      rw [hl] at hE
      simp only [cond_true] at hE
      rw [nf29, cond_t hc, cond_f (by rw [bne_eq_false_iff_eq]; omega), cond_t hc, cond_t (by rw [hl, decide_eq_true h5]; rfl)]
      rcases br_val hv with ⟨h, hv2⟩ | ⟨h, hv2⟩
      · have hz : (Clm.rErr (Clm.rX cs.length od) == 0) = true := by rw [← hE]; exact h
        have hV : Clm.ordV w cs od = Clm.inOrd w cs od := by unfold Clm.ordV; rw [h]; rfl
        have hod : Clm.odOK cs od = true := by
          unfold Clm.odOK
          rw [decide_eq_true (by omega), Bool.true_and, List.all_eq_true]
          exact rX_ok hz
        rw [leaf_val hv2, cond_t hz, cond_t (by simp only [decide_eq_true (show 1 ≤ cs.length by omega), decide_eq_true h5, hod, okC_ok ok, decide_eq_true hlo, decide_eq_true (show w ≤ 1000000 by omega), Bool.and_self]), hV]
      · have hz : (Clm.rErr (Clm.rX cs.length od) == 0) = false := by rw [← hE]; exact h
        have hnz : (Clm.rErr (Clm.rX cs.length od) != 0) = true := by rw [bne, hz]; rfl
        rw [leaf_val hv2, cond_f hz, cond_t hnz, hE])
theorem T21_ok : TabOK T21 := by
  have h := T20_ok
  have h := h.addCall (g := 29) (r := c29) fun a H v H' hv => by refine CallOK.tab ?_ ?_ (c29_run a H v H' hv) <;> rfl
  exact h
end Go.Ev.Clm
