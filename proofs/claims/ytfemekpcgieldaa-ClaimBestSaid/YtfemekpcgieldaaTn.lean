/- Best: tables and normal forms. -/
import Derived.Test.YtfemekpcgieldaaTk
import Derived.Test.YtfemekpcgieldaaSf
set_option linter.unusedVariables false
set_option linter.unusedSimpArgs false
namespace Go.Ev.Clm
open Go Go.Ev
set_option maxRecDepth 1000000
set_option linter.unusedVariables false
theorem nl52 (again : Ag) (l : List Int) (m i : Int) : lpStep T32 52 5 0 (lpc T32 52 5) again [lI l, vi m, vi i] [] = (bif decide (i < (↑l.length : Int)) then bif decide (0 ≤ i) then bif decide (i < (↑l.length : Int)) then oM l[i.toNat]? fun x => again [.sl (.int .i64) l false, vi (if x > m then x else m), vi (IntKind.i64.wrap (i + 1))] [] else none else none else some (.ext 0, [.sl (.int .i64) l false, vi m, vi i], [])) := by kernel_rfl
theorem nl53 (again : Ag) (l : List Int) (m i : Int) : lpStep T32 53 5 0 (lpc T32 53 5) again [lI l, vi m, vi i] [] = (bif decide (i < (↑l.length : Int)) then bif decide (0 ≤ i) then bif decide (i < (↑l.length : Int)) then oM l[i.toNat]? fun x => again [.sl (.int .i64) l false, vi (if x < m then x else m), vi (IntKind.i64.wrap (i + 1))] [] else none else none else some (.ext 0, [.sl (.int .i64) l false, vi m, vi i], [])) := by kernel_rfl
def l52_5t (l : List Int) (m : Int) : Tree (Out × List AV × Hp) := .br (decide (m = Clm.at0 l 0) && decide (1 ≤ l.length) && sm l) (.leaf (.ext 0, [lI l, vi (Clm.maxI l), vi l.length], [])) .fail
def l52_5 (base : Nat) (kv : List AV) (H : Hp) : Tree (Out × List AV × Hp) := match Nat.beq base 0, kv, H with
  | true, [(.sl (.int .i64) l false), (.sc (.int .i64 m)), (.sc (.int .i64 1))], [] => l52_5t l m
  | _, _, _ => .fail
theorem l52_5_ok {T : Tab} (hT : TabOK T) (hlo : loopOf T.fn 52 5 = some (lpc T 52 5)) (h : ∀ (l : List Int) (m : Int) (r : Out × List AV × Hp), (l52_5t l m).val = some r → ∃ mm, lpRun T 52 5 0 (lpc T 52 5) mm [lI l, vi m, vi 1] [] = some r) : ∀ base kv H o kv' H', (l52_5 base kv H).val = some (o, kv', H') → LoopOK T 52 5 base kv H o kv' H' := by
  intro base kv H o kv' H' hv
  unfold l52_5 at hv
  split at hv
  · rename_i hb
    obtain rfl := Nat.eq_of_beq_eq_true hb
    exact loop_ok hT hlo (h _ _ _ hv)
  · cases hv
def l53_5t (l : List Int) (m : Int) : Tree (Out × List AV × Hp) := .br (decide (m = Clm.at0 l 0) && decide (1 ≤ l.length) && sm l) (.leaf (.ext 0, [lI l, vi (Clm.minI l), vi l.length], [])) .fail
def l53_5 (base : Nat) (kv : List AV) (H : Hp) : Tree (Out × List AV × Hp) := match Nat.beq base 0, kv, H with
  | true, [(.sl (.int .i64) l false), (.sc (.int .i64 m)), (.sc (.int .i64 1))], [] => l53_5t l m
  | _, _, _ => .fail
theorem l53_5_ok {T : Tab} (hT : TabOK T) (hlo : loopOf T.fn 53 5 = some (lpc T 53 5)) (h : ∀ (l : List Int) (m : Int) (r : Out × List AV × Hp), (l53_5t l m).val = some r → ∃ mm, lpRun T 53 5 0 (lpc T 53 5) mm [lI l, vi m, vi 1] [] = some r) : ∀ base kv H o kv' H', (l53_5 base kv H).val = some (o, kv', H') → LoopOK T 53 5 base kv H o kv' H' := by
  intro base kv H o kv' H' hv
  unfold l53_5 at hv
  split at hv
  · rename_i hb
    obtain rfl := Nat.eq_of_beq_eq_true hb
    exact loop_ok hT hlo (h _ _ _ hv)
  · cases hv
noncomputable def T33 : Tab := ((T32).addLoop 52 5 l52_5).addLoop 53 5 l53_5
theorem nf52 (l : List Int) : evBody T33 52 [lI l] [] = (bif decide ((↑l.length : Int) < 1) then none else bif decide (0 < (↑l.length : Int)) then oM l[0]? fun x => bif decide (x = Clm.at0 l 0) && decide (1 ≤ l.length) && sm l then some (vi (Clm.maxI l), []) else none else none) := by kernel_rfl
theorem nf53 (l : List Int) : evBody T33 53 [lI l] [] = (bif decide ((↑l.length : Int) < 1) then none else bif decide (0 < (↑l.length : Int)) then oM l[0]? fun x => bif decide (x = Clm.at0 l 0) && decide (1 ≤ l.length) && sm l then some (vi (Clm.minI l), []) else none else none) := by kernel_rfl
def c52t (l : List Int) : Tree (AV × Hp) := .br (decide (1 ≤ l.length) && sm l) (.leaf (vi (Clm.maxI l), [])) .fail
def c52 (args : List AV) (H : Hp) : Tree (AV × Hp) := match args, H with
  | [(.sl (.int .i64) l false)], [] => c52t l
  | _, _ => .fail
theorem c52_ok {T : Tab} (hT : TabOK T) (h : ∀ (l : List Int) (r : AV × Hp), (c52t l).val = some r → evBody T 52 [lI l] [] = some r) : ∀ args H v H', (c52 args H).val = some (v, H') → CallOK T 52 args H v H' := by
  intro args H v H' hv
  unfold c52 at hv
  split at hv
  · exact evBody_sound hT (h _ _ hv)
  · cases hv
def c53t (l : List Int) : Tree (AV × Hp) := .br (decide (1 ≤ l.length) && sm l) (.leaf (vi (Clm.minI l), [])) .fail
def c53 (args : List AV) (H : Hp) : Tree (AV × Hp) := match args, H with
  | [(.sl (.int .i64) l false)], [] => c53t l
  | _, _ => .fail
theorem c53_ok {T : Tab} (hT : TabOK T) (h : ∀ (l : List Int) (r : AV × Hp), (c53t l).val = some r → evBody T 53 [lI l] [] = some r) : ∀ args H v H', (c53 args H).val = some (v, H') → CallOK T 53 args H v H' := by
  intro args H v H' hv
  unfold c53 at hv
  split at hv
  · exact evBody_sound hT (h _ _ hv)
  · cases hv
noncomputable def T34 : Tab := ((T33).addCall 52 c52).addCall 53 c53
end Go.Ev.Clm
namespace Go.Ev.Clm
open Go Go.Ev
set_option maxRecDepth 1000000
set_option linter.unusedVariables false
abbrev rCl (r k : Nat) : Row := ⟨[.os r 0 0 k true false true], true, 22, false, true, none⟩
theorem nl51 (again : Ag) (l cs : List Int) (n m i : Int) : lpStep T34 51 3 0 (lpc T34 51 3) again [.pt [lI cs] (some 22) 0 0 0, vi n, lI l, vi m, vi i] [] = (bif decide (i < m) then bif decide (0 ≤ i) then bif decide (i < (↑l.length : Int)) then oM l[i.toNat]? fun x => bif decide (0 ≤ i) then bif decide (i < (↑cs.length : Int)) then oM cs[i.toNat]? fun x_1 => again [.pt [.sl (.int .i64) cs false] (some 22) 0 0 0, vi (if IntKind.i64.wrap (IntKind.i64.wrap (120 * x_1) - x) > n then IntKind.i64.wrap (IntKind.i64.wrap (120 * x_1) - x) else n), .sl (.int .i64) l false, vi m, vi (IntKind.i64.wrap (i + 1))] [] else none else none else none else none else some (.ext 0, [.pt [.sl (.int .i64) cs false] (some 22) 0 0 0, vi n, .sl (.int .i64) l false, vi m, vi i], [])) := by kernel_rfl
def l51_3t (l cs : List Int) (m : Int) : Tree (Out × List AV × Hp) := .br (decide (m = l.length) && decide (l.length = cs.length) && sm l && Clm.sb cs && Clm.sb l) (.leaf (.ext 0, [.pt [lI cs] (some 22) 0 0 0, vi (Clm.mostI cs l), lI l, vi m, vi m], [])) .fail
def l51_3 (base : Nat) (kv : List AV) (H : Hp) : Tree (Out × List AV × Hp) := match Nat.beq base 0, kv, H with
  | true, [.pt [(.sl (.int .i64) cs false)] (some 22) 0 0 0, (.sc (.int .i64 0)), (.sl (.int .i64) l false), (.sc (.int .i64 m)), (.sc (.int .i64 0))], [] => l51_3t l cs m
  | _, _, _ => .fail
theorem l51_3_ok {T : Tab} (hT : TabOK T) (hlo : loopOf T.fn 51 3 = some (lpc T 51 3)) (h : ∀ (l cs : List Int) (m : Int) (r : Out × List AV × Hp), (l51_3t l cs m).val = some r → ∃ mm, lpRun T 51 3 0 (lpc T 51 3) mm [.pt [lI cs] (some 22) 0 0 0, vi 0, lI l, vi m, vi 0] [] = some r) : ∀ base kv H o kv' H', (l51_3 base kv H).val = some (o, kv', H') → LoopOK T 51 3 base kv H o kv' H' := by
  intro base kv H o kv' H' hv
  unfold l51_3 at hv
  split at hv
  · rename_i hb
    obtain rfl := Nat.eq_of_beq_eq_true hb
    exact loop_ok hT hlo (h _ _ _ _ hv)
  · cases hv
noncomputable def TB1 : Tab := T34.addLoop 51 3 l51_3
theorem nf51 (l cs : List Int) : evBody TB1 51 [lI l, .pt [lI cs] (some 22) 0 0 0] [] = (bif decide ((↑l.length : Int) = (↑l.length : Int)) && decide (l.length = cs.length) && sm l && Clm.sb cs && Clm.sb l then some (vi (Clm.mostI cs l), []) else none) := by kernel_rfl
def c51t (l cs : List Int) : Tree (AV × Hp) := .br (decide (l.length = cs.length) && sm l && Clm.sb cs && Clm.sb l) (.leaf (vi (Clm.mostI cs l), [])) .fail
def c51 (args : List AV) (H : Hp) : Tree (AV × Hp) := match args, H with
  | [(.sl (.int .i64) l false), .pt [(.sl (.int .i64) cs false)] (some 22) 0 0 0], [] => c51t l cs
  | _, _ => .fail
theorem c51_ok {T : Tab} (hT : TabOK T) (h : ∀ (l cs : List Int) (r : AV × Hp), (c51t l cs).val = some r → evBody T 51 [lI l, .pt [lI cs] (some 22) 0 0 0] [] = some r) : ∀ args H v H', (c51 args H).val = some (v, H') → CallOK T 51 args H v H' := by
  intro args H v H' hv
  unfold c51 at hv
  split at hv
  · exact evBody_sound hT (h _ _ _ hv)
  · cases hv
noncomputable def TB2 (W : Int) (C : List Int) : Tab := { ((((TB1.addCall 51 c51).addCall 38 (c38v W C)).addCall 19 c19o).addCall 21 c21o) with nest := true }
theorem nl15 (W : Int) (C : List Int) (again : Ag) (o a b cs : List Int) (t0 ta tb t : TypeId) (ko ka kb k k2 : Nat) (g m n i : Int) : lpStep (TB2 W C) 15 10 0 (lpc (TB2 W C) 15 10) again [vb false, osW 0 ko, osW 1 ka, osT 2 kb, .fn (.func 51) [] [ps 3], vi g, vi m, osW 4 k, vi n, vi i] [some (rowI o t0), some (rowI a ta), some (rowI b tb), some (rCl 4 k2), some (rowI cs t)] = (bif decide (i < n) then bif decide (0 ≤ i) then bif decide (i < (↑k : Int)) then oM cs[i.toNat]? fun x => bif decide (0 ≤ i) then bif decide (i < (↑ka : Int)) then oM a[i.toNat]? fun x_1 => bif x_1 != if IntKind.i64.wrap (120 * x) < g then IntKind.i64.wrap (120 * x) else g then some (.ret, [vb false, osW 0 ko, osW 1 ka, .os 2 0 0 kb true true true, .fn (Go.Fn.func 51) [] [.ps 3 0 0 0], vi g, vi m, osW 4 k, vi n, vi i], [some ⟨[.run (.int .i64) o], false, t0, false, false, none⟩, some ⟨[.run (.int .i64) a], false, ta, false, false, none⟩, some ⟨[.run (.int .i64) b], false, tb, false, false, none⟩, some ⟨[osW 4 k2], true, 22, false, true, none⟩, some ⟨[.run (.int .i64) cs], false, t, false, false, none⟩]) else bif decide (0 ≤ i) then bif decide (i < (↑kb : Int)) then oM b[i.toNat]? fun x_2 => bif IntKind.i64.wrap (IntKind.i64.wrap (120 * x) - x_2) != if IntKind.i64.wrap (120 * x) < m then IntKind.i64.wrap (120 * x) else m then some (.ret, [vb false, osW 0 ko, osW 1 ka, .os 2 0 0 kb true true true, .fn (Go.Fn.func 51) [] [.ps 3 0 0 0], vi g, vi m, osW 4 k, vi n, vi i], [some ⟨[.run (.int .i64) o], false, t0, false, false, none⟩, some ⟨[.run (.int .i64) a], false, ta, false, false, none⟩, some ⟨[.run (.int .i64) b], false, tb, false, false, none⟩, some ⟨[osW 4 k2], true, 22, false, true, none⟩, some ⟨[.run (.int .i64) cs], false, t, false, false, none⟩]) else again [vb false, osW 0 ko, osW 1 ka, .os 2 0 0 kb true true true, .fn (Go.Fn.func 51) [] [.ps 3 0 0 0], vi g, vi m, osW 4 k, vi n, vi (IntKind.i64.wrap (i + 1))] [some ⟨[.run (.int .i64) o], false, t0, false, false, none⟩, some ⟨[.run (.int .i64) a], false, ta, false, false, none⟩, some ⟨[.run (.int .i64) b], false, tb, false, false, none⟩, some ⟨[osW 4 k2], true, 22, false, true, none⟩, some ⟨[.run (.int .i64) cs], false, t, false, false, none⟩] else none else none else none else none else none else none else some (.ext 0, [vb false, osW 0 ko, osW 1 ka, .os 2 0 0 kb true true true, .fn (Go.Fn.func 51) [] [.ps 3 0 0 0], vi g, vi m, osW 4 k, vi n, vi i], [some ⟨[.run (.int .i64) o], false, t0, false, false, none⟩, some ⟨[.run (.int .i64) a], false, ta, false, false, none⟩, some ⟨[.run (.int .i64) b], false, tb, false, false, none⟩, some ⟨[osW 4 k2], true, 22, false, true, none⟩, some ⟨[.run (.int .i64) cs], false, t, false, false, none⟩])) := by kernel_rfl
def l15_10t (o a b cs : List Int) (t0 ta tb t : TypeId) (ko ka kb k k2 : Nat) (g m n : Int) : Tree (Out × List AV × Hp) := .br (decide (k = cs.length) && decide (n = cs.length) && decide (ka = cs.length) && decide (kb = cs.length) && decide (cs.length ≤ 5) && Clm.sb cs && Clm.sb a && Clm.sb b && decide (a.length = cs.length) && decide (b.length = cs.length) && Clm.bestB cs a b g m) (.leaf (.ext 0, [vb false, osW 0 ko, osW 1 ka, osT 2 kb, .fn (.func 51) [] [ps 3], vi g, vi m, osW 4 k, vi n, vi n], [some (rowI o t0), some (rowI a ta), some (rowI b tb), some (rCl 4 k2), some (rowI cs t)])) .fail
def l15_10 (base : Nat) (kv : List AV) (H : Hp) : Tree (Out × List AV × Hp) := match Nat.beq base 0, kv, H with
  | true, [(.sc (.bool false)), (.os 0 0 0 ko true false true), (.os 1 0 0 ka true false true), (.os 2 0 0 kb true true true), .fn (.func 51) [] [(.ps 3 0 0 0)], (.sc (.int .i64 g)), (.sc (.int .i64 m)), (.os 4 0 0 k true false true), (.sc (.int .i64 n)), (.sc (.int .i64 0))], [some ⟨[.run (.int .i64) o], false, t0, false, false, none⟩, some ⟨[.run (.int .i64) a], false, ta, false, false, none⟩, some ⟨[.run (.int .i64) b], false, tb, false, false, none⟩, some ⟨[.os 4 0 0 k2 true false true], true, 22, false, true, none⟩, some ⟨[.run (.int .i64) cs], false, t, false, false, none⟩] => l15_10t o a b cs t0 ta tb t ko ka kb k k2 g m n
  | _, _, _ => .fail
theorem l15_10_ok {T : Tab} (hT : TabOK T) (hlo : loopOf T.fn 15 10 = some (lpc T 15 10)) (h : ∀ (o a b cs : List Int) (t0 ta tb t : TypeId) (ko ka kb k k2 : Nat) (g m n : Int) (r : Out × List AV × Hp), (l15_10t o a b cs t0 ta tb t ko ka kb k k2 g m n).val = some r → ∃ mm, lpRun T 15 10 0 (lpc T 15 10) mm [vb false, osW 0 ko, osW 1 ka, osT 2 kb, .fn (.func 51) [] [ps 3], vi g, vi m, osW 4 k, vi n, vi 0] [some (rowI o t0), some (rowI a ta), some (rowI b tb), some (rCl 4 k2), some (rowI cs t)] = some r) : ∀ base kv H o kv' H', (l15_10 base kv H).val = some (o, kv', H') → LoopOK T 15 10 base kv H o kv' H' := by
  intro base kv H o kv' H' hv
  unfold l15_10 at hv
  split at hv
  · rename_i hb
    obtain rfl := Nat.eq_of_beq_eq_true hb
    exact loop_ok hT hlo (h _ _ _ _ _ _ _ _ _ _ _ _ _ _ _ _ _ hv)
  · cases hv
noncomputable def TB3 (W : Int) (C : List Int) : Tab := (TB2 W C).addLoop 15 10 l15_10
theorem nf15 (W : Int) (C : List Int) (h x : Int) (cl bs : List Int) : evBody (TB3 W C) 15 [aQ3 h cl x, aB bs] [] = (bif decide (List.map (fun (x : AV) => match x with | .run e l => l.length * e.size | _ => 1) [.sc (.int .u8 h), .run (.int .u16) cl, .sc (.int .u16 x)] = List.map (fun (x : AV) => match x with | .run e l => l.length * e.size | _ => 1) ((List.foldl (fun acc f => match acc, zeroC (Clm.TB3 W C).P 7 f.type with | some a, some c => some (a ++ c) | x, x_1 => none) (some []) [{ name := "Houses", type := 5, offset := 0, embedded := false, tag := "", pkgPath := "", byteOffset := 0 : Go.Field }, { name := "Claims", type := 38, offset := 1, embedded := false, tag := "", pkgPath := "", byteOffset := 2 : Go.Field }, { name := "Worth", type := 37, offset := 6, embedded := false, tag := "", pkgPath := "", byteOffset := 12 : Go.Field }]).getD [])) then bif decide (List.map (fun (x : AV) => match x with | .run e l => l.length * e.size | _ => 1) [.run (.int .u32) bs] = List.map (fun (x : AV) => match x with | .run e l => l.length * e.size | _ => 1) ((some [.run (.int .u32) (List.replicate 5 0)]).getD [])) then bif Clm.qG h cl x 1000 W C then bif Clm.chk W C == 0 && Clm.u32B bs && decide (bs.length = 5) then bif Clm.chk W C == 0 then bif Clm.chk W C == 0 then bif Clm.divB W C (Clm.gainV W C) then bif Clm.divB W C (Clm.lossV W C) then bif decide (1 ≤ (Clm.gainV W C).length) && sm (Clm.gainV W C) then bif decide ((Clm.lossV W C).length = C.length) && sm (Clm.lossV W C) && Clm.sb C && Clm.sb (Clm.lossV W C) then bif decide (C.length = C.length) && decide ((↑C.length : Int) = (↑C.length : Int)) && decide (C.length = C.length) && decide (C.length = C.length) && decide (C.length ≤ 5) && Clm.sb C && Clm.sb (Clm.gainV W C) && Clm.sb (Clm.lossV W C) && decide ((Clm.gainV W C).length = C.length) && decide ((Clm.lossV W C).length = C.length) && Clm.bestB C (Clm.gainV W C) (Clm.lossV W C) (Clm.maxI (Clm.gainV W C)) (Clm.mostI C (Clm.lossV W C)) then bif decide (1 ≤ (Clm.spread W C bs).length) && sm (Clm.spread W C bs) then bif decide (1 ≤ (Clm.gainV W C).length) && sm (Clm.gainV W C) then bif decide (Clm.minI (Clm.spread W C bs) ≤ Clm.minI (Clm.gainV W C)) then bif decide ((Clm.spread W C bs).length = C.length) && sm (Clm.spread W C bs) && Clm.sb C && Clm.sb (Clm.spread W C bs) then bif decide (Clm.mostI C (Clm.spread W C bs) ≥ Clm.mostI C (Clm.lossV W C)) then some (vb true, []) else some (vb false, []) else none else some (vb false, []) else none else none else none else none else none else none else none else none else none else none else none else none else none) := by kernel_rfl
end Go.Ev.Clm
namespace Go.Ev.Clm
open Go Go.Ev
set_option maxRecDepth 1000000
set_option linter.unusedVariables false
set_option linter.unusedSimpArgs false
theorem nest_ok {T : Tab} (h : TabOK T) : TabOK { T with nest := true } :=
  ⟨fun f a H v H' hv => by refine CallOK.tab ?_ ?_ (h.calls f a H v H' hv) <;> rfl, fun f l b k H o k' H' hv => by refine LoopOK.tab ?_ ?_ ?_ ?_ (h.loops f l b k H o k' H' hv) <;> rfl, h.fns, h.mixed⟩
theorem fold_one {f : Int → Int → Int} (hf : ∀ x, f x x = x) {l : List Int} (h : 1 ≤ l.length) : (l.take 1).foldl f (Clm.at0 l 0) = Clm.at0 l 0 := by
  cases l with
  | nil => simp at h
  | cons x l => exact hf x
theorem fold_next (f : Int → Int → Int) (s : Int) {l : List Int} {i : Nat} {x : Int} (h : l[i]? = some x) : (l.take (i + 1)).foldl f s = f ((l.take i).foldl f s) x := by
  rw [Clm.take_succ' h, List.foldl_append]; rfl
theorem l52_5_run : ∀ base kv H o kv' H', (l52_5 base kv H).val = some (o, kv', H') → LoopOK T32 52 5 base kv H o kv' H' := l52_5_ok T32_ok (by kernel_rfl) (by
  intro l m r hv
  obtain ⟨hl, hv2⟩ := guard_val hv
  simp only [Bool.and_eq_true, decide_eq_true_eq] at hl
  obtain ⟨⟨rfl, h1⟩, h2⟩ := hl
  have hs := sm_le h2
  obtain ⟨mm, hm⟩ := steps_of (T := T32) (fid := 52) (lid := 5) (base := 0) (c := lpc T32 52 5) (l.length - 1) (fun i => [lI l, vi ((l.take (i + 1)).foldl max (Clm.at0 l 0)), vi ((i + 1 : Nat) : Int)]) (fun _ => []) (.ext 0, [lI l, vi (Clm.maxI l), vi l.length], [])
    (fun i hi again => by
      obtain ⟨x, hx, hm⟩ := get_i (show i + 1 < l.length by omega)
      rw [nl52, fold_next max _ hx]
      simp only [dec_lt (show i + 1 < l.length by omega), dec_ge, cond_true, toNat_cast, hx, oM]
      rw [wrap_succ (by omega), Clm.mx'])
    (fun again => by
      rw [show l.length - 1 + 1 = l.length by omega, nl52, List.take_length]
      simp only [dec_ll, cond_false]
      rfl)
  rw [fold_one (f := max) (fun x => by omega) h1] at hm
  exact ⟨mm, hm.trans (by rw [leaf_val hv2])⟩)
theorem l53_5_run : ∀ base kv H o kv' H', (l53_5 base kv H).val = some (o, kv', H') → LoopOK T32 53 5 base kv H o kv' H' := l53_5_ok T32_ok (by kernel_rfl) (by
  intro l m r hv
  obtain ⟨hl, hv2⟩ := guard_val hv
  simp only [Bool.and_eq_true, decide_eq_true_eq] at hl
  obtain ⟨⟨rfl, h1⟩, h2⟩ := hl
  have hs := sm_le h2
  obtain ⟨mm, hm⟩ := steps_of (T := T32) (fid := 53) (lid := 5) (base := 0) (c := lpc T32 53 5) (l.length - 1) (fun i => [lI l, vi ((l.take (i + 1)).foldl min (Clm.at0 l 0)), vi ((i + 1 : Nat) : Int)]) (fun _ => []) (.ext 0, [lI l, vi (Clm.minI l), vi l.length], [])
    (fun i hi again => by
      obtain ⟨x, hx, hm⟩ := get_i (show i + 1 < l.length by omega)
      rw [nl53, fold_next min _ hx]
      simp only [dec_lt (show i + 1 < l.length by omega), dec_ge, cond_true, toNat_cast, hx, oM]
      rw [wrap_succ (by omega), Clm.mn'])
    (fun again => by
      rw [show l.length - 1 + 1 = l.length by omega, nl53, List.take_length]
      simp only [dec_ll, cond_false]
      rfl)
  rw [fold_one (f := min) (fun x => by omega) h1] at hm
  exact ⟨mm, hm.trans (by rw [leaf_val hv2])⟩)
theorem T33_ok : TabOK T33 := by
  have h := T32_ok
  have h := h.addLoop (g := 52) (lid := 5) (r := l52_5) fun b k H o k' H' hv => by refine LoopOK.tab ?_ ?_ ?_ ?_ (l52_5_run b k H o k' H' hv) <;> rfl
  have h := h.addLoop (g := 53) (lid := 5) (r := l53_5) fun b k H o k' H' hv => by refine LoopOK.tab ?_ ?_ ?_ ?_ (l53_5_run b k H o k' H' hv) <;> rfl
  exact h
theorem first_at {l : List Int} (h : 1 ≤ l.length) : l[0]? = some (Clm.at0 l 0) := (at0_get (l := l) (i := 0) (by omega) (by omega)).1
theorem c52_run : ∀ args H v H', (c52 args H).val = some (v, H') → CallOK T33 52 args H v H' := c52_ok T33_ok (by
  intro l r hv
  obtain ⟨hl, hv2⟩ := guard_val hv
  simp only [Bool.and_eq_true, decide_eq_true_eq] at hl
  obtain ⟨h1, h2⟩ := hl
  rw [leaf_val hv2, nf52]
  simp only [first_at h1, oM, decide_eq_false (show ¬ (l.length : Int) < 1 by omega), decide_eq_true (show (0 : Int) < (l.length : Int) by omega), decide_eq_true h1, h2, decide_true, Bool.and_self, cond_true, cond_false])
theorem c53_run : ∀ args H v H', (c53 args H).val = some (v, H') → CallOK T33 53 args H v H' := c53_ok T33_ok (by
  intro l r hv
  obtain ⟨hl, hv2⟩ := guard_val hv
  simp only [Bool.and_eq_true, decide_eq_true_eq] at hl
  obtain ⟨h1, h2⟩ := hl
  rw [leaf_val hv2, nf53]
  simp only [first_at h1, oM, decide_eq_false (show ¬ (l.length : Int) < 1 by omega), decide_eq_true (show (0 : Int) < (l.length : Int) by omega), decide_eq_true h1, h2, decide_true, Bool.and_self, cond_true, cond_false])
theorem T34_ok : TabOK T34 := by
  have h := T33_ok
  have h := h.addCall (g := 52) (r := c52) fun a H v H' hv => by refine CallOK.tab ?_ ?_ (c52_run a H v H' hv) <;> rfl
  have h := h.addCall (g := 53) (r := c53) fun a H v H' hv => by refine CallOK.tab ?_ ?_ (c53_run a H v H' hv) <;> rfl
  exact h
theorem l51_3_run : ∀ base kv H o kv' H', (l51_3 base kv H).val = some (o, kv', H') → LoopOK T34 51 3 base kv H o kv' H' := l51_3_ok T34_ok (by kernel_rfl) (by
  intro l cs m r hv
  obtain ⟨hl, hv2⟩ := guard_val hv
  simp only [Bool.and_eq_true, decide_eq_true_eq] at hl
  obtain ⟨⟨⟨⟨rfl, h1⟩, h2⟩, h3⟩, h4⟩ := hl
  have hs := sm_le h2
  obtain ⟨mm, hm⟩ := steps_of (T := T34) (fid := 51) (lid := 3) (base := 0) (c := lpc T34 51 3) l.length (fun i => [.pt [lI cs] (some 22) 0 0 0, vi (((Clm.lossL cs l).take i).foldl max 0), lI l, vi l.length, vi (i : Nat)]) (fun _ => []) (.ext 0, [.pt [lI cs] (some 22) 0 0 0, vi (Clm.mostI cs l), lI l, vi l.length, vi l.length], [])
    (fun i hi again => by
      obtain ⟨a1, b1⟩ := at0_get (l := l) (i := (i : Int)) (by omega) (by omega)
      obtain ⟨a2, b2⟩ := at0_get (l := cs) (i := (i : Int)) (by omega) (by omega)
      have d1 := Clm.sb_get h4 b1
      have d2 := Clm.sb_get h3 b2
      rw [toNat_cast] at a1 a2
      rw [nl51, fold_next max _ (Clm.loss_at (cs := cs) hi)]
      simp only [dec_lt hi, dec_lt (show i < cs.length by omega), dec_ge, cond_true, toNat_cast, a1, a2, oM]
      rw [wrap_succ (by omega), wrapi (x := 120 * Clm.at0 cs i) (by omega) (by omega), wrapi (x := 120 * Clm.at0 cs i - Clm.at0 l i) (by omega) (by omega), Clm.mx'])
    (fun again => by
      rw [nl51, List.take_of_length_le (by rw [Clm.loss_len]; omega)]
      simp only [dec_ll, cond_false]
      rfl)
  exact ⟨mm, hm.trans (by rw [leaf_val hv2])⟩)
theorem TB1_ok : TabOK TB1 := T34_ok.addLoop fun b k H o k' H' hv => by refine LoopOK.tab ?_ ?_ ?_ ?_ (l51_3_run b k H o k' H' hv) <;> rfl
theorem c51_run : ∀ args H v H', (c51 args H).val = some (v, H') → CallOK TB1 51 args H v H' := c51_ok TB1_ok (by
  intro l cs r hv
  obtain ⟨hl, hv2⟩ := guard_val hv
  simp only [Bool.and_eq_true, decide_eq_true_eq] at hl
  obtain ⟨⟨⟨h1, h2⟩, h3⟩, h4⟩ := hl
  rw [leaf_val hv2, nf51]
  simp only [decide_eq_true h1, h2, h3, h4, decide_true, Bool.and_self, cond_true])
theorem TB2_ok (W : Int) (C : List Int) : TabOK (TB2 W C) := by
  have h := TB1_ok
  have h := h.addCall (g := 51) (r := c51) fun a H v H' hv => by refine CallOK.tab ?_ ?_ (c51_run a H v H' hv) <;> rfl
  have h := h.addCall (g := 38) (r := c38v W C) fun a H v H' hv => by refine CallOK.tab ?_ ?_ (c38v_run W C a H v H' hv) <;> rfl
  have h := h.addCall (g := 19) (r := c19o) fun a H v H' hv => by refine CallOK.tab ?_ ?_ (c19o_run a H v H' hv) <;> rfl
  have h := h.addCall (g := 21) (r := c21o) fun a H v H' hv => by refine CallOK.tab ?_ ?_ (c21o_run a H v H' hv) <;> rfl
  exact nest_ok h
theorem l15_10_run (W : Int) (C : List Int) : ∀ base kv H o kv' H', (l15_10 base kv H).val = some (o, kv', H') → LoopOK (TB2 W C) 15 10 base kv H o kv' H' := l15_10_ok (TB2_ok W C) (by kernel_rfl) (by
  intro o a b cs t0 ta tb t ko ka kb k k2 g m n r hv
  obtain ⟨hl, hv2⟩ := guard_val hv
  simp only [Bool.and_eq_true, decide_eq_true_eq] at hl
  obtain ⟨⟨⟨⟨⟨⟨⟨⟨⟨⟨rfl, rfl⟩, rfl⟩, rfl⟩, h5⟩, s1⟩, s2⟩, s3⟩, e1⟩, e2⟩, hq⟩ := hl
  unfold Clm.bestB at hq
  simp only [Bool.and_eq_true, List.all_eq_true, beq_iff_eq] at hq
  obtain ⟨mm, hm⟩ := steps_of (T := TB2 W C) (fid := 15) (lid := 10) (base := 0) (c := lpc (TB2 W C) 15 10) cs.length (fun i => [vb false, osW 0 ko, osW 1 cs.length, osT 2 cs.length, .fn (.func 51) [] [ps 3], vi g, vi m, osW 4 cs.length, vi cs.length, vi (i : Nat)]) (fun _ => [some (rowI o t0), some (rowI a ta), some (rowI b tb), some (rCl 4 k2), some (rowI cs t)]) (.ext 0, [vb false, osW 0 ko, osW 1 cs.length, osT 2 cs.length, .fn (.func 51) [] [ps 3], vi g, vi m, osW 4 cs.length, vi cs.length, vi cs.length], [some (rowI o t0), some (rowI a ta), some (rowI b tb), some (rCl 4 k2), some (rowI cs t)])
    (fun i hi again => by
      obtain ⟨g0, m0⟩ := at0_get (l := cs) (i := (i : Int)) (by omega) (by omega)
      obtain ⟨g1, m1⟩ := at0_get (l := a) (i := (i : Int)) (by omega) (by omega)
      obtain ⟨g2, m2⟩ := at0_get (l := b) (i := (i : Int)) (by omega) (by omega)
      have b0 := Clm.sb_get s1 m0
      have b2 := Clm.sb_get s3 m2
      have e := hq i (List.mem_range.2 hi)
      rw [toNat_cast] at g0 g1 g2
      rw [nl15]
      simp only [dec_lt hi, dec_ge, cond_true, toNat_cast, g0, g1, g2, oM]
      rw [wrapi (x := 120 * Clm.at0 cs i) (by omega) (by omega), wrapi (x := 120 * Clm.at0 cs i - Clm.at0 b i) (by omega) (by omega), Clm.mn', Clm.mn', ← e.1, ← e.2]
      simp only [bne_self_eq_false, cond_false]
      rw [wrap_succ (by omega)])
    (fun again => by
      rw [nl15]
      simp only [dec_ll, cond_false])
  exact ⟨mm, hm.trans (by rw [leaf_val hv2])⟩)
theorem TB3_ok (W : Int) (C : List Int) : TabOK (TB3 W C) := (TB2_ok W C).addLoop fun b k H o k' H' hv => by refine LoopOK.tab ?_ ?_ ?_ ?_ (l15_10_run W C b k H o k' H' hv) <;> rfl
noncomputable def TBQ (m : Int) (q : Clm.Qu) : Tab := TB3 (Clm.quW q m) (Clm.quC q m)
theorem TBQ_ok (m : Int) (q : Clm.Qu) : TabOK (TBQ m q) := TB3_ok _ _
theorem best_body (q : Clm.Qu) (hq : q.Fit) (bs : List Int) (hb : bs.length = 5 ∧ ∀ x ∈ bs, 0 ≤ x ∧ x < 4294967296) : evBody (TBQ 1000 q) 15 [.agg [.sc (.int .u8 q.houses), .run (.int .u16) q.claims, .sc (.int .u16 q.worth)] false, .agg [.run (.int .u32) bs] false] [] = some (vb true, []) := by
  have hG := qG_ok hq (m := 1000) (by omega) (by omega)
  have ok := Clm.qu_ok hq (most := 1000) (by omega) (by omega)
  have hcl := hq.c.1
  unfold TBQ
  generalize Clm.quW q 1000 = W at *
  generalize Clm.quC q 1000 = C at *
  have hn := ok.len
  have hne := Clm.ok_ne ok
  have dS := Clm.spread_div (bs := bs) ok (by omega) fun x hx => (hb.2 x hx).1
  have d5 := (Clm.gain_div ok).1
  have d6 := (Clm.loss_div ok).1
  have hc : Clm.chk W C = 0 := Clm.ok_iff ok
  have hu := Clm.u32_of hb.2
  have hB := Clm.best_ok ok
  have b1 := Clm.best_gain ok dS
  have b2 := Clm.best_loss ok dS
  have s1 := sb_ok ok
  have s2 := Clm.div_sb ok d5
  have s3 := Clm.div_sb ok d6
  have s4 := Clm.div_sb ok dS
  have m2 : sm (Clm.gainV W C) = true := sm_of (k := 5) (by rw [d5.len]; exact hn) (by omega)
  have m3 : sm (Clm.lossV W C) = true := sm_of (k := 5) (by rw [d6.len]; exact hn) (by omega)
  have m4 : sm (Clm.spread W C bs) = true := sm_of (k := 5) (by rw [dS.len]; exact hn) (by omega)
  rw [nf15]
  refine (cond_t ?_).trans ?_
  · refine decide_eq_true ?_
    show ([1, q.claims.length * 1, 1] : List Nat) = _
    rw [hcl]
    kernel_rfl
  refine (cond_t ?_).trans ?_
  · refine decide_eq_true ?_
    show ([bs.length * 1] : List Nat) = _
    rw [hb.1]
    kernel_rfl
  simp only [hG, hc, hu, hB, s1, s2, s3, s4, m2, m3, m4, d5.len, d6.len, dS.len, Clm.divB_of ok d5, Clm.divB_of ok d6, decide_eq_true hn, decide_eq_true hne, decide_eq_true hb.1, decide_eq_true b1, decide_eq_true (show Clm.mostI C (Clm.spread W C bs) ≥ Clm.mostI C (Clm.lossV W C) from b2), decide_true, beq_self_eq_true, Bool.and_self, cond_true]
end Go.Ev.Clm
