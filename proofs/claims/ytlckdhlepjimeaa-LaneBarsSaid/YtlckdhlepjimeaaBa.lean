/- All ways from a yard, and corners that bar the carts: tables and normal forms. -/
import Derived.Test.YtlckdhlepjimeaaFb
set_option linter.unusedVariables false
set_option linter.unusedSimpArgs false
namespace Lan
def lessB : List Int → List Int → Bool
  | x :: l, y :: m => bif x == y then lessB l m else decide (x < y)
  | [], _ :: _ => true
  | _, [] => false
def fdiff : List Int → List Int → Nat
  | x :: l, y :: m => bif x == y then fdiff l m + 1 else 0
  | _, _ => 0
def insAt (out : List (List Int)) (w : List Int) : Nat := out.findIdx fun o => !lessB o w
def insW (out : List (List Int)) (w : List Int) : List (List Int) := out.take (insAt out w) ++ [w] ++ out.drop (insAt out w)
def fY (a b : Int) (sh ti : List Int) (x : Int) : List (List Int) := ti.foldl (fun out t => (wR a b t sh [x]).foldl insW out) []
end Lan
namespace Go.Ev.Lane
open Go Go.Ev
set_option maxRecDepth 1000000
set_option maxHeartbeats 0
set_option linter.unusedVariables false
theorem nl82 (again : Ag) (l m : List Int) (i : Int) : lpStep Y6 82 2 0 (lpc Y6 82 2) again [lI l, lI m, vb false, vi i] [] = (bif decide (i < (↑l.length : Int)) then bif decide (i < (↑m.length : Int)) then bif decide (0 ≤ i) then bif decide (i < (↑l.length : Int)) then oM l[i.toNat]? fun x => bif decide (0 ≤ i) then bif decide (i < (↑m.length : Int)) then oM m[i.toNat]? fun x_1 => bif x != x_1 then bif decide (0 ≤ i) then bif decide (i < (↑l.length : Int)) then oM l[i.toNat]? fun x => bif decide (0 ≤ i) then bif decide (i < (↑m.length : Int)) then oM m[i.toNat]? fun x_2 => some (.ret, [.sl (.int .i64) l false, .sl (.int .i64) m false, vb (decide (x < x_2)), vi i], []) else none else none else none else none else again [.sl (.int .i64) l false, .sl (.int .i64) m false, vb false, vi (IntKind.i64.wrap (i + 1))] [] else none else none else none else none else some (.ext 0, [.sl (.int .i64) l false, .sl (.int .i64) m false, vb false, vi i], []) else some (.ext 0, [.sl (.int .i64) l false, .sl (.int .i64) m false, vb false, vi i], [])) := by kernel_rfl
def l82_2t (l m : List Int) : Tree (Out × List AV × Hp) := .br (sm l && sm m) (.br (decide (Lan.fdiff l m < l.length) && decide (Lan.fdiff l m < m.length)) (.leaf (.ret, [lI l, lI m, vb (Lan.lessB l m), vi (Lan.fdiff l m)], [])) (.leaf (.ext 0, [lI l, lI m, vb false, vi (Lan.fdiff l m)], []))) .fail
def l82_2 (base : Nat) (kv : List AV) (H : Hp) : Tree (Out × List AV × Hp) := match Nat.beq base 0, kv, H with
  | true, [(.sl (.int .i64) l false), (.sl (.int .i64) m false), (.sc (.bool false)), (.sc (.int .i64 0))], [] => l82_2t l m
  | _, _, _ => .fail
theorem l82_2_ok {T : Tab} (hT : TabOK T) (hlo : loopOf T.fn 82 2 = some (lpc T 82 2)) (h : ∀ (l m : List Int) (r : Out × List AV × Hp), (l82_2t l m).val = some r → ∃ mm, lpRun T 82 2 0 (lpc T 82 2) mm [lI l, lI m, vb false, vi 0] [] = some r) : ∀ base kv H o kv' H', (l82_2 base kv H).val = some (o, kv', H') → LoopOK T 82 2 base kv H o kv' H' := by
  intro base kv H o kv' H' hv
  unfold l82_2 at hv
  split at hv
  · rename_i hb
    obtain rfl := Nat.eq_of_beq_eq_true hb
    exact loop_ok hT hlo (h _ _ _ hv)
  · cases hv
noncomputable def Z0 : Tab := (Y6).addLoop 82 2 l82_2
theorem nf82 (l m : List Int) : evBody Z0 82 [lI l, lI m] [] = (bif sm l && sm m then bif decide (Lan.fdiff l m < l.length) && decide (Lan.fdiff l m < m.length) then some (vb (Lan.lessB l m), []) else some (vb (decide ((↑l.length : Int) < (↑m.length : Int))), []) else none) := by kernel_rfl
def c82t (l m : List Int) : Tree (AV × Hp) := .br (sm l && sm m) (.leaf (vb (Lan.lessB l m), [])) .fail
def c82 (args : List AV) (H : Hp) : Tree (AV × Hp) := match args, H with
  | [(.sl (.int .i64) l false), (.sl (.int .i64) m false)], [] => c82t l m
  | _, _ => .fail
theorem c82_ok {T : Tab} (hT : TabOK T) (h : ∀ (l m : List Int) (r : AV × Hp), (c82t l m).val = some r → evBody T 82 [lI l, lI m] [] = some r) : ∀ args H v H', (c82 args H).val = some (v, H') → CallOK T 82 args H v H' := by
  intro args H v H' hv
  unfold c82 at hv
  split at hv
  · exact evBody_sound hT (h _ _ _ hv)
  · cases hv
noncomputable def Z1 : Tab := (Y6).addCall 82 c82
theorem nl105_10 (again : Ag) (sh ya ti : List Int) (out l : List (List Int)) (a b y k i at_ : Int) (ty tl : TypeId) (n m : Nat) : lpStep Z1 105 10 0 (lpc Z1 105 10) again [vi y, ps 0, ps 1, osW 2 n, vi k, osW 3 m, vi i, vi at_] [some (rP a b sh 29), some (rZ ya ti 30), some (rowL out ty), some (rowL l tl)] = (bif decide (at_ < (↑n : Int)) then bif decide (0 ≤ at_) then bif decide (at_ < (↑n : Int)) then oM out[at_.toNat]? fun x => bif decide (0 ≤ i) then bif decide (i < (↑m : Int)) then oM l[i.toNat]? fun x_1 => bif sm x && sm x_1 then bif Lan.lessB x x_1 then again [vi y, .ps 0 0 0 0, .ps 1 0 0 0, osW 2 n, vi k, osW 3 m, vi i, vi (IntKind.i64.wrap (at_ + 1))] [some ⟨[vi a, vi b, .sl (.int .i64) sh false], true, 29, false, false, none⟩, some ⟨[.sl (.int .i64) ya false, .sl (.int .i64) ti false], true, 30, false, false, none⟩, some ⟨[.run (.ilist .i64) out], false, ty, false, false, none⟩, some ⟨[.run (.ilist .i64) l], false, tl, false, false, none⟩] else some (.ext 4, [vi y, .ps 0 0 0 0, .ps 1 0 0 0, osW 2 n, vi k, osW 3 m, vi i, vi at_], [some ⟨[vi a, vi b, .sl (.int .i64) sh false], true, 29, false, false, none⟩, some ⟨[.sl (.int .i64) ya false, .sl (.int .i64) ti false], true, 30, false, false, none⟩, some ⟨[.run (.ilist .i64) out], false, ty, false, false, none⟩, some ⟨[.run (.ilist .i64) l], false, tl, false, false, none⟩]) else none else none else none else none else none else some (.ext 4, [vi y, .ps 0 0 0 0, .ps 1 0 0 0, osW 2 n, vi k, osW 3 m, vi i, vi at_], [some ⟨[vi a, vi b, .sl (.int .i64) sh false], true, 29, false, false, none⟩, some ⟨[.sl (.int .i64) ya false, .sl (.int .i64) ti false], true, 30, false, false, none⟩, some ⟨[.run (.ilist .i64) out], false, ty, false, false, none⟩, some ⟨[.run (.ilist .i64) l], false, tl, false, false, none⟩])) := by kernel_rfl
def _root_.Lan.waysG (l : List (List Int)) : Bool := decide (l.length ≤ 300000) && l.all fun w => sm w
def l105_10t (sh ya ti : List Int) (out l : List (List Int)) (a b y k i : Int) (ty tl : TypeId) (n m : Nat) : Tree (Out × List AV × Hp) := .br (Lan.waysG out && Lan.waysG l && decide (n = out.length) && decide (m = l.length) && decide (0 ≤ i) && decide (i < (m : Int))) (.leaf (.ext 4, [vi y, ps 0, ps 1, osW 2 n, vi k, osW 3 m, vi i, vi (Lan.insAt out (l.getD i.toNat []))], [some (rP a b sh 29), some (rZ ya ti 30), some (rowL out ty), some (rowL l tl)])) .fail
def l105_10 (base : Nat) (kv : List AV) (H : Hp) : Tree (Out × List AV × Hp) := match Nat.beq base 0, kv, H with
  | true, [(.sc (.int .i64 y)), (.ps 0 0 0 0), (.ps 1 0 0 0), (.os 2 0 0 n true false true), (.sc (.int .i64 k)), (.os 3 0 0 m true false true), (.sc (.int .i64 i)), (.sc (.int .i64 0))], [some ⟨[.sc (.int .i64 a), .sc (.int .i64 b), .sl (.int .i64) sh false], true, 29, false, false, none⟩, some ⟨[.sl (.int .i64) ya false, .sl (.int .i64) ti false], true, 30, false, false, none⟩, some ⟨[.run (.ilist .i64) out], false, ty, false, false, none⟩, some ⟨[.run (.ilist .i64) l], false, tl, false, false, none⟩] => l105_10t sh ya ti out l a b y k i ty tl n m
  | _, _, _ => .fail
theorem l105_10_ok {T : Tab} (hT : TabOK T) (hlo : loopOf T.fn 105 10 = some (lpc T 105 10)) (h : ∀ (sh ya ti : List Int) (out l : List (List Int)) (a b y k i : Int) (ty tl : TypeId) (n m : Nat) (r : Out × List AV × Hp), (l105_10t sh ya ti out l a b y k i ty tl n m).val = some r → ∃ mm, lpRun T 105 10 0 (lpc T 105 10) mm [vi y, ps 0, ps 1, osW 2 n, vi k, osW 3 m, vi i, vi 0] [some (rP a b sh 29), some (rZ ya ti 30), some (rowL out ty), some (rowL l tl)] = some r) : ∀ base kv H o kv' H', (l105_10 base kv H).val = some (o, kv', H') → LoopOK T 105 10 base kv H o kv' H' := by
  intro base kv H o kv' H' hv
  unfold l105_10 at hv
  split at hv
  · rename_i hb
    obtain rfl := Nat.eq_of_beq_eq_true hb
    exact loop_ok hT hlo (h _ _ _ _ _ _ _ _ _ _ _ _ _ _ _ hv)
  · cases hv
noncomputable def Z2 : Tab := (Z1).addLoop 105 10 l105_10
theorem nl105_7 (again : Ag) (sh ya ti : List Int) (out l : List (List Int)) (a b y k i : Int) (ty tl : TypeId) (m : Nat) : lpStep Z2 105 7 0 (lpc Z2 105 7) again [vi y, ps 0, ps 1, osW 2 out.length, vi k, osW 3 m, vi i] [some (rP a b sh 29), some (rZ ya ti 30), some (rowL out ty), some (rowL l tl)] = (bif decide (i < (↑m : Int)) then bif Lan.waysG out && Lan.waysG l && decide (out.length = out.length) && decide (m = l.length) && decide (0 ≤ i) && decide (i < (↑m : Int)) then bif decide ((↑(Lan.insAt out (l.getD i.toNat [])) : Int) ≤ (↑out.length : Int)) then bif decide (0 + (↑(Lan.insAt out (l.getD i.toNat [])) : Int).toNat ≤ out.length) then bif bif decide (0 < (dropTake out 0 (↑(Lan.insAt out (l.getD i.toNat [])) : Int).toNat).length) then true else ([] : List Int).isEmpty then bif room (0 + (dropTake out 0 (↑(Lan.insAt out (l.getD i.toNat [])) : Int).toNat).length) 24 then bif decide (0 ≤ i) then bif decide (i < (↑m : Int)) then oM l[i.toNat]? fun x => bif room (0 + (dropTake out 0 (↑(Lan.insAt out (l.getD i.toNat [])) : Int).toNat).length + 1) 24 then bif decide ((↑(Lan.insAt out (l.getD i.toNat [])) : Int) ≤ (↑out.length : Int)) then bif decide ((↑(Lan.insAt out (l.getD i.toNat [])) : Int).toNat + (out.length - (↑(Lan.insAt out (l.getD i.toNat [])) : Int).toNat) ≤ out.length) then bif room (0 + (dropTake out 0 (↑(Lan.insAt out (l.getD i.toNat [])) : Int).toNat).length + 1 + (dropTake out (↑(Lan.insAt out (l.getD i.toNat [])) : Int).toNat (out.length - (↑(Lan.insAt out (l.getD i.toNat [])) : Int).toNat)).length) 24 then again [vi y, .ps 0 0 0 0, .ps 1 0 0 0, .os 2 0 0 (0 + (dropTake out 0 (↑(Lan.insAt out (l.getD i.toNat [])) : Int).toNat).length + 1 + (dropTake out (↑(Lan.insAt out (l.getD i.toNat [])) : Int).toNat (out.length - (↑(Lan.insAt out (l.getD i.toNat [])) : Int).toNat)).length) true false true, vi k, osW 3 m, vi (IntKind.i64.wrap (i + 1))] [some ⟨[vi a, vi b, .sl (.int .i64) sh false], true, 29, false, false, none⟩, some ⟨[.sl (.int .i64) ya false, .sl (.int .i64) ti false], true, 30, false, false, none⟩, some ⟨[.run (.ilist .i64) ([] ++ dropTake out 0 (↑(Lan.insAt out (l.getD i.toNat [])) : Int).toNat ++ [x] ++ dropTake out (↑(Lan.insAt out (l.getD i.toNat [])) : Int).toNat (out.length - (↑(Lan.insAt out (l.getD i.toNat [])) : Int).toNat))], false, 22, false, false, none⟩, some ⟨[.run (.ilist .i64) l], false, tl, false, false, none⟩] else none else none else none else none else none else none else none else none else none else none else none else some (.ext 2, [vi y, .ps 0 0 0 0, .ps 1 0 0 0, osW 2 out.length, vi k, osW 3 m, vi i], [some ⟨[vi a, vi b, .sl (.int .i64) sh false], true, 29, false, false, none⟩, some ⟨[.sl (.int .i64) ya false, .sl (.int .i64) ti false], true, 30, false, false, none⟩, some ⟨[.run (.ilist .i64) out], false, ty, false, false, none⟩, some ⟨[.run (.ilist .i64) l], false, tl, false, false, none⟩])) := by kernel_rfl
def l105_7t (sh ya ti : List Int) (out l : List (List Int)) (a b y k : Int) (ty tl : TypeId) (n m : Nat) : Tree (Out × List AV × Hp) := .br (Lan.waysG out && Lan.waysG l && decide (n = out.length) && decide (m = l.length) && decide (out.length + l.length ≤ 300000) && decide (ty = tyL out)) (.leaf (.ext 2, [vi y, ps 0, ps 1, osW 2 (out.length + l.length), vi k, osW 3 m, vi m], [some (rP a b sh 29), some (rZ ya ti 30), some (rL (l.foldl Lan.insW out)), some (rowL l tl)])) .fail
def l105_7 (base : Nat) (kv : List AV) (H : Hp) : Tree (Out × List AV × Hp) := match Nat.beq base 0, kv, H with
  | true, [(.sc (.int .i64 y)), (.ps 0 0 0 0), (.ps 1 0 0 0), (.os 2 0 0 n true false true), (.sc (.int .i64 k)), (.os 3 0 0 m true false true), (.sc (.int .i64 0))], [some ⟨[.sc (.int .i64 a), .sc (.int .i64 b), .sl (.int .i64) sh false], true, 29, false, false, none⟩, some ⟨[.sl (.int .i64) ya false, .sl (.int .i64) ti false], true, 30, false, false, none⟩, some ⟨[.run (.ilist .i64) out], false, ty, false, false, none⟩, some ⟨[.run (.ilist .i64) l], false, tl, false, false, none⟩] => l105_7t sh ya ti out l a b y k ty tl n m
  | _, _, _ => .fail
theorem l105_7_ok {T : Tab} (hT : TabOK T) (hlo : loopOf T.fn 105 7 = some (lpc T 105 7)) (h : ∀ (sh ya ti : List Int) (out l : List (List Int)) (a b y k : Int) (ty tl : TypeId) (n m : Nat) (r : Out × List AV × Hp), (l105_7t sh ya ti out l a b y k ty tl n m).val = some r → ∃ mm, lpRun T 105 7 0 (lpc T 105 7) mm [vi y, ps 0, ps 1, osW 2 n, vi k, osW 3 m, vi 0] [some (rP a b sh 29), some (rZ ya ti 30), some (rowL out ty), some (rowL l tl)] = some r) : ∀ base kv H o kv' H', (l105_7 base kv H).val = some (o, kv', H') → LoopOK T 105 7 base kv H o kv' H' := by
  intro base kv H o kv' H' hv
  unfold l105_7 at hv
  split at hv
  · rename_i hb
    obtain rfl := Nat.eq_of_beq_eq_true hb
    exact loop_ok hT hlo (h _ _ _ _ _ _ _ _ _ _ _ _ _ _ hv)
  · cases hv
noncomputable def Z3 : Tab := (Z1).addLoop 105 7 l105_7
theorem nl105_3 (again : Ag) (sh ya ti : List Int) (out : List (List Int)) (a b y k : Int) (ty : TypeId) : lpStep Z3 105 3 0 (lpc Z3 105 3) again [vi y, ps 0, ps 1, osW 2 out.length, vi k] [some (rP a b sh 29), some (rZ ya ti 30), some (rowL out ty)] = (bif decide (k < (↑ti.length : Int)) then bif decide (0 ≤ k) then bif decide (k < (↑ti.length : Int)) then oM ti[k.toNat]? fun x => bif Lan.wayG a b sh [y] && decide (a * b - Lan.lastI [y] ≤ (↑16 : Int)) then bif Lan.waysG out && Lan.waysG (Lan.wR a b x sh [y]) && decide (out.length = out.length) && decide ((Lan.wR a b x sh [y]).length = (Lan.wR a b x sh [y]).length) && decide (out.length + (Lan.wR a b x sh [y]).length ≤ 300000) && decide (ty = Lane.tyL out) then again [vi y, .ps 0 0 0 0, .ps 1 0 0 0, osW 2 (out.length + (Lan.wR a b x sh [y]).length), vi (IntKind.i64.wrap (k + 1))] [some ⟨[vi a, vi b, .sl (.int .i64) sh false], true, 29, false, false, none⟩, some ⟨[.sl (.int .i64) ya false, .sl (.int .i64) ti false], true, 30, false, false, none⟩, some ⟨[.run (.ilist .i64) (List.foldl Lan.insW out (Lan.wR a b x sh [y]))], false, Lane.tyL (List.foldl Lan.insW out (Lan.wR a b x sh [y])), false, false, none⟩] else none else none else none else none else some (.ext 0, [vi y, .ps 0 0 0 0, .ps 1 0 0 0, osW 2 out.length, vi k], [some ⟨[vi a, vi b, .sl (.int .i64) sh false], true, 29, false, false, none⟩, some ⟨[.sl (.int .i64) ya false, .sl (.int .i64) ti false], true, 30, false, false, none⟩, some ⟨[.run (.ilist .i64) out], false, ty, false, false, none⟩])) := by kernel_rfl
def l105_3t (sh ya ti : List Int) (a b y : Int) : Tree (Out × List AV × Hp) := .br (Lan.side a b && sm sh && Lan.onP a b y && decide (ti.length ≤ 3)) (.leaf (.ext 0, [vi y, ps 0, ps 1, osW 2 (Lan.fY a b sh ti y).length, vi ti.length], [some (rP a b sh 29), some (rZ ya ti 30), some (rL (Lan.fY a b sh ti y))])) .fail
def l105_3 (base : Nat) (kv : List AV) (H : Hp) : Tree (Out × List AV × Hp) := match Nat.beq base 0, kv, H with
  | true, [(.sc (.int .i64 y)), (.ps 0 0 0 0), (.ps 1 0 0 0), (.os 2 0 0 0 true false true), (.sc (.int .i64 0))], [some ⟨[.sc (.int .i64 a), .sc (.int .i64 b), .sl (.int .i64) sh false], true, 29, false, false, none⟩, some ⟨[.sl (.int .i64) ya false, .sl (.int .i64) ti false], true, 30, false, false, none⟩, some ⟨[.run (.ilist .i64) []], false, 0, false, false, none⟩] => l105_3t sh ya ti a b y
  | _, _, _ => .fail
theorem l105_3_ok {T : Tab} (hT : TabOK T) (hlo : loopOf T.fn 105 3 = some (lpc T 105 3)) (h : ∀ (sh ya ti : List Int) (a b y : Int) (r : Out × List AV × Hp), (l105_3t sh ya ti a b y).val = some r → ∃ mm, lpRun T 105 3 0 (lpc T 105 3) mm [vi y, ps 0, ps 1, osW 2 0, vi 0] [some (rP a b sh 29), some (rZ ya ti 30), some (rowL [] 0)] = some r) : ∀ base kv H o kv' H', (l105_3 base kv H).val = some (o, kv', H') → LoopOK T 105 3 base kv H o kv' H' := by
  intro base kv H o kv' H' hv
  unfold l105_3 at hv
  split at hv
  · rename_i hb
    obtain rfl := Nat.eq_of_beq_eq_true hb
    exact loop_ok hT hlo (h _ _ _ _ _ _ _ hv)
  · cases hv
noncomputable def Z4 : Tab := (Z1).addLoop 105 3 l105_3
theorem nf105 (sh ya ti : List Int) (a b y : Int) : evBody Z4 105 [aP a b sh, aX ya ti, vi y] [] = (bif Lan.side a b && sm sh && Lan.onP a b y && decide (ti.length ≤ 3) then some (.os 0 0 0 (Lan.fY a b sh ti y).length true false true, [some ⟨[.run (.ilist .i64) (Lan.fY a b sh ti y)], false, Lane.tyL (Lan.fY a b sh ti y), false, false, none⟩]) else none) := by kernel_rfl
def c105t (sh ya ti : List Int) (a b y : Int) : Tree (AV × Hp) := .br (Lan.side a b && sm sh && Lan.onP a b y && decide (ti.length ≤ 3)) (.leaf (osW 0 (Lan.fY a b sh ti y).length, [some (rL (Lan.fY a b sh ti y))])) .fail
def c105 (args : List AV) (H : Hp) : Tree (AV × Hp) := match args, H with
  | [(.agg [.sc (.int .i64 a), .sc (.int .i64 b), .sl (.int .i64) sh false] false), (.agg [.sl (.int .i64) ya false, .sl (.int .i64) ti false] false), (.sc (.int .i64 y))], [] => c105t sh ya ti a b y
  | _, _ => .fail
theorem c105_ok {T : Tab} (hT : TabOK T) (h : ∀ (sh ya ti : List Int) (a b y : Int) (r : AV × Hp), (c105t sh ya ti a b y).val = some r → evBody T 105 [aP a b sh, aX ya ti, vi y] [] = some r) : ∀ args H v H', (c105 args H).val = some (v, H') → CallOK T 105 args H v H' := by
  intro args H v H' hv
  unfold c105 at hv
  split at hv
  · exact evBody_sound hT (h _ _ _ _ _ _ _ hv)
  · cases hv
noncomputable def Z5 : Tab := (Z1).addCall 105 c105
def _root_.Lan.barW (a b : Int) (sh ti l : List Int) (y : Int) : Bool := (Lan.fY a b sh ti y).all fun w => Lan.meetB w l
theorem nl93_8 (again : Ag) (sh ya ti l : List Int) (f : List (List Int)) (a b i k : Int) (ty : TypeId) (n : Nat) : lpStep Z5 93 8 0 (lpc Z5 93 8) again [lI l, ps 0, ps 1, vb false, vi i, osW 2 n, vi k] [some (rP a b sh 29), some (rZ ya ti 30), some (rowL f ty)] = (bif decide (k < (↑n : Int)) then bif decide (0 ≤ k) then bif decide (k < (↑n : Int)) then oM f[k.toNat]? fun x => bif sm x && sm l then bif !Lan.meetB x l then some (.ret, [.sl (.int .i64) l false, .ps 0 0 0 0, .ps 1 0 0 0, vb false, vi i, osW 2 n, vi k], [some ⟨[vi a, vi b, .sl (.int .i64) sh false], true, 29, false, false, none⟩, some ⟨[.sl (.int .i64) ya false, .sl (.int .i64) ti false], true, 30, false, false, none⟩, some ⟨[.run (.ilist .i64) f], false, ty, false, false, none⟩]) else again [.sl (.int .i64) l false, .ps 0 0 0 0, .ps 1 0 0 0, vb false, vi i, osW 2 n, vi (IntKind.i64.wrap (k + 1))] [some ⟨[vi a, vi b, .sl (.int .i64) sh false], true, 29, false, false, none⟩, some ⟨[.sl (.int .i64) ya false, .sl (.int .i64) ti false], true, 30, false, false, none⟩, some ⟨[.run (.ilist .i64) f], false, ty, false, false, none⟩] else none else none else none else some (.ext 2, [.sl (.int .i64) l false, .ps 0 0 0 0, .ps 1 0 0 0, vb false, vi i, osW 2 n, vi k], [some ⟨[vi a, vi b, .sl (.int .i64) sh false], true, 29, false, false, none⟩, some ⟨[.sl (.int .i64) ya false, .sl (.int .i64) ti false], true, 30, false, false, none⟩, some ⟨[.run (.ilist .i64) f], false, ty, false, false, none⟩])) := by kernel_rfl
def l93_8t (sh ya ti l : List Int) (f : List (List Int)) (a b i : Int) (ty : TypeId) (n : Nat) : Tree (Out × List AV × Hp) := .br (Lan.waysG f && sm l && decide (n = f.length)) (.br (f.all fun w => Lan.meetB w l) (.leaf (.ext 2, [lI l, ps 0, ps 1, vb false, vi i, osW 2 n, vi n], [some (rP a b sh 29), some (rZ ya ti 30), some (rowL f ty)])) (.leaf (.ret, [lI l, ps 0, ps 1, vb false, vi i, osW 2 n, vi (f.findIdx fun w => !Lan.meetB w l)], [some (rP a b sh 29), some (rZ ya ti 30), some (rowL f ty)]))) .fail
def l93_8 (base : Nat) (kv : List AV) (H : Hp) : Tree (Out × List AV × Hp) := match Nat.beq base 0, kv, H with
  | true, [(.sl (.int .i64) l false), (.ps 0 0 0 0), (.ps 1 0 0 0), (.sc (.bool false)), (.sc (.int .i64 i)), (.os 2 0 0 n true false true), (.sc (.int .i64 0))], [some ⟨[.sc (.int .i64 a), .sc (.int .i64 b), .sl (.int .i64) sh false], true, 29, false, false, none⟩, some ⟨[.sl (.int .i64) ya false, .sl (.int .i64) ti false], true, 30, false, false, none⟩, some ⟨[.run (.ilist .i64) f], false, ty, false, false, none⟩] => l93_8t sh ya ti l f a b i ty n
  | _, _, _ => .fail
theorem l93_8_ok {T : Tab} (hT : TabOK T) (hlo : loopOf T.fn 93 8 = some (lpc T 93 8)) (h : ∀ (sh ya ti l : List Int) (f : List (List Int)) (a b i : Int) (ty : TypeId) (n : Nat) (r : Out × List AV × Hp), (l93_8t sh ya ti l f a b i ty n).val = some r → ∃ mm, lpRun T 93 8 0 (lpc T 93 8) mm [lI l, ps 0, ps 1, vb false, vi i, osW 2 n, vi 0] [some (rP a b sh 29), some (rZ ya ti 30), some (rowL f ty)] = some r) : ∀ base kv H o kv' H', (l93_8 base kv H).val = some (o, kv', H') → LoopOK T 93 8 base kv H o kv' H' := by
  intro base kv H o kv' H' hv
  unfold l93_8 at hv
  split at hv
  · rename_i hb
    obtain rfl := Nat.eq_of_beq_eq_true hb
    exact loop_ok hT hlo (h _ _ _ _ _ _ _ _ _ _ _ hv)
  · cases hv
noncomputable def Z6 : Tab := (Z5).addLoop 93 8 l93_8
theorem nl93_4 (again : Ag) (sh ya ti l : List Int) (a b i : Int) : lpStep Z6 93 4 0 (lpc Z6 93 4) again [lI l, ps 0, ps 1, vb false, vi i] [some (rP a b sh 29), some (rZ ya ti 30)] = (bif decide (i < (↑ya.length : Int)) then bif decide (0 ≤ i) then bif decide (i < (↑ya.length : Int)) then oM ya[i.toNat]? fun x => bif Lan.side a b && sm sh && Lan.onP a b x && decide (ti.length ≤ 3) then bif Lan.waysG (Lan.fY a b sh ti x) && sm l && decide ((Lan.fY a b sh ti x).length = (Lan.fY a b sh ti x).length) then bif (Lan.fY a b sh ti x).all fun w => Lan.meetB w l then again [.sl (.int .i64) l false, .ps 0 0 0 0, .ps 1 0 0 0, vb false, vi (IntKind.i64.wrap (i + 1))] [some ⟨[vi a, vi b, .sl (.int .i64) sh false], true, 29, false, false, none⟩, some ⟨[.sl (.int .i64) ya false, .sl (.int .i64) ti false], true, 30, false, false, none⟩] else some (.ret, [.sl (.int .i64) l false, .ps 0 0 0 0, .ps 1 0 0 0, vb false, vi i], [some ⟨[vi a, vi b, .sl (.int .i64) sh false], true, 29, false, false, none⟩, some ⟨[.sl (.int .i64) ya false, .sl (.int .i64) ti false], true, 30, false, false, none⟩]) else none else none else none else none else some (.ext 0, [.sl (.int .i64) l false, .ps 0 0 0 0, .ps 1 0 0 0, vb false, vi i], [some ⟨[vi a, vi b, .sl (.int .i64) sh false], true, 29, false, false, none⟩, some ⟨[.sl (.int .i64) ya false, .sl (.int .i64) ti false], true, 30, false, false, none⟩])) := by kernel_rfl
def _root_.Lan.barG (a b : Int) (sh ya ti : List Int) : Bool := Lan.side a b && sm sh && decide (ti.length ≤ 3) && decide (ya.length ≤ 3) && ya.all fun y => Lan.onP a b y
def l93_4t (sh ya ti l : List Int) (a b : Int) : Tree (Out × List AV × Hp) := .br (Lan.barG a b sh ya ti && sm l) (.br (ya.all fun y => Lan.barW a b sh ti l y) (.leaf (.ext 0, [lI l, ps 0, ps 1, vb false, vi ya.length], [some (rP a b sh 29), some (rZ ya ti 30)])) (.leaf (.ret, [lI l, ps 0, ps 1, vb false, vi (ya.findIdx fun y => !Lan.barW a b sh ti l y)], [some (rP a b sh 29), some (rZ ya ti 30)]))) .fail
def l93_4 (base : Nat) (kv : List AV) (H : Hp) : Tree (Out × List AV × Hp) := match Nat.beq base 0, kv, H with
  | true, [(.sl (.int .i64) l false), (.ps 0 0 0 0), (.ps 1 0 0 0), (.sc (.bool false)), (.sc (.int .i64 0))], [some ⟨[.sc (.int .i64 a), .sc (.int .i64 b), .sl (.int .i64) sh false], true, 29, false, false, none⟩, some ⟨[.sl (.int .i64) ya false, .sl (.int .i64) ti false], true, 30, false, false, none⟩] => l93_4t sh ya ti l a b
  | _, _, _ => .fail
theorem l93_4_ok {T : Tab} (hT : TabOK T) (hlo : loopOf T.fn 93 4 = some (lpc T 93 4)) (h : ∀ (sh ya ti l : List Int) (a b : Int) (r : Out × List AV × Hp), (l93_4t sh ya ti l a b).val = some r → ∃ mm, lpRun T 93 4 0 (lpc T 93 4) mm [lI l, ps 0, ps 1, vb false, vi 0] [some (rP a b sh 29), some (rZ ya ti 30)] = some r) : ∀ base kv H o kv' H', (l93_4 base kv H).val = some (o, kv', H') → LoopOK T 93 4 base kv H o kv' H' := by
  intro base kv H o kv' H' hv
  unfold l93_4 at hv
  split at hv
  · rename_i hb
    obtain rfl := Nat.eq_of_beq_eq_true hb
    exact loop_ok hT hlo (h _ _ _ _ _ _ _ hv)
  · cases hv
noncomputable def Z7 : Tab := (Z5).addLoop 93 4 l93_4
theorem nf93 (sh ya ti l : List Int) (a b : Int) : evBody Z7 93 [aP a b sh, aX ya ti, lI l] [] = (bif decide ((↑l.length : Int) ≥ (↑ya.length : Int)) then some (vb false, []) else bif Lan.barG a b sh ya ti && sm l then bif ya.all fun y => Lan.barW a b sh ti l y then some (vb true, []) else some (vb false, []) else none) := by kernel_rfl
def _root_.Lan.barB (a b : Int) (sh ya ti l : List Int) : Bool := decide (l.length < ya.length) && ya.all fun y => Lan.barW a b sh ti l y
def c93t (sh ya ti l : List Int) (a b : Int) : Tree (AV × Hp) := .br (Lan.barG a b sh ya ti && sm l) (.leaf (vb (Lan.barB a b sh ya ti l), [])) .fail
def c93 (args : List AV) (H : Hp) : Tree (AV × Hp) := match args, H with
  | [(.agg [.sc (.int .i64 a), .sc (.int .i64 b), .sl (.int .i64) sh false] false), (.agg [.sl (.int .i64) ya false, .sl (.int .i64) ti false] false), (.sl (.int .i64) l false)], [] => c93t sh ya ti l a b
  | _, _ => .fail
theorem c93_ok {T : Tab} (hT : TabOK T) (h : ∀ (sh ya ti l : List Int) (a b : Int) (r : AV × Hp), (c93t sh ya ti l a b).val = some r → evBody T 93 [aP a b sh, aX ya ti, lI l] [] = some r) : ∀ args H v H', (c93 args H).val = some (v, H') → CallOK T 93 args H v H' := by
  intro args H v H' hv
  unfold c93 at hv
  split at hv
  · exact evBody_sound hT (h _ _ _ _ _ _ _ hv)
  · cases hv
noncomputable def Z8 : Tab := (Z5).addCall 93 c93
theorem nf92a (sh ya ti l : List Int) (a b many : Int) : evBody Z8 92 [aP a b sh, aX ya ti, lI l, vi many] [] = (bif (↑l.length : Int) == many then bif Lan.barG a b sh ya ti && sm l then some (.tuple [.sl (.int .i64) l false, vb (Lan.barB a b sh ya ti l)], []) else none else bif decide ((↑l.length : Int) > 0) then bif decide (0 ≤ IntKind.i64.wrap ((↑l.length : Int) - 1)) then bif decide (IntKind.i64.wrap ((↑l.length : Int) - 1) < (↑l.length : Int)) then oM l[(IntKind.i64.wrap ((↑l.length : Int) - 1)).toNat]? fun x => none else none else none else none) := by kernel_rfl
end Go.Ev.Lane
namespace Lan
theorem fdiff_le : ∀ l m : List Int, fdiff l m ≤ l.length ∧ fdiff l m ≤ m.length
  | [], _ => by simp [fdiff]
  | _ :: _, [] => by simp [fdiff]
  | x :: l, y :: m => by
    unfold fdiff
    have := fdiff_le l m
    cases x == y with
    | true => simp only [cond_true, List.length_cons]; omega
    | false => simp
theorem fdiff_same : ∀ (l m : List Int) (i : Nat), i < fdiff l m → l.getD i 0 = m.getD i 0
  | [], _, i, h => by simp [fdiff] at h
  | _ :: _, [], i, h => by simp [fdiff] at h
  | x :: l, y :: m, i, h => by
    unfold fdiff at h
    cases e : x == y with
    | false => rw [e] at h; cases h
    | true =>
      rw [e, cond_true] at h
      cases i with
      | zero => simpa using beq_iff_eq.1 e
      | succ i => simpa using fdiff_same l m i (by omega)
theorem fdiff_diff : ∀ (l m : List Int), fdiff l m < l.length → fdiff l m < m.length → l.getD (fdiff l m) 0 ≠ m.getD (fdiff l m) 0 ∧ lessB l m = decide (l.getD (fdiff l m) 0 < m.getD (fdiff l m) 0)
  | [], _, h, _ => by simp at h
  | _ :: _, [], _, h => by simp at h
  | x :: l, y :: m, h1, h2 => by
    unfold fdiff at h1 h2 ⊢
    unfold lessB
    cases e : x == y with
    | false =>
      simp only [cond_false]
      exact ⟨by simpa using beq_eq_false_iff_ne.1 e, by simp⟩
    | true =>
      rw [e] at h1 h2
      simp only [cond_true, List.length_cons] at h1 h2 ⊢
      have := fdiff_diff l m (by omega) (by omega)
      simpa using this
theorem fdiff_end : ∀ (l m : List Int), ¬ (fdiff l m < l.length ∧ fdiff l m < m.length) → lessB l m = decide (l.length < m.length)
  | [], [], _ => rfl
  | [], _ :: _, _ => by simp [lessB]
  | _ :: _, [], _ => by simp [lessB]
  | x :: l, y :: m, h => by
    unfold fdiff at h
    unfold lessB
    cases e : x == y with
    | false => rw [e] at h; simp at h
    | true =>
      rw [e] at h
      simp only [cond_true, List.length_cons] at h ⊢
      rw [fdiff_end l m (by omega)]
      simp
end Lan
namespace Go.Ev.Lane
open Go Go.Ev
set_option maxRecDepth 1000000
set_option linter.unusedVariables false
set_option linter.unusedSimpArgs false
theorem l82_2_run : ∀ base kv H o kv' H', (l82_2 base kv H).val = some (o, kv', H') → LoopOK Y6 82 2 base kv H o kv' H' := l82_2_ok Y6_ok (by kernel_rfl) (by
  intro l m r hv
  obtain ⟨hl, hv2⟩ := guard_val hv
  rw [Bool.and_eq_true] at hl
  have h1 := sm_le hl.1
  have h2 := sm_le hl.2
  obtain ⟨z1, z2⟩ := Lan.fdiff_le l m
  obtain ⟨mm, hm⟩ := steps_of (T := Y6) (fid := 82) (lid := 2) (base := 0) (c := lpc Y6 82 2) (Lan.fdiff l m) (fun i => [lI l, lI m, vb false, vi (i : Nat)]) (fun _ => []) r
    (fun i hi again => by
      have g1 := getD_ln (0 : Int) (show i < l.length by omega)
      have g2 := getD_ln (0 : Int) (show i < m.length by omega)
      refine (nl82 ..).trans ?_
      simp only [dec_lt (show i < l.length by omega), dec_lt (show i < m.length by omega), dec_ge, cond_true, toNat_cast, g1, g2, oM, Lan.fdiff_same l m i hi, bne_self_eq_false, cond_false]
      rw [wrap_succ (by omega)])
    (fun again => by
      refine (nl82 ..).trans ?_
      rcases br_val hv2 with ⟨h, hv3⟩ | ⟨h, hv3⟩
      · simp only [Bool.and_eq_true, decide_eq_true_eq] at h
        obtain ⟨d1, d2⟩ := Lan.fdiff_diff l m h.1 h.2
        have g1 := getD_ln (0 : Int) h.1
        have g2 := getD_ln (0 : Int) h.2
        rw [leaf_val hv3, d2]
        simp only [dec_lt h.1, dec_lt h.2, dec_ge, cond_true, toNat_cast, g1, g2, oM, bne_iff_ne.2 d1]
      · rw [leaf_val hv3]
        rw [Bool.and_eq_false_iff, decide_eq_false_iff_not, decide_eq_false_iff_not] at h
        rcases h with h | h
        · rw [decide_eq_false (show ¬ ((Lan.fdiff l m : Int) < (l.length : Int)) by omega)]
          rfl
        · rw [decide_eq_false (show ¬ ((Lan.fdiff l m : Int) < (m.length : Int)) by omega)]
          cases decide ((Lan.fdiff l m : Int) < (l.length : Int)) <;> rfl)
  exact ⟨mm, hm⟩)
theorem Z0_ok : TabOK Z0 := by
  have h := Y6_ok
  have h := h.addLoop (g := 82) (lid := 2) (r := l82_2) fun b k H o k' H' hv => by refine LoopOK.tab ?_ ?_ ?_ ?_ (l82_2_run b k H o k' H' hv) <;> rfl
  exact h
theorem c82_run : ∀ args H v H', (c82 args H).val = some (v, H') → CallOK Y6 82 args H v H' := fun a H v H' hv => by
  refine CallOK.tab ?_ ?_ (c82_ok Z0_ok (by
    intro l m r hv
    obtain ⟨hl, hv2⟩ := guard_val hv
    rw [nf82, leaf_val hv2, hl]
    cases h : (decide (Lan.fdiff l m < l.length) && decide (Lan.fdiff l m < m.length)) with
    | true => rfl
    | false =>
      rw [Lan.fdiff_end l m (by intro hh; rw [decide_eq_true hh.1, decide_eq_true hh.2] at h; cases h), show decide ((l.length : Int) < (m.length : Int)) = decide (l.length < m.length) by rw [decide_eq_decide]; omega]
      rfl) a H v H' hv) <;> rfl
theorem Z1_ok : TabOK Z1 := by
  have h := Y6_ok
  have h := h.addCall (g := 82) (r := c82) fun a H v H' hv => by refine CallOK.tab ?_ ?_ (c82_run a H v H' hv) <;> rfl
  exact h
theorem gd_of {α : Type} {l : List α} {i : Nat} {x : α} (d : α) (h : l[i]? = some x) : l.getD i d = x := by
  rw [List.getD_eq_getElem?_getD, h]; rfl
theorem waysG_le {l : List (List Int)} (h : Lan.waysG l = true) : l.length ≤ 300000 ∧ ∀ w ∈ l, sm w = true := by
  unfold Lan.waysG at h
  rw [Bool.and_eq_true, decide_eq_true_eq, List.all_eq_true] at h
  exact h
theorem l105_10_run : ∀ base kv H o kv' H', (l105_10 base kv H).val = some (o, kv', H') → LoopOK Z1 105 10 base kv H o kv' H' := l105_10_ok Z1_ok (by kernel_rfl) (by
  intro sh ya ti out l a b y k i ty tl n m r hv
  obtain ⟨hl, hv2⟩ := guard_val hv
  simp only [Bool.and_eq_true, decide_eq_true_eq] at hl
  obtain ⟨⟨⟨⟨⟨ho, hw⟩, rfl⟩, rfl⟩, i0⟩, i1⟩ := hl
  obtain ⟨z1, z2⟩ := waysG_le ho
  obtain ⟨w1, w2⟩ := waysG_le hw
  obtain ⟨i, rfl⟩ := Int.eq_ofNat_of_zero_le i0
  rw [toNat_cast] at hv2
  have hi : i < l.length := by omega
  have g1 := getD_ln ([] : List Int) hi
  have g2 := w2 _ (List.mem_of_getElem? g1)
  obtain ⟨mm, hm⟩ := scan_of (T := Z1) (fid := 105) (lid := 10) (base := 0) (c := lpc Z1 105 10) out (fun o => !Lan.lessB o (l.getD i []))
    (fun j => [vi y, ps 0, ps 1, osW 2 out.length, vi k, osW 3 l.length, vi i, vi j]) [some (rP a b sh 29), some (rZ ya ti 30), some (rowL out ty), some (rowL l tl)]
    (fun j => (.ext 4, [vi y, ps 0, ps 1, osW 2 out.length, vi k, osW 3 l.length, vi i, vi j], [some (rP a b sh 29), some (rZ ya ti 30), some (rowL out ty), some (rowL l tl)]))
    (.ext 4, [vi y, ps 0, ps 1, osW 2 out.length, vi k, osW 3 l.length, vi i, vi out.length], [some (rP a b sh 29), some (rZ ya ti 30), some (rowL out ty), some (rowL l tl)])
    (fun j x hx hlt again => by
      refine (nl105_10 ..).trans ?_
      simp only [dec_lt hlt, dec_lt hi, dec_ge, cond_true, toNat_cast, hx, g1, oM, z2 x (List.mem_of_getElem? hx), g2, Bool.and_self]
      rw [wrap_succ (by omega)]
      cases Lan.lessB x (l.getD i []) <;> rfl)
    (fun again => by
      refine (nl105_10 ..).trans ?_
      simp only [dec_ll, cond_false])
  refine ⟨mm, hm.trans ?_⟩
  rw [leaf_val hv2]
  unfold Lan.insAt
  cases h : out.any fun o => !Lan.lessB o (l.getD i []) with
  | true => rfl
  | false =>
    have : (out.findIdx fun o => !Lan.lessB o (l.getD i [])) = out.length := by
      rw [List.findIdx_eq_length]
      exact fun x hx => by have := List.any_eq_false.1 h x hx; simpa using this
    rw [this]; rfl)
theorem Z2_ok : TabOK Z2 := by
  have h := Z1_ok
  have h := h.addLoop (g := 105) (lid := 10) (r := l105_10) fun b k H o k' H' hv => by refine LoopOK.tab ?_ ?_ ?_ ?_ (l105_10_run b k H o k' H' hv) <;> rfl
  exact h
theorem insAt_le (out : List (List Int)) (w : List Int) : Lan.insAt out w ≤ out.length := List.findIdx_le_length
theorem insW_len (out : List (List Int)) (w : List Int) : (Lan.insW out w).length = out.length + 1 := by
  have := insAt_le out w
  unfold Lan.insW
  simp only [List.length_append, List.length_take, List.length_drop, List.length_singleton]
  omega
theorem insW_ty (out : List (List Int)) (w : List Int) : tyL (Lan.insW out w) = 22 := by
  have := insW_len out w
  match h : Lan.insW out w with
  | [] => rw [h] at this; simp at this
  | _ :: _ => rfl
theorem foldI_len : ∀ (l out : List (List Int)), (l.foldl Lan.insW out).length = out.length + l.length
  | [], out => rfl
  | w :: l, out => by rw [List.foldl_cons, foldI_len l, insW_len, List.length_cons]; omega
theorem insW_sm {out : List (List Int)} {w : List Int} (h : ∀ x ∈ out, sm x = true) (hw : sm w = true) : ∀ x ∈ Lan.insW out w, sm x = true := by
  intro x hx
  unfold Lan.insW at hx
  rcases List.mem_append.1 hx with hx | hx
  · rcases List.mem_append.1 hx with hx | hx
    · exact h x (List.mem_of_mem_take hx)
    · rw [List.mem_singleton.1 hx]; exact hw
  · exact h x (List.mem_of_mem_drop hx)
theorem dt_take {α : Type} (l : List α) (n : Nat) : dropTake l 0 n = l.take n := rfl
theorem dt_drop {α : Type} (l : List α) (n : Nat) : dropTake l n (l.length - n) = l.drop n := by
  cases n with
  | zero => simp [dropTake]
  | succ n =>
    show (l.drop (n + 1)).take _ = _
    rw [List.take_of_length_le]
    rw [List.length_drop]
    exact Nat.le_refl _
theorem l105_7_run : ∀ base kv H o kv' H', (l105_7 base kv H).val = some (o, kv', H') → LoopOK Z2 105 7 base kv H o kv' H' := l105_7_ok Z2_ok (by kernel_rfl) (by
  intro sh ya ti out l a b y k ty tl n m r hv
  obtain ⟨hl, hv2⟩ := guard_val hv
  simp only [Bool.and_eq_true, decide_eq_true_eq] at hl
  obtain ⟨⟨⟨⟨⟨ho, hw⟩, rfl⟩, rfl⟩, hlen⟩, rfl⟩ := hl
  obtain ⟨z1, z2⟩ := waysG_le ho
  obtain ⟨w1, w2⟩ := waysG_le hw
  obtain ⟨mm, hm⟩ := fold_of (T := Z2) (fid := 105) (lid := 7) (base := 0) (c := lpc Z2 105 7) l (fun i s => s.length = out.length + i ∧ ∀ x ∈ s, sm x = true) Lan.insW
    (fun i s => [vi y, ps 0, ps 1, osW 2 s.length, vi k, osW 3 l.length, vi i]) (fun s => [some (rP a b sh 29), some (rZ ya ti 30), some (rL s), some (rowL l tl)])
    (fun s => (.ext 2, [vi y, ps 0, ps 1, osW 2 s.length, vi k, osW 3 l.length, vi l.length], [some (rP a b sh 29), some (rZ ya ti 30), some (rL s), some (rowL l tl)]))
    (fun i x s hx hlt hI again => by
      obtain ⟨s1, s2⟩ := hI
      have hG : Lan.waysG s = true := by
        unfold Lan.waysG
        rw [Bool.and_eq_true, decide_eq_true_eq, List.all_eq_true]
        exact ⟨by omega, s2⟩
      have hat := insAt_le s x
      have c1 : (bif decide (0 < (List.take (Lan.insAt s x) s).length) then true else ([] : List Int).isEmpty) = true := by cases decide (0 < (List.take (Lan.insAt s x) s).length) <;> rfl
      refine (nl105_7 ..).trans ?_
      rw [insW_len, show tyL s = tyL s from rfl]
      simp only [dec_lt hlt, dec_ge, cond_true, toNat_cast, hx, gd_of [] hx, oM, hG, hw, decide_true, Bool.and_self, dt_take, dt_drop, c1, decide_eq_true (show ((Lan.insAt s x : Nat) : Int) ≤ (s.length : Int) by omega), decide_eq_true (show 0 + Lan.insAt s x ≤ s.length by omega), decide_eq_true (show Lan.insAt s x + (s.length - Lan.insAt s x) ≤ s.length by omega)]
      rw [room_ok (by simp only [List.length_take]; omega) (by omega), room_ok (by simp only [List.length_take]; omega) (by omega), room_ok (by simp only [List.length_take, List.length_drop]; omega) (by omega), wrap_succ (by omega)]
      simp only [cond_true, List.nil_append, List.length_take, List.length_drop]
      rw [show 0 + min (Lan.insAt s x) s.length + 1 + (s.length - Lan.insAt s x) = s.length + 1 by omega]
      show _ = again _ [_, _, some (rowL _ (tyL _)), _]
      rw [insW_ty]
      rfl)
    (fun i x s hx hlt hI => ⟨by rw [insW_len, hI.1]; omega, insW_sm hI.2 (w2 x (List.mem_of_getElem? hx))⟩)
    (fun s hI again => by
      refine (nl105_7 ..).trans ?_
      simp only [dec_ll, cond_false]) out ⟨by omega, z2⟩
  refine ⟨mm, hm.trans ?_⟩
  rw [leaf_val hv2, foldI_len])
theorem Z3_ok : TabOK Z3 := by
  have h := Z1_ok
  have h := h.addLoop (g := 105) (lid := 7) (r := l105_7) fun b k H o k' H' hv => by refine LoopOK.tab ?_ ?_ ?_ ?_ (l105_7_run b k H o k' H' hv) <;> rfl
  exact h
theorem wF_sm (b to : Int) (sh : List Int) : ∀ (n f : Nat), f ≤ n → ∀ w v, v ∈ Lan.wF b to sh f w → v.length ≤ w.length + f
  | _, 0, _, w, v, h => by rw [Lan.wF] at h; cases h
  | 0, f + 1, hf, _, _, _ => by omega
  | n + 1, f + 1, hf, w, v, h => by
    rw [Lan.wF_succ] at h
    cases hs : Lan.has sh (Lan.lastI w) with
    | true => rw [hs] at h; cases h
    | false =>
      rw [hs, cond_false] at h
      unfold Lan.wN Lan.wB at h
      rcases List.mem_append.1 h with h | h
      · cases ht : Lan.lastI w == to with
        | false => rw [ht] at h; cases h
        | true =>
          rw [ht, cond_true, List.mem_singleton] at h
          rw [h]; omega
      · obtain ⟨k, hk, h⟩ := List.mem_flatMap.1 h
        have hk := List.mem_range.1 hk
        cases hst : Lan.stepR b (Lan.lastI w) (Lan.lastI w + 1 + k) with
        | false => rw [hst] at h; cases h
        | true =>
          rw [hst, cond_true] at h
          have := wF_sm b to sh n (f - k) (by omega) _ v h
          rw [List.length_append, List.length_singleton] at this
          omega
theorem wR_G {a b t y : Int} {sh : List Int} (hs : Lan.side a b = true) (hy : Lan.onP a b y = true) : Lan.waysG (Lan.wR a b t sh [y]) = true ∧ (Lan.wR a b t sh [y]).length ≤ 65536 := by
  have hab := (Lan.wrong_wrap hs).2.2
  unfold Lan.onP at hy
  simp only [Bool.and_eq_true, decide_eq_true_eq] at hy
  have h1 : (Lan.wR a b t sh [y]).length ≤ 2 ^ 16 := by
    unfold Lan.wR
    refine Nat.le_trans (Lan.wF_len b t sh _ _ (Nat.le_refl _) [y]) (Nat.pow_le_pow_right (by decide) ?_)
    rw [show Lan.lastI [y] = y from rfl]; omega
  rw [show (2 : Nat) ^ 16 = 65536 from rfl] at h1
  refine ⟨?_, h1⟩
  unfold Lan.waysG
  rw [Bool.and_eq_true, decide_eq_true_eq, List.all_eq_true]
  refine ⟨by omega, fun v hv => decide_eq_true ?_⟩
  unfold Lan.wR at hv
  have := wF_sm b t sh _ _ (Nat.le_refl _) [y] v hv
  rw [show Lan.lastI [y] = y from rfl, List.length_singleton] at this
  omega
theorem foldI_sm : ∀ (l out : List (List Int)), (∀ x ∈ out, sm x = true) → (∀ x ∈ l, sm x = true) → ∀ x ∈ l.foldl Lan.insW out, sm x = true
  | [], out, h, _ => h
  | w :: l, out, h, hl => foldI_sm l (Lan.insW out w) (insW_sm h (hl w (by simp))) fun x hx => hl x (by simp [hx])
def fYi (a b : Int) (sh ti : List Int) (y : Int) (i : Nat) : List (List Int) := Lan.fY a b sh (ti.take i) y
theorem fYi_succ {a b : Int} {sh ti : List Int} {y t : Int} {i : Nat} (h : ti[i]? = some t) : fYi a b sh ti y (i + 1) = (Lan.wR a b t sh [y]).foldl Lan.insW (fYi a b sh ti y i) := by
  unfold fYi Lan.fY
  rw [List.take_add_one, h, List.foldl_append]
  rfl
theorem fYi_G {a b : Int} {sh ti : List Int} {y : Int} (hs : Lan.side a b = true) (hy : Lan.onP a b y = true) (ht : ti.length ≤ 3) : ∀ i, i ≤ ti.length → (fYi a b sh ti y i).length ≤ 65536 * i ∧ ∀ x ∈ fYi a b sh ti y i, sm x = true
  | 0, _ => ⟨Nat.zero_le _, fun x hx => by cases hx⟩
  | i + 1, hi => by
    have hg := getD_ln (0 : Int) (show i < ti.length by omega)
    obtain ⟨h1, h2⟩ := fYi_G hs hy ht i (by omega)
    obtain ⟨w1, w2⟩ := wR_G (t := ti.getD i 0) (sh := sh) hs hy
    rw [fYi_succ hg, foldI_len]
    exact ⟨by omega, foldI_sm _ _ h2 (waysG_le w1).2⟩
theorem l105_3_run : ∀ base kv H o kv' H', (l105_3 base kv H).val = some (o, kv', H') → LoopOK Z3 105 3 base kv H o kv' H' := l105_3_ok Z3_ok (by kernel_rfl) (by
  intro sh ya ti a b y r hv
  obtain ⟨hl, hv2⟩ := guard_val hv
  simp only [Bool.and_eq_true, decide_eq_true_eq] at hl
  obtain ⟨⟨⟨hs, hsm⟩, hy⟩, ht⟩ := hl
  obtain ⟨mm, hm⟩ := steps_of (T := Z3) (fid := 105) (lid := 3) (base := 0) (c := lpc Z3 105 3) ti.length (fun i => [vi y, ps 0, ps 1, osW 2 (fYi a b sh ti y i).length, vi (i : Nat)]) (fun i => [some (rP a b sh 29), some (rZ ya ti 30), some (rL (fYi a b sh ti y i))])
    (.ext 0, [vi y, ps 0, ps 1, osW 2 (fYi a b sh ti y ti.length).length, vi ti.length], [some (rP a b sh 29), some (rZ ya ti 30), some (rL (fYi a b sh ti y ti.length))])
    (fun i hi again => by
      have hg := getD_ln (0 : Int) hi
      obtain ⟨h1, h2⟩ := fYi_G (sh := sh) hs hy ht i (by omega)
      obtain ⟨w1, w2⟩ := wR_G (t := ti.getD i 0) (sh := sh) hs hy
      obtain ⟨p1, p2⟩ := Lan.way_one hs hsm hy
      have hG : Lan.waysG (fYi a b sh ti y i) = true := by
        unfold Lan.waysG
        rw [Bool.and_eq_true, decide_eq_true_eq, List.all_eq_true]
        exact ⟨by omega, h2⟩
      refine (nl105_3 ..).trans ?_
      rw [fYi_succ hg, foldI_len]
      simp only [dec_lt hi, dec_ge, cond_true, toNat_cast, hg, oM, hG, w1, p1, decide_true, Bool.and_self, Bool.true_and, decide_eq_true (show (fYi a b sh ti y i).length + (Lan.wR a b (ti.getD i 0) sh [y]).length ≤ 300000 by omega)]
      rw [show decide (a * b - Lan.lastI [y] ≤ 16) = true from decide_eq_true p2, wrap_succ (by omega)]
      rfl)
    (fun again => by
      refine (nl105_3 ..).trans ?_
      simp only [dec_ll, cond_false])
  refine ⟨mm, hm.trans ?_⟩
  have e : fYi a b sh ti y ti.length = Lan.fY a b sh ti y := by unfold fYi; rw [List.take_length]
  rw [leaf_val hv2, e])
theorem Z4_ok : TabOK Z4 := by
  have h := Z1_ok
  have h := h.addLoop (g := 105) (lid := 3) (r := l105_3) fun b k H o k' H' hv => by refine LoopOK.tab ?_ ?_ ?_ ?_ (l105_3_run b k H o k' H' hv) <;> rfl
  exact h
theorem c105_run : ∀ args H v H', (c105 args H).val = some (v, H') → CallOK Z1 105 args H v H' := fun a H v H' hv => by
  refine CallOK.tab ?_ ?_ (c105_ok Z4_ok (by
    intro sh ya ti a b y r hv
    obtain ⟨hl, hv2⟩ := guard_val hv
    rw [nf105, leaf_val hv2, hl]; rfl) a H v H' hv) <;> rfl
theorem Z5_ok : TabOK Z5 := by
  have h := Z1_ok
  have h := h.addCall (g := 105) (r := c105) fun a H v H' hv => by refine CallOK.tab ?_ ?_ (c105_run a H v H' hv) <;> rfl
  exact h
theorem fY_G {a b : Int} {sh ti : List Int} {y : Int} (hs : Lan.side a b = true) (hy : Lan.onP a b y = true) (ht : ti.length ≤ 3) : Lan.waysG (Lan.fY a b sh ti y) = true := by
  have e : fYi a b sh ti y ti.length = Lan.fY a b sh ti y := by unfold fYi; rw [List.take_length]
  obtain ⟨h1, h2⟩ := fYi_G (sh := sh) hs hy ht ti.length (Nat.le_refl _)
  rw [e] at h1 h2
  unfold Lan.waysG
  rw [Bool.and_eq_true, decide_eq_true_eq, List.all_eq_true]
  exact ⟨by omega, h2⟩
theorem l93_8_run : ∀ base kv H o kv' H', (l93_8 base kv H).val = some (o, kv', H') → LoopOK Z5 93 8 base kv H o kv' H' := l93_8_ok Z5_ok (by kernel_rfl) (by
  intro sh ya ti l f a b i ty n r hv
  obtain ⟨hl, hv2⟩ := guard_val hv
  simp only [Bool.and_eq_true, decide_eq_true_eq] at hl
  obtain ⟨⟨hf, hsm⟩, rfl⟩ := hl
  obtain ⟨z1, z2⟩ := waysG_le hf
  obtain ⟨mm, hm⟩ := scan_of (T := Z5) (fid := 93) (lid := 8) (base := 0) (c := lpc Z5 93 8) f (fun w => !Lan.meetB w l)
    (fun k => [lI l, ps 0, ps 1, vb false, vi i, osW 2 f.length, vi k]) [some (rP a b sh 29), some (rZ ya ti 30), some (rowL f ty)]
    (fun k => (.ret, [lI l, ps 0, ps 1, vb false, vi i, osW 2 f.length, vi k], [some (rP a b sh 29), some (rZ ya ti 30), some (rowL f ty)]))
    (.ext 2, [lI l, ps 0, ps 1, vb false, vi i, osW 2 f.length, vi f.length], [some (rP a b sh 29), some (rZ ya ti 30), some (rowL f ty)])
    (fun k x hx hlt again => by
      refine (nl93_8 ..).trans ?_
      simp only [dec_lt hlt, dec_ge, cond_true, toNat_cast, hx, oM, z2 x (List.mem_of_getElem? hx), hsm, Bool.and_self]
      rw [wrap_succ (by omega)])
    (fun again => by
      refine (nl93_8 ..).trans ?_
      simp only [dec_ll, cond_false])
  refine ⟨mm, hm.trans ?_⟩
  have e : (f.any fun w => !Lan.meetB w l) = !(f.all fun w => Lan.meetB w l) := by
    rw [List.not_all_eq_any_not]
  rw [e]
  rcases br_val hv2 with ⟨h, hv3⟩ | ⟨h, hv3⟩ <;> (rw [h, leaf_val hv3]; rfl))
theorem Z6_ok : TabOK Z6 := by
  have h := Z5_ok
  have h := h.addLoop (g := 93) (lid := 8) (r := l93_8) fun b k H o k' H' hv => by refine LoopOK.tab ?_ ?_ ?_ ?_ (l93_8_run b k H o k' H' hv) <;> rfl
  exact h
theorem barG_ok {a b : Int} {sh ya ti : List Int} (h : Lan.barG a b sh ya ti = true) : Lan.side a b = true ∧ sm sh = true ∧ ti.length ≤ 3 ∧ ya.length ≤ 3 ∧ ∀ y ∈ ya, Lan.onP a b y = true := by
  unfold Lan.barG at h
  simp only [Bool.and_eq_true, decide_eq_true_eq, List.all_eq_true] at h
  exact ⟨h.1.1.1.1, h.1.1.1.2, h.1.1.2, h.1.2, h.2⟩
theorem l93_4_run : ∀ base kv H o kv' H', (l93_4 base kv H).val = some (o, kv', H') → LoopOK Z6 93 4 base kv H o kv' H' := l93_4_ok Z6_ok (by kernel_rfl) (by
  intro sh ya ti l a b r hv
  obtain ⟨hl, hv2⟩ := guard_val hv
  rw [Bool.and_eq_true] at hl
  obtain ⟨hG, hsm⟩ := hl
  obtain ⟨hs, hsh, ht, hya, hy⟩ := barG_ok hG
  obtain ⟨mm, hm⟩ := scan_of (T := Z6) (fid := 93) (lid := 4) (base := 0) (c := lpc Z6 93 4) ya (fun y => !Lan.barW a b sh ti l y)
    (fun i => [lI l, ps 0, ps 1, vb false, vi i]) [some (rP a b sh 29), some (rZ ya ti 30)]
    (fun i => (.ret, [lI l, ps 0, ps 1, vb false, vi i], [some (rP a b sh 29), some (rZ ya ti 30)]))
    (.ext 0, [lI l, ps 0, ps 1, vb false, vi ya.length], [some (rP a b sh 29), some (rZ ya ti 30)])
    (fun i x hx hlt again => by
      have hxy := hy x (List.mem_of_getElem? hx)
      have hf := fY_G (sh := sh) hs hxy ht
      refine (nl93_4 ..).trans ?_
      simp only [dec_lt hlt, dec_ge, cond_true, toNat_cast, hx, oM, hs, hsh, hxy, hsm, hf, decide_true, decide_eq_true ht, Bool.and_self]
      rw [wrap_succ (by omega)]
      unfold Lan.barW
      cases (Lan.fY a b sh ti x).all fun w => Lan.meetB w l <;> rfl)
    (fun again => by
      refine (nl93_4 ..).trans ?_
      simp only [dec_ll, cond_false])
  refine ⟨mm, hm.trans ?_⟩
  have e : (ya.any fun y => !Lan.barW a b sh ti l y) = !(ya.all fun y => Lan.barW a b sh ti l y) := by
    rw [List.not_all_eq_any_not]
  rw [e]
  rcases br_val hv2 with ⟨h, hv3⟩ | ⟨h, hv3⟩ <;> (rw [h, leaf_val hv3]; rfl))
theorem Z7_ok : TabOK Z7 := by
  have h := Z5_ok
  have h := h.addLoop (g := 93) (lid := 4) (r := l93_4) fun b k H o k' H' hv => by refine LoopOK.tab ?_ ?_ ?_ ?_ (l93_4_run b k H o k' H' hv) <;> rfl
  exact h
theorem c93_run : ∀ args H v H', (c93 args H).val = some (v, H') → CallOK Z5 93 args H v H' := fun a H v H' hv => by
  refine CallOK.tab ?_ ?_ (c93_ok Z7_ok (by
    intro sh ya ti l a b r hv
    obtain ⟨hl, hv2⟩ := guard_val hv
    rw [nf93, leaf_val hv2, hl]
    unfold Lan.barB
    by_cases hc : l.length < ya.length
    · rw [decide_eq_false (show ¬ ((l.length : Int) ≥ (ya.length : Int)) by omega), decide_eq_true hc]
      cases ya.all fun y => Lan.barW a b sh ti l y <;> rfl
    · rw [decide_eq_true (show ((l.length : Int) ≥ (ya.length : Int)) by omega), decide_eq_false hc]
      rfl) a H v H' hv) <;> rfl
theorem Z8_ok : TabOK Z8 := by
  have h := Z5_ok
  have h := h.addCall (g := 93) (r := c93) fun a H v H' hv => by refine CallOK.tab ?_ ?_ (c93_run a H v H' hv) <;> rfl
  exact h
end Go.Ev.Lane
