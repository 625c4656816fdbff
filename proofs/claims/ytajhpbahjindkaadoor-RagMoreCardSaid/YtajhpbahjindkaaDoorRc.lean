/- Bags as bits: tables and normal forms. -/
import Derived.Test.YtajhpbahjindkaaDoorRb
import Derived.Test.YtajhpbahjindkaaDoorEvF
import Derived.Test.YtajhpbahjindkaaDoorChecked
import Derived.Shelf.Sort.Plain
import Derived.Test.YtajhpbahjindkaaDoorRa
import Derived.Test.YtajhpbahjindkaaDoorXaMore
set_option linter.unusedVariables false
set_option linter.unusedSimpArgs false
namespace Rgg
open Go
def tyS (l : List ByteArray) : Nat := match l with
  | [] => 0
  | _ :: _ => 9
def upTo (p : Nat → Bool) (i : Nat) : List ByteArray := ((List.range i).filter p).map word
def wrt (K : Int) (p : Nat → Bool) : List ByteArray := Ev.srtS (upTo p (2 ^ K.toNat))
def at_ (l : List Bool) (i : Nat) : Bool := l.getD i false
def trF (l : List Bool) (s : Nat) (i : Nat) : List Bool := (List.range i).foldl (fun o b => o.set (b &&& s) (at_ o (b &&& s) || at_ l b)) (List.replicate 32 false)
def tr (l : List Bool) (s : Nat) : List Bool := trF l s 32
end Rgg
namespace Go.Ev.Rag
open Go Go.Ev
set_option maxRecDepth 1000000
set_option maxHeartbeats 0
set_option linter.unusedVariables false
abbrev Ag := List AV → Hp → Option (Out × List AV × Hp)
abbrev ps (r : Nat) : AV := .ps r 0 0 0
abbrev vS (s : ByteArray) : AV := .sc (.string s)
abbrev fP (K : Int) (l : List Bool) : AV := .pt [.sc (.int .i64 K), .run .bool l] (some 89) 0 0 0
abbrev fC (K : Int) (l : List Bool) : AV := .pt [.pt [.sc (.int .i64 K), .run .bool l] (some 89) 0 0 0] (some 68) 0 0 0
abbrev aC (l : List Bool) : AV := .pt [.run .bool l] (some 84) 0 0 0
abbrev iC (n : Int) : AV := .pt [.sc (.int .i64 n)] (some 3) 0 0 0
abbrev rS (l : List ByteArray) : Row := rowS l (Rgg.tyS l)
abbrev rF (K : Int) (l : List Bool) : Row := ⟨[.sc (.int .i64 K), .run .bool l], true, 89, false, false, none⟩
def fam (l : List Bool) : Bool := decide (l.length = 32)
def c97t (n : Int) : Tree (AV × Hp) := .br (decide (0 ≤ n) && decide (n < 32)) (.leaf (vS (Rgg.word n.toNat), [])) .fail
def c97 (args : List AV) (H : Hp) : Tree (AV × Hp) := match args, H with
  | [(.sc (.int .i64 n))], [] => c97t n
  | _, _ => .fail
theorem c97_ok {T : Tab} (hT : TabOK T) (h : ∀ (n : Int) (r : AV × Hp), (c97t n).val = some r → evBody T 97 [vi n] [] = some r) : ∀ args H v H', (c97 args H).val = some (v, H') → CallOK T 97 args H v H' := by
  intro args H v H' hv
  unfold c97 at hv
  split at hv
  · exact evBody_sound hT (h _ _ hv)
  · cases hv
def c72t (K : Int) (s : ByteArray) : Tree (AV × Hp) := .br (decide (1 ≤ K) && decide (K ≤ 5)) (.leaf (.tuple [vi (Rgg.rdV (Rgg.rd K s) : Nat), vi (Rgg.rdE (Rgg.rd K s))], [])) .fail
def c72 (args : List AV) (H : Hp) : Tree (AV × Hp) := match args, H with
  | [(.sc (.int .i64 K)), (.sc (.string s))], [] => c72t K s
  | _, _ => .fail
noncomputable def T1 : Tab := ((T0).addCall 97 c97).addCall 72 c72
theorem nf101 (K : Int) (l : List Bool) (n : Int) : evBody T1 101 [vi n, fC K l] [] = (bif decide (0 ≤ n) then bif decide (n < (↑32 : Int)) then oM l[n.toNat]? fun x => some (vb x, []) else none else none) := by kernel_rfl
theorem nf86 (K : Int) (l : List Bool) (n : Int) : evBody T1 86 [vi n, fC K l] [] = (bif decide (0 ≤ n) then bif decide (n < (↑32 : Int)) then oM l[n.toNat]? fun x => some (.sc (.bool !x), []) else none else none) := by kernel_rfl
theorem nf85 (l : List Bool) (n : Int) : evBody T1 85 [vi n, aC l] [] = (bif decide (0 ≤ n) then bif decide (n < (↑32 : Int)) then oM l[n.toNat]? fun x => some (vb x, []) else none else none) := by kernel_rfl
theorem nf98 (l : List Bool) (n s : Int) : evBody T1 98 [vi n, iC s, aC l] [] = (bif IntKind.i64.wrap (↑(BitVec.ofInt 64 n &&& ~~~BitVec.ofInt 64 s).toNat : Int) == 0 then bif decide (0 ≤ n) then bif decide (n < (↑32 : Int)) then oM l[n.toNat]? fun x => some (.sc (.bool !x), []) else none else none else some (vb false, [])) := by kernel_rfl
theorem nl73 (again : Ag) (s i : Int) (l o : List Bool) : lpStep T1 73 2 0 (lpc T1 73 2) again [vi s, ps 0, .agg [.run .bool l] false, vi i] [some ⟨[.run .bool o], true, 84, false, false, none⟩] = (bif decide (i < 32) then bif decide (0 ≤ i) then bif decide (i < (↑32 : Int)) then oM l[i.toNat]? fun x => bif decide (0 ≤ IntKind.i64.wrap (↑(BitVec.ofInt 64 i &&& BitVec.ofInt 64 s).toNat : Int)) then bif decide (IntKind.i64.wrap (↑(BitVec.ofInt 64 i &&& BitVec.ofInt 64 s).toNat : Int) < (↑32 : Int)) then oM o[(IntKind.i64.wrap (↑(BitVec.ofInt 64 i &&& BitVec.ofInt 64 s).toNat : Int)).toNat]? fun x_1 => bif x_1 then bif decide (0 ≤ IntKind.i64.wrap (↑(BitVec.ofInt 64 i &&& BitVec.ofInt 64 s).toNat : Int)) then bif decide (IntKind.i64.wrap (↑(BitVec.ofInt 64 i &&& BitVec.ofInt 64 s).toNat : Int) < (↑32 : Int)) then oM o[(IntKind.i64.wrap (↑(BitVec.ofInt 64 i &&& BitVec.ofInt 64 s).toNat : Int)).toNat]? fun x => again [vi s, .ps 0 0 0 0, .agg [.run .bool l] false, vi (IntKind.i64.wrap (i + 1))] [some ⟨[.run .bool (o.set (IntKind.i64.wrap (↑(BitVec.ofInt 64 i &&& BitVec.ofInt 64 s).toNat : Int)).toNat true)], true, 84, false, false, none⟩] else none else none else bif decide (0 ≤ IntKind.i64.wrap (↑(BitVec.ofInt 64 i &&& BitVec.ofInt 64 s).toNat : Int)) then bif decide (IntKind.i64.wrap (↑(BitVec.ofInt 64 i &&& BitVec.ofInt 64 s).toNat : Int) < (↑32 : Int)) then oM o[(IntKind.i64.wrap (↑(BitVec.ofInt 64 i &&& BitVec.ofInt 64 s).toNat : Int)).toNat]? fun x_2 => again [vi s, .ps 0 0 0 0, .agg [.run .bool l] false, vi (IntKind.i64.wrap (i + 1))] [some ⟨[.run .bool (o.set (IntKind.i64.wrap (↑(BitVec.ofInt 64 i &&& BitVec.ofInt 64 s).toNat : Int)).toNat x)], true, 84, false, false, none⟩] else none else none else none else none else none else none else some (.ext 0, [vi s, .ps 0 0 0 0, .agg [.run .bool l] false, vi i], [some { c := [.run .bool o], vr := true, ty := 84, fz := false, loose := false : Row }])) := by kernel_rfl
def _root_.Rgg.sub (n s : Nat) : Bool := n &&& (31 ^^^ s) == 0
def l73_2t (s i : Int) (l o : List Bool) : Tree (Out × List AV × Hp) := .br (fam l && decide (0 ≤ s) && decide (s < 32) && decide (i = 0) && decide (o = List.replicate 32 false)) (.leaf (.ext 0, [vi s, ps 0, .agg [.run .bool l] false, vi 32], [some ⟨[.run .bool (Rgg.tr l s.toNat)], true, 84, false, false, none⟩])) .fail
def l73_2 (base : Nat) (kv : List AV) (H : Hp) : Tree (Out × List AV × Hp) := match Nat.beq base 0, kv, H with
  | true, [(.sc (.int .i64 s)), (.ps 0 0 0 0), .agg [.run .bool l] false, (.sc (.int .i64 i))], [some ⟨[.run .bool o], true, 84, false, false, none⟩] => l73_2t s i l o
  | _, _, _ => .fail
theorem l73_2_ok {T : Tab} (hT : TabOK T) (hlo : loopOf T.fn 73 2 = some (lpc T 73 2)) (h : ∀ (s i : Int) (l o : List Bool) (r : Out × List AV × Hp), (l73_2t s i l o).val = some r → ∃ mm, lpRun T 73 2 0 (lpc T 73 2) mm [vi s, ps 0, .agg [.run .bool l] false, vi i] [some (⟨[.run .bool o], true, 84, false, false, none⟩)] = some r) : ∀ base kv H o kv' H', (l73_2 base kv H).val = some (o, kv', H') → LoopOK T 73 2 base kv H o kv' H' := by
  intro base kv H o kv' H' hv
  unfold l73_2 at hv
  split at hv
  · rename_i hb
    obtain rfl := Nat.eq_of_beq_eq_true hb
    exact loop_ok hT hlo (h _ _ _ _ _ hv)
  · cases hv
def c101t (K n : Int) (l : List Bool) : Tree (AV × Hp) := .br (fam l && decide (0 ≤ n) && decide (n < 32)) (.leaf (vb (Rgg.at_ l n.toNat), [])) .fail
def c101 (args : List AV) (H : Hp) : Tree (AV × Hp) := match args, H with
  | [(.sc (.int .i64 n)), (.pt [.pt [.sc (.int .i64 K), .run .bool l] (some 89) 0 0 0] (some 68) 0 0 0)], [] => c101t K n l
  | _, _ => .fail
theorem c101_ok {T : Tab} (hT : TabOK T) (h : ∀ (K n : Int) (l : List Bool) (r : AV × Hp), (c101t K n l).val = some r → evBody T 101 [vi n, fC K l] [] = some r) : ∀ args H v H', (c101 args H).val = some (v, H') → CallOK T 101 args H v H' := by
  intro args H v H' hv
  unfold c101 at hv
  split at hv
  · exact evBody_sound hT (h _ _ _ _ hv)
  · cases hv
def c86t (K n : Int) (l : List Bool) : Tree (AV × Hp) := .br (fam l && decide (0 ≤ n) && decide (n < 32)) (.leaf (vb (!Rgg.at_ l n.toNat), [])) .fail
def c86 (args : List AV) (H : Hp) : Tree (AV × Hp) := match args, H with
  | [(.sc (.int .i64 n)), (.pt [.pt [.sc (.int .i64 K), .run .bool l] (some 89) 0 0 0] (some 68) 0 0 0)], [] => c86t K n l
  | _, _ => .fail
theorem c86_ok {T : Tab} (hT : TabOK T) (h : ∀ (K n : Int) (l : List Bool) (r : AV × Hp), (c86t K n l).val = some r → evBody T 86 [vi n, fC K l] [] = some r) : ∀ args H v H', (c86 args H).val = some (v, H') → CallOK T 86 args H v H' := by
  intro args H v H' hv
  unfold c86 at hv
  split at hv
  · exact evBody_sound hT (h _ _ _ _ hv)
  · cases hv
def c85t (n : Int) (l : List Bool) : Tree (AV × Hp) := .br (fam l && decide (0 ≤ n) && decide (n < 32)) (.leaf (vb (Rgg.at_ l n.toNat), [])) .fail
def c85 (args : List AV) (H : Hp) : Tree (AV × Hp) := match args, H with
  | [(.sc (.int .i64 n)), (.pt [.run .bool l] (some 84) 0 0 0)], [] => c85t n l
  | _, _ => .fail
theorem c85_ok {T : Tab} (hT : TabOK T) (h : ∀ (n : Int) (l : List Bool) (r : AV × Hp), (c85t n l).val = some r → evBody T 85 [vi n, aC l] [] = some r) : ∀ args H v H', (c85 args H).val = some (v, H') → CallOK T 85 args H v H' := by
  intro args H v H' hv
  unfold c85 at hv
  split at hv
  · exact evBody_sound hT (h _ _ _ hv)
  · cases hv
def c98t (n s : Int) (l : List Bool) : Tree (AV × Hp) := .br (fam l && decide (0 ≤ n) && decide (n < 32) && decide (0 ≤ s) && decide (s < 32)) (.leaf (vb (Rgg.sub n.toNat s.toNat && !Rgg.at_ l n.toNat), [])) .fail
def c98 (args : List AV) (H : Hp) : Tree (AV × Hp) := match args, H with
  | [(.sc (.int .i64 n)), (.pt [.sc (.int .i64 s)] (some 3) 0 0 0), (.pt [.run .bool l] (some 84) 0 0 0)], [] => c98t n s l
  | _, _ => .fail
theorem c98_ok {T : Tab} (hT : TabOK T) (h : ∀ (n s : Int) (l : List Bool) (r : AV × Hp), (c98t n s l).val = some r → evBody T 98 [vi n, iC s, aC l] [] = some r) : ∀ args H v H', (c98 args H).val = some (v, H') → CallOK T 98 args H v H' := by
  intro args H v H' hv
  unfold c98 at hv
  split at hv
  · exact evBody_sound hT (h _ _ _ _ hv)
  · cases hv
def c84 (args : List AV) (H : Hp) : Tree (AV × Hp) := match args, H with
  | [.os 0 0 0 k true false true], [some ⟨[.run .str l], false, ty, false, false, none⟩] => .br (decide (k = l.length) && sm l && decide (ty = Rgg.tyS l)) (.leaf (.tuple [], [some (rS (srtS l))])) .fail
  | _, _ => .fail
noncomputable def T2 : Tab := ((((((T1).addLoop 73 2 l73_2).addCall 101 c101).addCall 86 c86).addCall 85 c85).addCall 98 c98).addCall 84 c84
theorem nf73 (K s : Int) (l : List Bool) : evBody T2 73 [fP K l, vi s] [] = (bif decide (l.length = 32) && decide (0 ≤ s) && decide (s < 32) && decide (0 = 0) && decide (List.replicate 32 false = List.replicate 32 false) then bif decide (List.map (fun (x : AV) => match x with | .run e l => l.length * e.size | _ => 1) (List.take 1 (List.drop 0 [.run .bool (Rgg.tr l s.toNat)])) = List.map (fun (x : AV) => match x with | .run e l => l.length * e.size | _ => 1) ((some [.run .bool (List.replicate 32 false)]).getD [])) then some (.agg [.run .bool (Rgg.tr l s.toNat)] false, []) else none else none) := by kernel_rfl
def c73t (K s : Int) (l : List Bool) : Tree (AV × Hp) := .br (fam l && decide (0 ≤ s) && decide (s < 32)) (.leaf (.agg [.run .bool (Rgg.tr l s.toNat)] false, [])) .fail
def c73 (args : List AV) (H : Hp) : Tree (AV × Hp) := match args, H with
  | [(.pt [.sc (.int .i64 K), .run .bool l] (some 89) 0 0 0), (.sc (.int .i64 s))], [] => c73t K s l
  | _, _ => .fail
theorem c73_ok {T : Tab} (hT : TabOK T) (h : ∀ (K s : Int) (l : List Bool) (r : AV × Hp), (c73t K s l).val = some r → evBody T 73 [fP K l, vi s] [] = some r) : ∀ args H v H', (c73 args H).val = some (v, H') → CallOK T 73 args H v H' := by
  intro args H v H' hv
  unfold c73 at hv
  split at hv
  · exact evBody_sound hT (h _ _ _ _ hv)
  · cases hv
theorem nl60_101 (again : Ag) (K : Int) (l : List Bool) (q i : Int) (out : List ByteArray) (ty : TypeId) : lpStep T2 60 3 0 (lpc T2 60 3) again [.fn (.func 101) [] [fC K l], osW 0 out.length, vi q, vi i] [some (rowS out ty)] = (bif decide (i < q) then bif decide (l.length = 32) && decide (0 ≤ i) && decide (i < 32) then bif Rgg.at_ l i.toNat then bif decide (0 ≤ i) && decide (i < 32) then bif room (out.length + 1) 16 then again [.fn (Go.Fn.func 101) [] [.pt [.pt [vi K, .run .bool l] (some 89) 0 0 0] (some 68) 0 0 0], osW 0 (out.length + 1), vi q, vi (IntKind.i64.wrap (i + 1))] [some ⟨[.run .str (out ++ [Rgg.word i.toNat])], false, 9, false, false, none⟩] else none else none else again [.fn (Go.Fn.func 101) [] [.pt [.pt [vi K, .run .bool l] (some 89) 0 0 0] (some 68) 0 0 0], osW 0 out.length, vi q, vi (IntKind.i64.wrap (i + 1))] [some { c := [.run .str out], vr := false, ty := ty, fz := false, loose := false : Row }] else none else some (.ext 0, [.fn (Go.Fn.func 101) [] [.pt [.pt [vi K, .run .bool l] (some 89) 0 0 0] (some 68) 0 0 0], osW 0 out.length, vi q, vi i], [some { c := [.run .str out], vr := false, ty := ty, fz := false, loose := false : Row }])) := by kernel_rfl
def l60_3x101t (K : Int) (l : List Bool) (q : Int) : Tree (Out × List AV × Hp) := .br (fam l && decide (0 ≤ q) && decide (q ≤ 32)) (.leaf (.ext 0, [.fn (.func 101) [] [fC K l], osW 0 (Rgg.upTo (fun n => Rgg.at_ l n) q.toNat).length, vi q, vi q], [some (rS (Rgg.upTo (fun n => Rgg.at_ l n) q.toNat))])) .fail
def l60_3x101 (base : Nat) (kv : List AV) (H : Hp) : Tree (Out × List AV × Hp) := match Nat.beq base 0, kv, H with
  | true, [.fn (.func 101) [] [(.pt [.pt [.sc (.int .i64 K), .run .bool l] (some 89) 0 0 0] (some 68) 0 0 0)], (.os 0 0 0 0 true false true), (.sc (.int .i64 q)), (.sc (.int .i64 0))], [some ⟨[.run .str []], false, 0, false, false, none⟩] => l60_3x101t K l q
  | _, _, _ => .fail
theorem l60_3x101_ok {T : Tab} (hT : TabOK T) (hlo : loopOf T.fn 60 3 = some (lpc T 60 3)) (h : ∀ (K : Int) (l : List Bool) (q : Int) (r : Out × List AV × Hp), (l60_3x101t K l q).val = some r → ∃ mm, lpRun T 60 3 0 (lpc T 60 3) mm [.fn (.func 101) [] [fC K l], osW 0 0, vi q, vi 0] [some (rowS [] 0)] = some r) : ∀ base kv H o kv' H', (l60_3x101 base kv H).val = some (o, kv', H') → LoopOK T 60 3 base kv H o kv' H' := by
  intro base kv H o kv' H' hv
  unfold l60_3x101 at hv
  split at hv
  · rename_i hb
    obtain rfl := Nat.eq_of_beq_eq_true hb
    exact loop_ok hT hlo (h _ _ _ _ hv)
  · cases hv
theorem nl60_86 (again : Ag) (K : Int) (l : List Bool) (q i : Int) (out : List ByteArray) (ty : TypeId) : lpStep T2 60 3 0 (lpc T2 60 3) again [.fn (.func 86) [] [fC K l], osW 0 out.length, vi q, vi i] [some (rowS out ty)] = (bif decide (i < q) then bif decide (l.length = 32) && decide (0 ≤ i) && decide (i < 32) then bif !Rgg.at_ l i.toNat then bif decide (0 ≤ i) && decide (i < 32) then bif room (out.length + 1) 16 then again [.fn (Go.Fn.func 86) [] [.pt [.pt [vi K, .run .bool l] (some 89) 0 0 0] (some 68) 0 0 0], osW 0 (out.length + 1), vi q, vi (IntKind.i64.wrap (i + 1))] [some ⟨[.run .str (out ++ [Rgg.word i.toNat])], false, 9, false, false, none⟩] else none else none else again [.fn (Go.Fn.func 86) [] [.pt [.pt [vi K, .run .bool l] (some 89) 0 0 0] (some 68) 0 0 0], osW 0 out.length, vi q, vi (IntKind.i64.wrap (i + 1))] [some { c := [.run .str out], vr := false, ty := ty, fz := false, loose := false : Row }] else none else some (.ext 0, [.fn (Go.Fn.func 86) [] [.pt [.pt [vi K, .run .bool l] (some 89) 0 0 0] (some 68) 0 0 0], osW 0 out.length, vi q, vi i], [some { c := [.run .str out], vr := false, ty := ty, fz := false, loose := false : Row }])) := by kernel_rfl
def l60_3x86t (K : Int) (l : List Bool) (q : Int) : Tree (Out × List AV × Hp) := .br (fam l && decide (0 ≤ q) && decide (q ≤ 32)) (.leaf (.ext 0, [.fn (.func 86) [] [fC K l], osW 0 (Rgg.upTo (fun n => !Rgg.at_ l n) q.toNat).length, vi q, vi q], [some (rS (Rgg.upTo (fun n => !Rgg.at_ l n) q.toNat))])) .fail
def l60_3x86 (base : Nat) (kv : List AV) (H : Hp) : Tree (Out × List AV × Hp) := match Nat.beq base 0, kv, H with
  | true, [.fn (.func 86) [] [(.pt [.pt [.sc (.int .i64 K), .run .bool l] (some 89) 0 0 0] (some 68) 0 0 0)], (.os 0 0 0 0 true false true), (.sc (.int .i64 q)), (.sc (.int .i64 0))], [some ⟨[.run .str []], false, 0, false, false, none⟩] => l60_3x86t K l q
  | _, _, _ => .fail
theorem l60_3x86_ok {T : Tab} (hT : TabOK T) (hlo : loopOf T.fn 60 3 = some (lpc T 60 3)) (h : ∀ (K : Int) (l : List Bool) (q : Int) (r : Out × List AV × Hp), (l60_3x86t K l q).val = some r → ∃ mm, lpRun T 60 3 0 (lpc T 60 3) mm [.fn (.func 86) [] [fC K l], osW 0 0, vi q, vi 0] [some (rowS [] 0)] = some r) : ∀ base kv H o kv' H', (l60_3x86 base kv H).val = some (o, kv', H') → LoopOK T 60 3 base kv H o kv' H' := by
  intro base kv H o kv' H' hv
  unfold l60_3x86 at hv
  split at hv
  · rename_i hb
    obtain rfl := Nat.eq_of_beq_eq_true hb
    exact loop_ok hT hlo (h _ _ _ _ hv)
  · cases hv
theorem nl60_85 (again : Ag) (l : List Bool) (q i : Int) (out : List ByteArray) (ty : TypeId) : lpStep T2 60 3 0 (lpc T2 60 3) again [.fn (.func 85) [] [aC l], osW 0 out.length, vi q, vi i] [some (rowS out ty)] = (bif decide (i < q) then bif decide (l.length = 32) && decide (0 ≤ i) && decide (i < 32) then bif Rgg.at_ l i.toNat then bif decide (0 ≤ i) && decide (i < 32) then bif room (out.length + 1) 16 then again [.fn (Go.Fn.func 85) [] [.pt [.run .bool l] (some 84) 0 0 0], osW 0 (out.length + 1), vi q, vi (IntKind.i64.wrap (i + 1))] [some ⟨[.run .str (out ++ [Rgg.word i.toNat])], false, 9, false, false, none⟩] else none else none else again [.fn (Go.Fn.func 85) [] [.pt [.run .bool l] (some 84) 0 0 0], osW 0 out.length, vi q, vi (IntKind.i64.wrap (i + 1))] [some { c := [.run .str out], vr := false, ty := ty, fz := false, loose := false : Row }] else none else some (.ext 0, [.fn (Go.Fn.func 85) [] [.pt [.run .bool l] (some 84) 0 0 0], osW 0 out.length, vi q, vi i], [some { c := [.run .str out], vr := false, ty := ty, fz := false, loose := false : Row }])) := by kernel_rfl
def l60_3x85t (l : List Bool) (q : Int) : Tree (Out × List AV × Hp) := .br (fam l && decide (0 ≤ q) && decide (q ≤ 32)) (.leaf (.ext 0, [.fn (.func 85) [] [aC l], osW 0 (Rgg.upTo (fun n => Rgg.at_ l n) q.toNat).length, vi q, vi q], [some (rS (Rgg.upTo (fun n => Rgg.at_ l n) q.toNat))])) .fail
def l60_3x85 (base : Nat) (kv : List AV) (H : Hp) : Tree (Out × List AV × Hp) := match Nat.beq base 0, kv, H with
  | true, [.fn (.func 85) [] [(.pt [.run .bool l] (some 84) 0 0 0)], (.os 0 0 0 0 true false true), (.sc (.int .i64 q)), (.sc (.int .i64 0))], [some ⟨[.run .str []], false, 0, false, false, none⟩] => l60_3x85t l q
  | _, _, _ => .fail
theorem l60_3x85_ok {T : Tab} (hT : TabOK T) (hlo : loopOf T.fn 60 3 = some (lpc T 60 3)) (h : ∀ (l : List Bool) (q : Int) (r : Out × List AV × Hp), (l60_3x85t l q).val = some r → ∃ mm, lpRun T 60 3 0 (lpc T 60 3) mm [.fn (.func 85) [] [aC l], osW 0 0, vi q, vi 0] [some (rowS [] 0)] = some r) : ∀ base kv H o kv' H', (l60_3x85 base kv H).val = some (o, kv', H') → LoopOK T 60 3 base kv H o kv' H' := by
  intro base kv H o kv' H' hv
  unfold l60_3x85 at hv
  split at hv
  · rename_i hb
    obtain rfl := Nat.eq_of_beq_eq_true hb
    exact loop_ok hT hlo (h _ _ _ hv)
  · cases hv
theorem nl60_98 (again : Ag) (s : Int) (l : List Bool) (q i : Int) (out : List ByteArray) (ty : TypeId) : lpStep T2 60 3 0 (lpc T2 60 3) again [.fn (.func 98) [] [iC s, aC l], osW 0 out.length, vi q, vi i] [some (rowS out ty)] = (bif decide (i < q) then bif decide (l.length = 32) && decide (0 ≤ i) && decide (i < 32) && decide (0 ≤ s) && decide (s < 32) then bif Rgg.sub i.toNat s.toNat && !Rgg.at_ l i.toNat then bif decide (0 ≤ i) && decide (i < 32) then bif room (out.length + 1) 16 then again [.fn (Go.Fn.func 98) [] [.pt [vi s] (some 3) 0 0 0, .pt [.run .bool l] (some 84) 0 0 0], osW 0 (out.length + 1), vi q, vi (IntKind.i64.wrap (i + 1))] [some ⟨[.run .str (out ++ [Rgg.word i.toNat])], false, 9, false, false, none⟩] else none else none else again [.fn (Go.Fn.func 98) [] [.pt [vi s] (some 3) 0 0 0, .pt [.run .bool l] (some 84) 0 0 0], osW 0 out.length, vi q, vi (IntKind.i64.wrap (i + 1))] [some { c := [.run .str out], vr := false, ty := ty, fz := false, loose := false : Row }] else none else some (.ext 0, [.fn (Go.Fn.func 98) [] [.pt [vi s] (some 3) 0 0 0, .pt [.run .bool l] (some 84) 0 0 0], osW 0 out.length, vi q, vi i], [some { c := [.run .str out], vr := false, ty := ty, fz := false, loose := false : Row }])) := by kernel_rfl
def l60_3x98t (s : Int) (l : List Bool) (q : Int) : Tree (Out × List AV × Hp) := .br (fam l && decide (0 ≤ s) && decide (s < 32) && decide (0 ≤ q) && decide (q ≤ 32)) (.leaf (.ext 0, [.fn (.func 98) [] [iC s, aC l], osW 0 (Rgg.upTo (fun n => Rgg.sub n s.toNat && !Rgg.at_ l n) q.toNat).length, vi q, vi q], [some (rS (Rgg.upTo (fun n => Rgg.sub n s.toNat && !Rgg.at_ l n) q.toNat))])) .fail
def l60_3x98 (base : Nat) (kv : List AV) (H : Hp) : Tree (Out × List AV × Hp) := match Nat.beq base 0, kv, H with
  | true, [.fn (.func 98) [] [(.pt [.sc (.int .i64 s)] (some 3) 0 0 0), (.pt [.run .bool l] (some 84) 0 0 0)], (.os 0 0 0 0 true false true), (.sc (.int .i64 q)), (.sc (.int .i64 0))], [some ⟨[.run .str []], false, 0, false, false, none⟩] => l60_3x98t s l q
  | _, _, _ => .fail
theorem l60_3x98_ok {T : Tab} (hT : TabOK T) (hlo : loopOf T.fn 60 3 = some (lpc T 60 3)) (h : ∀ (s : Int) (l : List Bool) (q : Int) (r : Out × List AV × Hp), (l60_3x98t s l q).val = some r → ∃ mm, lpRun T 60 3 0 (lpc T 60 3) mm [.fn (.func 98) [] [iC s, aC l], osW 0 0, vi q, vi 0] [some (rowS [] 0)] = some r) : ∀ base kv H o kv' H', (l60_3x98 base kv H).val = some (o, kv', H') → LoopOK T 60 3 base kv H o kv' H' := by
  intro base kv H o kv' H' hv
  unfold l60_3x98 at hv
  split at hv
  · rename_i hb
    obtain rfl := Nat.eq_of_beq_eq_true hb
    exact loop_ok hT hlo (h _ _ _ _ hv)
  · cases hv
def l60_3 (base : Nat) (kv : List AV) (H : Hp) : Tree (Out × List AV × Hp) := match kv with
  | .fn (.func 101) _ _ :: _ => l60_3x101 base kv H
  | .fn (.func 86) _ _ :: _ => l60_3x86 base kv H
  | .fn (.func 85) _ _ :: _ => l60_3x85 base kv H
  | .fn (.func 98) _ _ :: _ => l60_3x98 base kv H
  | _ => .fail
noncomputable def T3 : Tab := (T2.addCall 73 c73).addLoop 60 3 l60_3
theorem nf60_101 (K : Int) (l : List Bool) (N : Int) : evBody T3 60 [vi N, .fn (.func 101) [] [fC K l]] [] = (bif decide (0 ≤ N) then bif decide (l.length = 32) && decide (0 ≤ IntKind.i64.wrap (1 * 2 ^ Min.min N.toNat 64)) && decide (IntKind.i64.wrap (1 * 2 ^ Min.min N.toNat 64) ≤ 32) then bif decide ((Rgg.upTo (fun n => Rgg.at_ l n) (IntKind.i64.wrap (1 * 2 ^ Min.min N.toNat 64)).toNat).length = (Rgg.upTo (fun n => Rgg.at_ l n) (IntKind.i64.wrap (1 * 2 ^ Min.min N.toNat 64)).toNat).length) && sm (Rgg.upTo (fun n => Rgg.at_ l n) (IntKind.i64.wrap (1 * 2 ^ Min.min N.toNat 64)).toNat) && decide (Rgg.tyS (Rgg.upTo (fun n => Rgg.at_ l n) (IntKind.i64.wrap (1 * 2 ^ Min.min N.toNat 64)).toNat) = Rgg.tyS (Rgg.upTo (fun n => Rgg.at_ l n) (IntKind.i64.wrap (1 * 2 ^ Min.min N.toNat 64)).toNat)) then some (.os 0 0 0 (Rgg.upTo (fun n => Rgg.at_ l n) (IntKind.i64.wrap (1 * 2 ^ Min.min N.toNat 64)).toNat).length true false true, [some ⟨[.run .str (srtS (Rgg.upTo (fun n => Rgg.at_ l n) (IntKind.i64.wrap (1 * 2 ^ Min.min N.toNat 64)).toNat))], false, Rgg.tyS (srtS (Rgg.upTo (fun n => Rgg.at_ l n) (IntKind.i64.wrap (1 * 2 ^ Min.min N.toNat 64)).toNat)), false, false, none⟩]) else none else none else none) := by kernel_rfl
def c60x101t (K : Int) (l : List Bool) (N : Int) : Tree (AV × Hp) := .br (fam l && decide (1 ≤ N) && decide (N ≤ 5)) (.leaf (osW 0 (Rgg.wrt N (fun n => Rgg.at_ l n)).length, [some (rS (Rgg.wrt N (fun n => Rgg.at_ l n)))])) .fail
def c60x101 (args : List AV) (H : Hp) : Tree (AV × Hp) := match args, H with
  | [(.sc (.int .i64 N)), .fn (.func 101) [] [(.pt [.pt [.sc (.int .i64 K), .run .bool l] (some 89) 0 0 0] (some 68) 0 0 0)]], [] => c60x101t K l N
  | _, _ => .fail
theorem c60x101_ok {T : Tab} (hT : TabOK T) (h : ∀ (K : Int) (l : List Bool) (N : Int) (r : AV × Hp), (c60x101t K l N).val = some r → evBody T 60 [vi N, .fn (.func 101) [] [fC K l]] [] = some r) : ∀ args H v H', (c60x101 args H).val = some (v, H') → CallOK T 60 args H v H' := by
  intro args H v H' hv
  unfold c60x101 at hv
  split at hv
  · exact evBody_sound hT (h _ _ _ _ hv)
  · cases hv
theorem nf60_86 (K : Int) (l : List Bool) (N : Int) : evBody T3 60 [vi N, .fn (.func 86) [] [fC K l]] [] = (bif decide (0 ≤ N) then bif decide (l.length = 32) && decide (0 ≤ IntKind.i64.wrap (1 * 2 ^ Min.min N.toNat 64)) && decide (IntKind.i64.wrap (1 * 2 ^ Min.min N.toNat 64) ≤ 32) then bif decide ((Rgg.upTo (fun n => !Rgg.at_ l n) (IntKind.i64.wrap (1 * 2 ^ Min.min N.toNat 64)).toNat).length = (Rgg.upTo (fun n => !Rgg.at_ l n) (IntKind.i64.wrap (1 * 2 ^ Min.min N.toNat 64)).toNat).length) && sm (Rgg.upTo (fun n => !Rgg.at_ l n) (IntKind.i64.wrap (1 * 2 ^ Min.min N.toNat 64)).toNat) && decide (Rgg.tyS (Rgg.upTo (fun n => !Rgg.at_ l n) (IntKind.i64.wrap (1 * 2 ^ Min.min N.toNat 64)).toNat) = Rgg.tyS (Rgg.upTo (fun n => !Rgg.at_ l n) (IntKind.i64.wrap (1 * 2 ^ Min.min N.toNat 64)).toNat)) then some (.os 0 0 0 (Rgg.upTo (fun n => !Rgg.at_ l n) (IntKind.i64.wrap (1 * 2 ^ Min.min N.toNat 64)).toNat).length true false true, [some ⟨[.run .str (srtS (Rgg.upTo (fun n => !Rgg.at_ l n) (IntKind.i64.wrap (1 * 2 ^ Min.min N.toNat 64)).toNat))], false, Rgg.tyS (srtS (Rgg.upTo (fun n => !Rgg.at_ l n) (IntKind.i64.wrap (1 * 2 ^ Min.min N.toNat 64)).toNat)), false, false, none⟩]) else none else none else none) := by kernel_rfl
def c60x86t (K : Int) (l : List Bool) (N : Int) : Tree (AV × Hp) := .br (fam l && decide (1 ≤ N) && decide (N ≤ 5)) (.leaf (osW 0 (Rgg.wrt N (fun n => !Rgg.at_ l n)).length, [some (rS (Rgg.wrt N (fun n => !Rgg.at_ l n)))])) .fail
def c60x86 (args : List AV) (H : Hp) : Tree (AV × Hp) := match args, H with
  | [(.sc (.int .i64 N)), .fn (.func 86) [] [(.pt [.pt [.sc (.int .i64 K), .run .bool l] (some 89) 0 0 0] (some 68) 0 0 0)]], [] => c60x86t K l N
  | _, _ => .fail
theorem c60x86_ok {T : Tab} (hT : TabOK T) (h : ∀ (K : Int) (l : List Bool) (N : Int) (r : AV × Hp), (c60x86t K l N).val = some r → evBody T 60 [vi N, .fn (.func 86) [] [fC K l]] [] = some r) : ∀ args H v H', (c60x86 args H).val = some (v, H') → CallOK T 60 args H v H' := by
  intro args H v H' hv
  unfold c60x86 at hv
  split at hv
  · exact evBody_sound hT (h _ _ _ _ hv)
  · cases hv
theorem nf60_85 (l : List Bool) (N : Int) : evBody T3 60 [vi N, .fn (.func 85) [] [aC l]] [] = (bif decide (0 ≤ N) then bif decide (l.length = 32) && decide (0 ≤ IntKind.i64.wrap (1 * 2 ^ Min.min N.toNat 64)) && decide (IntKind.i64.wrap (1 * 2 ^ Min.min N.toNat 64) ≤ 32) then bif decide ((Rgg.upTo (fun n => Rgg.at_ l n) (IntKind.i64.wrap (1 * 2 ^ Min.min N.toNat 64)).toNat).length = (Rgg.upTo (fun n => Rgg.at_ l n) (IntKind.i64.wrap (1 * 2 ^ Min.min N.toNat 64)).toNat).length) && sm (Rgg.upTo (fun n => Rgg.at_ l n) (IntKind.i64.wrap (1 * 2 ^ Min.min N.toNat 64)).toNat) && decide (Rgg.tyS (Rgg.upTo (fun n => Rgg.at_ l n) (IntKind.i64.wrap (1 * 2 ^ Min.min N.toNat 64)).toNat) = Rgg.tyS (Rgg.upTo (fun n => Rgg.at_ l n) (IntKind.i64.wrap (1 * 2 ^ Min.min N.toNat 64)).toNat)) then some (.os 0 0 0 (Rgg.upTo (fun n => Rgg.at_ l n) (IntKind.i64.wrap (1 * 2 ^ Min.min N.toNat 64)).toNat).length true false true, [some ⟨[.run .str (srtS (Rgg.upTo (fun n => Rgg.at_ l n) (IntKind.i64.wrap (1 * 2 ^ Min.min N.toNat 64)).toNat))], false, Rgg.tyS (srtS (Rgg.upTo (fun n => Rgg.at_ l n) (IntKind.i64.wrap (1 * 2 ^ Min.min N.toNat 64)).toNat)), false, false, none⟩]) else none else none else none) := by kernel_rfl
def c60x85t (l : List Bool) (N : Int) : Tree (AV × Hp) := .br (fam l && decide (1 ≤ N) && decide (N ≤ 5)) (.leaf (osW 0 (Rgg.wrt N (fun n => Rgg.at_ l n)).length, [some (rS (Rgg.wrt N (fun n => Rgg.at_ l n)))])) .fail
def c60x85 (args : List AV) (H : Hp) : Tree (AV × Hp) := match args, H with
  | [(.sc (.int .i64 N)), .fn (.func 85) [] [(.pt [.run .bool l] (some 84) 0 0 0)]], [] => c60x85t l N
  | _, _ => .fail
theorem c60x85_ok {T : Tab} (hT : TabOK T) (h : ∀ (l : List Bool) (N : Int) (r : AV × Hp), (c60x85t l N).val = some r → evBody T 60 [vi N, .fn (.func 85) [] [aC l]] [] = some r) : ∀ args H v H', (c60x85 args H).val = some (v, H') → CallOK T 60 args H v H' := by
  intro args H v H' hv
  unfold c60x85 at hv
  split at hv
  · exact evBody_sound hT (h _ _ _ hv)
  · cases hv
theorem nf60_98 (s : Int) (l : List Bool) (N : Int) : evBody T3 60 [vi N, .fn (.func 98) [] [iC s, aC l]] [] = (bif decide (0 ≤ N) then bif decide (l.length = 32) && decide (0 ≤ s) && decide (s < 32) && decide (0 ≤ IntKind.i64.wrap (1 * 2 ^ Min.min N.toNat 64)) && decide (IntKind.i64.wrap (1 * 2 ^ Min.min N.toNat 64) ≤ 32) then bif decide ((Rgg.upTo (fun n => Rgg.sub n s.toNat && !Rgg.at_ l n) (IntKind.i64.wrap (1 * 2 ^ Min.min N.toNat 64)).toNat).length = (Rgg.upTo (fun n => Rgg.sub n s.toNat && !Rgg.at_ l n) (IntKind.i64.wrap (1 * 2 ^ Min.min N.toNat 64)).toNat).length) && sm (Rgg.upTo (fun n => Rgg.sub n s.toNat && !Rgg.at_ l n) (IntKind.i64.wrap (1 * 2 ^ Min.min N.toNat 64)).toNat) && decide (Rgg.tyS (Rgg.upTo (fun n => Rgg.sub n s.toNat && !Rgg.at_ l n) (IntKind.i64.wrap (1 * 2 ^ Min.min N.toNat 64)).toNat) = Rgg.tyS (Rgg.upTo (fun n => Rgg.sub n s.toNat && !Rgg.at_ l n) (IntKind.i64.wrap (1 * 2 ^ Min.min N.toNat 64)).toNat)) then some (.os 0 0 0 (Rgg.upTo (fun n => Rgg.sub n s.toNat && !Rgg.at_ l n) (IntKind.i64.wrap (1 * 2 ^ Min.min N.toNat 64)).toNat).length true false true, [some ⟨[.run .str (srtS (Rgg.upTo (fun n => Rgg.sub n s.toNat && !Rgg.at_ l n) (IntKind.i64.wrap (1 * 2 ^ Min.min N.toNat 64)).toNat))], false, Rgg.tyS (srtS (Rgg.upTo (fun n => Rgg.sub n s.toNat && !Rgg.at_ l n) (IntKind.i64.wrap (1 * 2 ^ Min.min N.toNat 64)).toNat)), false, false, none⟩]) else none else none else none) := by kernel_rfl
def c60x98t (s : Int) (l : List Bool) (N : Int) : Tree (AV × Hp) := .br (fam l && decide (0 ≤ s) && decide (s < 32) && decide (1 ≤ N) && decide (N ≤ 5)) (.leaf (osW 0 (Rgg.wrt N (fun n => Rgg.sub n s.toNat && !Rgg.at_ l n)).length, [some (rS (Rgg.wrt N (fun n => Rgg.sub n s.toNat && !Rgg.at_ l n)))])) .fail
def c60x98 (args : List AV) (H : Hp) : Tree (AV × Hp) := match args, H with
  | [(.sc (.int .i64 N)), .fn (.func 98) [] [(.pt [.sc (.int .i64 s)] (some 3) 0 0 0), (.pt [.run .bool l] (some 84) 0 0 0)]], [] => c60x98t s l N
  | _, _ => .fail
theorem c60x98_ok {T : Tab} (hT : TabOK T) (h : ∀ (s : Int) (l : List Bool) (N : Int) (r : AV × Hp), (c60x98t s l N).val = some r → evBody T 60 [vi N, .fn (.func 98) [] [iC s, aC l]] [] = some r) : ∀ args H v H', (c60x98 args H).val = some (v, H') → CallOK T 60 args H v H' := by
  intro args H v H' hv
  unfold c60x98 at hv
  split at hv
  · exact evBody_sound hT (h _ _ _ _ hv)
  · cases hv
def c60 (args : List AV) (H : Hp) : Tree (AV × Hp) := match args with
  | _ :: .fn (.func 101) _ _ :: _ => c60x101 args H
  | _ :: .fn (.func 86) _ _ :: _ => c60x86 args H
  | _ :: .fn (.func 85) _ _ :: _ => c60x85 args H
  | _ :: .fn (.func 98) _ _ :: _ => c60x98 args H
  | _ => .fail
noncomputable def T4 : Tab := (T2.addCall 73 c73).addCall 60 c60
def _root_.Rgg.miss (K : Int) (l : List Bool) (s : Nat) : List ByteArray := Rgg.wrt K fun n => Rgg.sub n s && !Rgg.at_ (Rgg.tr l s) n
def _root_.Rgg.dif (a s : Nat) : Nat := a &&& (31 ^^^ s)
theorem nf62 (K s : Int) (l : List Bool) : evBody T4 62 [fP K l, vi s] [] = (bif decide (l.length = 32) && decide (0 ≤ s) && decide (s < 32) then bif decide (List.map (fun (x : AV) => match x with | .run e l => l.length * e.size | _ => 1) [.run .bool (Rgg.tr l s.toNat)] = List.map (fun (x : AV) => match x with | .run e l => l.length * e.size | _ => 1) ((some [.run .bool (List.replicate 32 false)]).getD [])) then bif decide ((Rgg.tr l s.toNat).length = 32) && decide (0 ≤ s) && decide (s < 32) && decide (1 ≤ K) && decide (K ≤ 5) then bif (↑(Rgg.wrt K fun n => Rgg.sub n s.toNat && !Rgg.at_ (Rgg.tr l s.toNat) n).length : Int) == 0 then some (.tuple [.sc (.string { data := #[] : ByteArray }), vb false], []) else bif decide (0 < (↑(Rgg.wrt K fun n => Rgg.sub n s.toNat && !Rgg.at_ (Rgg.tr l s.toNat) n).length : Int)) then oM (Rgg.wrt K fun n => Rgg.sub n s.toNat && !Rgg.at_ (Rgg.tr l s.toNat) n)[0]? fun x => some (.tuple [.sc (.string x), vb true], []) else none else none else none else none) := by kernel_rfl
def c62t (K s : Int) (l : List Bool) : Tree (AV × Hp) := .br (fam l && decide (0 ≤ s) && decide (s < 32) && decide (1 ≤ K) && decide (K ≤ 5)) (.br (Rgg.miss K l s.toNat).isEmpty (.leaf (.tuple [.sc (.string ⟨#[]⟩), vb false], [])) (.leaf (.tuple [vS ((Rgg.miss K l s.toNat).headD ⟨#[]⟩), vb true], []))) .fail
def c62 (args : List AV) (H : Hp) : Tree (AV × Hp) := match args, H with
  | [(.pt [.sc (.int .i64 K), .run .bool l] (some 89) 0 0 0), (.sc (.int .i64 s))], [] => c62t K s l
  | _, _ => .fail
theorem c62_ok {T : Tab} (hT : TabOK T) (h : ∀ (K s : Int) (l : List Bool) (r : AV × Hp), (c62t K s l).val = some r → evBody T 62 [fP K l, vi s] [] = some r) : ∀ args H v H', (c62 args H).val = some (v, H') → CallOK T 62 args H v H' := by
  intro args H v H' hv
  unfold c62 at hv
  split at hv
  · exact evBody_sound hT (h _ _ _ _ hv)
  · cases hv
noncomputable def T5 : Tab := T4.addCall 62 c62
theorem nf61 (K n : Int) (l : List Bool) : evBody T5 61 [vi n, fC K l] [] = (bif decide (l.length = 32) && decide (0 ≤ n) && decide (n < 32) && decide (1 ≤ K) && decide (K ≤ 5) then bif (Rgg.miss K l n.toNat).isEmpty then some (vb true, []) else some (vb false, []) else none) := by kernel_rfl
theorem nf76 (K n al : Int) (l : List Bool) : evBody T5 76 [vi n, fC K l, iC al] [] = (bif decide (l.length = 32) && decide (0 ≤ IntKind.i64.wrap (↑(BitVec.ofInt 64 al &&& ~~~BitVec.ofInt 64 n).toNat : Int)) && decide (IntKind.i64.wrap (↑(BitVec.ofInt 64 al &&& ~~~BitVec.ofInt 64 n).toNat : Int) < 32) && decide (1 ≤ K) && decide (K ≤ 5) then bif (Rgg.miss K l (IntKind.i64.wrap (↑(BitVec.ofInt 64 al &&& ~~~BitVec.ofInt 64 n).toNat : Int)).toNat).isEmpty then some (vb false, []) else some (vb true, []) else none) := by kernel_rfl
def c61t (K n : Int) (l : List Bool) : Tree (AV × Hp) := .br (fam l && decide (0 ≤ n) && decide (n < 32) && decide (1 ≤ K) && decide (K ≤ 5)) (.leaf (vb (Rgg.miss K l n.toNat).isEmpty, [])) .fail
def c61 (args : List AV) (H : Hp) : Tree (AV × Hp) := match args, H with
  | [(.sc (.int .i64 n)), (.pt [.pt [.sc (.int .i64 K), .run .bool l] (some 89) 0 0 0] (some 68) 0 0 0)], [] => c61t K n l
  | _, _ => .fail
theorem c61_ok {T : Tab} (hT : TabOK T) (h : ∀ (K n : Int) (l : List Bool) (r : AV × Hp), (c61t K n l).val = some r → evBody T 61 [vi n, fC K l] [] = some r) : ∀ args H v H', (c61 args H).val = some (v, H') → CallOK T 61 args H v H' := by
  intro args H v H' hv
  unfold c61 at hv
  split at hv
  · exact evBody_sound hT (h _ _ _ _ hv)
  · cases hv
def c76t (K n al : Int) (l : List Bool) : Tree (AV × Hp) := .br (fam l && decide (0 ≤ n) && decide (n < 32) && decide (1 ≤ K) && decide (K ≤ 5) && decide (0 ≤ al) && decide (al < 32)) (.leaf (vb (!(Rgg.miss K l (Rgg.dif al.toNat n.toNat)).isEmpty), [])) .fail
def c76 (args : List AV) (H : Hp) : Tree (AV × Hp) := match args, H with
  | [(.sc (.int .i64 n)), (.pt [.pt [.sc (.int .i64 K), .run .bool l] (some 89) 0 0 0] (some 68) 0 0 0), (.pt [.sc (.int .i64 al)] (some 3) 0 0 0)], [] => c76t K n al l
  | _, _ => .fail
theorem c76_ok {T : Tab} (hT : TabOK T) (h : ∀ (K n al : Int) (l : List Bool) (r : AV × Hp), (c76t K n al l).val = some r → evBody T 76 [vi n, fC K l, iC al] [] = some r) : ∀ args H v H', (c76 args H).val = some (v, H') → CallOK T 76 args H v H' := by
  intro args H v H' hv
  unfold c76 at hv
  split at hv
  · exact evBody_sound hT (h _ _ _ _ _ hv)
  · cases hv
noncomputable def T6 : Tab := (T5.addCall 61 c61).addCall 76 c76
theorem nl60_61 (again : Ag) (J : Int) (l : List Bool) (q i : Int) (out : List ByteArray) (ty : TypeId) : lpStep T6 60 3 0 (lpc T6 60 3) again [.fn (.func 61) [] [fC J l], osW 0 out.length, vi q, vi i] [some (rowS out ty)] = (bif decide (i < q) then bif decide (l.length = 32) && decide (0 ≤ i) && decide (i < 32) && decide (1 ≤ J) && decide (J ≤ 5) then bif (Rgg.miss J l i.toNat).isEmpty then bif decide (0 ≤ i) && decide (i < 32) then bif room (out.length + 1) 16 then again [.fn (Go.Fn.func 61) [] [.pt [.pt [vi J, .run .bool l] (some 89) 0 0 0] (some 68) 0 0 0], osW 0 (out.length + 1), vi q, vi (IntKind.i64.wrap (i + 1))] [some ⟨[.run .str (out ++ [Rgg.word i.toNat])], false, 9, false, false, none⟩] else none else none else again [.fn (Go.Fn.func 61) [] [.pt [.pt [vi J, .run .bool l] (some 89) 0 0 0] (some 68) 0 0 0], osW 0 out.length, vi q, vi (IntKind.i64.wrap (i + 1))] [some { c := [.run .str out], vr := false, ty := ty, fz := false, loose := false : Row }] else none else some (.ext 0, [.fn (Go.Fn.func 61) [] [.pt [.pt [vi J, .run .bool l] (some 89) 0 0 0] (some 68) 0 0 0], osW 0 out.length, vi q, vi i], [some { c := [.run .str out], vr := false, ty := ty, fz := false, loose := false : Row }])) := by kernel_rfl
def l60_3x61t (J : Int) (l : List Bool) (q : Int) : Tree (Out × List AV × Hp) := .br (fam l && decide (1 ≤ J) && decide (J ≤ 5) && decide (0 ≤ q) && decide (q ≤ 32)) (.leaf (.ext 0, [.fn (.func 61) [] [fC J l], osW 0 (Rgg.upTo (fun n => (Rgg.miss J l n).isEmpty) q.toNat).length, vi q, vi q], [some (rS (Rgg.upTo (fun n => (Rgg.miss J l n).isEmpty) q.toNat))])) .fail
def l60_3x61 (base : Nat) (kv : List AV) (H : Hp) : Tree (Out × List AV × Hp) := match Nat.beq base 0, kv, H with
  | true, [.fn (.func 61) [] [(.pt [.pt [.sc (.int .i64 J), .run .bool l] (some 89) 0 0 0] (some 68) 0 0 0)], (.os 0 0 0 0 true false true), (.sc (.int .i64 q)), (.sc (.int .i64 0))], [some ⟨[.run .str []], false, 0, false, false, none⟩] => l60_3x61t J l q
  | _, _, _ => .fail
theorem l60_3x61_ok {T : Tab} (hT : TabOK T) (hlo : loopOf T.fn 60 3 = some (lpc T 60 3)) (h : ∀ (J : Int) (l : List Bool) (q : Int) (r : Out × List AV × Hp), (l60_3x61t J l q).val = some r → ∃ mm, lpRun T 60 3 0 (lpc T 60 3) mm [.fn (.func 61) [] [fC J l], osW 0 0, vi q, vi 0] [some (rowS [] 0)] = some r) : ∀ base kv H o kv' H', (l60_3x61 base kv H).val = some (o, kv', H') → LoopOK T 60 3 base kv H o kv' H' := by
  intro base kv H o kv' H' hv
  unfold l60_3x61 at hv
  split at hv
  · rename_i hb
    obtain rfl := Nat.eq_of_beq_eq_true hb
    exact loop_ok hT hlo (h _ _ _ _ hv)
  · cases hv
theorem nl60_76 (again : Ag) (J al : Int) (l : List Bool) (q i : Int) (out : List ByteArray) (ty : TypeId) : lpStep T6 60 3 0 (lpc T6 60 3) again [.fn (.func 76) [] [fC J l, iC al], osW 0 out.length, vi q, vi i] [some (rowS out ty)] = (bif decide (i < q) then bif decide (l.length = 32) && decide (0 ≤ i) && decide (i < 32) && decide (1 ≤ J) && decide (J ≤ 5) && decide (0 ≤ al) && decide (al < 32) then bif !(Rgg.miss J l (Rgg.dif al.toNat i.toNat)).isEmpty then bif decide (0 ≤ i) && decide (i < 32) then bif room (out.length + 1) 16 then again [.fn (Go.Fn.func 76) [] [.pt [.pt [vi J, .run .bool l] (some 89) 0 0 0] (some 68) 0 0 0, .pt [vi al] (some 3) 0 0 0], osW 0 (out.length + 1), vi q, vi (IntKind.i64.wrap (i + 1))] [some ⟨[.run .str (out ++ [Rgg.word i.toNat])], false, 9, false, false, none⟩] else none else none else again [.fn (Go.Fn.func 76) [] [.pt [.pt [vi J, .run .bool l] (some 89) 0 0 0] (some 68) 0 0 0, .pt [vi al] (some 3) 0 0 0], osW 0 out.length, vi q, vi (IntKind.i64.wrap (i + 1))] [some { c := [.run .str out], vr := false, ty := ty, fz := false, loose := false : Row }] else none else some (.ext 0, [.fn (Go.Fn.func 76) [] [.pt [.pt [vi J, .run .bool l] (some 89) 0 0 0] (some 68) 0 0 0, .pt [vi al] (some 3) 0 0 0], osW 0 out.length, vi q, vi i], [some { c := [.run .str out], vr := false, ty := ty, fz := false, loose := false : Row }])) := by kernel_rfl
def l60_3x76t (J al : Int) (l : List Bool) (q : Int) : Tree (Out × List AV × Hp) := .br (fam l && decide (1 ≤ J) && decide (J ≤ 5) && decide (0 ≤ al) && decide (al < 32) && decide (0 ≤ q) && decide (q ≤ 32)) (.leaf (.ext 0, [.fn (.func 76) [] [fC J l, iC al], osW 0 (Rgg.upTo (fun n => !(Rgg.miss J l (Rgg.dif al.toNat n)).isEmpty) q.toNat).length, vi q, vi q], [some (rS (Rgg.upTo (fun n => !(Rgg.miss J l (Rgg.dif al.toNat n)).isEmpty) q.toNat))])) .fail
def l60_3x76 (base : Nat) (kv : List AV) (H : Hp) : Tree (Out × List AV × Hp) := match Nat.beq base 0, kv, H with
  | true, [.fn (.func 76) [] [(.pt [.pt [.sc (.int .i64 J), .run .bool l] (some 89) 0 0 0] (some 68) 0 0 0), (.pt [.sc (.int .i64 al)] (some 3) 0 0 0)], (.os 0 0 0 0 true false true), (.sc (.int .i64 q)), (.sc (.int .i64 0))], [some ⟨[.run .str []], false, 0, false, false, none⟩] => l60_3x76t J al l q
  | _, _, _ => .fail
theorem l60_3x76_ok {T : Tab} (hT : TabOK T) (hlo : loopOf T.fn 60 3 = some (lpc T 60 3)) (h : ∀ (J al : Int) (l : List Bool) (q : Int) (r : Out × List AV × Hp), (l60_3x76t J al l q).val = some r → ∃ mm, lpRun T 60 3 0 (lpc T 60 3) mm [.fn (.func 76) [] [fC J l, iC al], osW 0 0, vi q, vi 0] [some (rowS [] 0)] = some r) : ∀ base kv H o kv' H', (l60_3x76 base kv H).val = some (o, kv', H') → LoopOK T 60 3 base kv H o kv' H' := by
  intro base kv H o kv' H' hv
  unfold l60_3x76 at hv
  split at hv
  · rename_i hb
    obtain rfl := Nat.eq_of_beq_eq_true hb
    exact loop_ok hT hlo (h _ _ _ _ _ hv)
  · cases hv
def l60_3b (base : Nat) (kv : List AV) (H : Hp) : Tree (Out × List AV × Hp) := match kv with
  | .fn (.func 61) _ _ :: _ => l60_3x61 base kv H
  | .fn (.func 76) _ _ :: _ => l60_3x76 base kv H
  | _ => .fail
noncomputable def T7 : Tab := T6.addLoop 60 3 l60_3b
theorem nf60_61 (J : Int) (l : List Bool) (N : Int) : evBody T7 60 [vi N, .fn (.func 61) [] [fC J l]] [] = (bif decide (0 ≤ N) then bif decide (l.length = 32) && decide (1 ≤ J) && decide (J ≤ 5) && decide (0 ≤ IntKind.i64.wrap (1 * 2 ^ Min.min N.toNat 64)) && decide (IntKind.i64.wrap (1 * 2 ^ Min.min N.toNat 64) ≤ 32) then bif decide ((Rgg.upTo (fun n => (Rgg.miss J l n).isEmpty) (IntKind.i64.wrap (1 * 2 ^ Min.min N.toNat 64)).toNat).length = (Rgg.upTo (fun n => (Rgg.miss J l n).isEmpty) (IntKind.i64.wrap (1 * 2 ^ Min.min N.toNat 64)).toNat).length) && sm (Rgg.upTo (fun n => (Rgg.miss J l n).isEmpty) (IntKind.i64.wrap (1 * 2 ^ Min.min N.toNat 64)).toNat) && decide (Rgg.tyS (Rgg.upTo (fun n => (Rgg.miss J l n).isEmpty) (IntKind.i64.wrap (1 * 2 ^ Min.min N.toNat 64)).toNat) = Rgg.tyS (Rgg.upTo (fun n => (Rgg.miss J l n).isEmpty) (IntKind.i64.wrap (1 * 2 ^ Min.min N.toNat 64)).toNat)) then some (.os 0 0 0 (Rgg.upTo (fun n => (Rgg.miss J l n).isEmpty) (IntKind.i64.wrap (1 * 2 ^ Min.min N.toNat 64)).toNat).length true false true, [some ⟨[.run .str (srtS (Rgg.upTo (fun n => (Rgg.miss J l n).isEmpty) (IntKind.i64.wrap (1 * 2 ^ Min.min N.toNat 64)).toNat))], false, Rgg.tyS (srtS (Rgg.upTo (fun n => (Rgg.miss J l n).isEmpty) (IntKind.i64.wrap (1 * 2 ^ Min.min N.toNat 64)).toNat)), false, false, none⟩]) else none else none else none) := by kernel_rfl
def c60x61t (J : Int) (l : List Bool) (N : Int) : Tree (AV × Hp) := .br (fam l && decide (1 ≤ J) && decide (J ≤ 5) && decide (1 ≤ N) && decide (N ≤ 5)) (.leaf (osW 0 (Rgg.wrt N (fun n => (Rgg.miss J l n).isEmpty)).length, [some (rS (Rgg.wrt N (fun n => (Rgg.miss J l n).isEmpty)))])) .fail
def c60x61 (args : List AV) (H : Hp) : Tree (AV × Hp) := match args, H with
  | [(.sc (.int .i64 N)), .fn (.func 61) [] [(.pt [.pt [.sc (.int .i64 J), .run .bool l] (some 89) 0 0 0] (some 68) 0 0 0)]], [] => c60x61t J l N
  | _, _ => .fail
theorem c60x61_ok {T : Tab} (hT : TabOK T) (h : ∀ (J : Int) (l : List Bool) (N : Int) (r : AV × Hp), (c60x61t J l N).val = some r → evBody T 60 [vi N, .fn (.func 61) [] [fC J l]] [] = some r) : ∀ args H v H', (c60x61 args H).val = some (v, H') → CallOK T 60 args H v H' := by
  intro args H v H' hv
  unfold c60x61 at hv
  split at hv
  · exact evBody_sound hT (h _ _ _ _ hv)
  · cases hv
theorem nf60_76 (J al : Int) (l : List Bool) (N : Int) : evBody T7 60 [vi N, .fn (.func 76) [] [fC J l, iC al]] [] = (bif decide (0 ≤ N) then bif decide (l.length = 32) && decide (1 ≤ J) && decide (J ≤ 5) && decide (0 ≤ al) && decide (al < 32) && decide (0 ≤ IntKind.i64.wrap (1 * 2 ^ Min.min N.toNat 64)) && decide (IntKind.i64.wrap (1 * 2 ^ Min.min N.toNat 64) ≤ 32) then bif decide ((Rgg.upTo (fun n => !(Rgg.miss J l (Rgg.dif al.toNat n)).isEmpty) (IntKind.i64.wrap (1 * 2 ^ Min.min N.toNat 64)).toNat).length = (Rgg.upTo (fun n => !(Rgg.miss J l (Rgg.dif al.toNat n)).isEmpty) (IntKind.i64.wrap (1 * 2 ^ Min.min N.toNat 64)).toNat).length) && sm (Rgg.upTo (fun n => !(Rgg.miss J l (Rgg.dif al.toNat n)).isEmpty) (IntKind.i64.wrap (1 * 2 ^ Min.min N.toNat 64)).toNat) && decide (Rgg.tyS (Rgg.upTo (fun n => !(Rgg.miss J l (Rgg.dif al.toNat n)).isEmpty) (IntKind.i64.wrap (1 * 2 ^ Min.min N.toNat 64)).toNat) = Rgg.tyS (Rgg.upTo (fun n => !(Rgg.miss J l (Rgg.dif al.toNat n)).isEmpty) (IntKind.i64.wrap (1 * 2 ^ Min.min N.toNat 64)).toNat)) then some (.os 0 0 0 (Rgg.upTo (fun n => !(Rgg.miss J l (Rgg.dif al.toNat n)).isEmpty) (IntKind.i64.wrap (1 * 2 ^ Min.min N.toNat 64)).toNat).length true false true, [some ⟨[.run .str (srtS (Rgg.upTo (fun n => !(Rgg.miss J l (Rgg.dif al.toNat n)).isEmpty) (IntKind.i64.wrap (1 * 2 ^ Min.min N.toNat 64)).toNat))], false, Rgg.tyS (srtS (Rgg.upTo (fun n => !(Rgg.miss J l (Rgg.dif al.toNat n)).isEmpty) (IntKind.i64.wrap (1 * 2 ^ Min.min N.toNat 64)).toNat)), false, false, none⟩]) else none else none else none) := by kernel_rfl
def c60x76t (J al : Int) (l : List Bool) (N : Int) : Tree (AV × Hp) := .br (fam l && decide (1 ≤ J) && decide (J ≤ 5) && decide (0 ≤ al) && decide (al < 32) && decide (1 ≤ N) && decide (N ≤ 5)) (.leaf (osW 0 (Rgg.wrt N (fun n => !(Rgg.miss J l (Rgg.dif al.toNat n)).isEmpty)).length, [some (rS (Rgg.wrt N (fun n => !(Rgg.miss J l (Rgg.dif al.toNat n)).isEmpty)))])) .fail
def c60x76 (args : List AV) (H : Hp) : Tree (AV × Hp) := match args, H with
  | [(.sc (.int .i64 N)), .fn (.func 76) [] [(.pt [.pt [.sc (.int .i64 J), .run .bool l] (some 89) 0 0 0] (some 68) 0 0 0), (.pt [.sc (.int .i64 al)] (some 3) 0 0 0)]], [] => c60x76t J al l N
  | _, _ => .fail
theorem c60x76_ok {T : Tab} (hT : TabOK T) (h : ∀ (J al : Int) (l : List Bool) (N : Int) (r : AV × Hp), (c60x76t J al l N).val = some r → evBody T 60 [vi N, .fn (.func 76) [] [fC J l, iC al]] [] = some r) : ∀ args H v H', (c60x76 args H).val = some (v, H') → CallOK T 60 args H v H' := by
  intro args H v H' hv
  unfold c60x76 at hv
  split at hv
  · exact evBody_sound hT (h _ _ _ _ _ hv)
  · cases hv
def c60b (args : List AV) (H : Hp) : Tree (AV × Hp) := match args with
  | _ :: .fn (.func 61) _ _ :: _ => c60x61 args H
  | _ :: .fn (.func 76) _ _ :: _ => c60x76 args H
  | _ => c60 args H
noncomputable def T8 : Tab := T6.addCall 60 c60b
end Go.Ev.Rag
namespace Go.Ev.Rag
open Go Go.Proofs
set_option linter.unusedVariables false
def lay190Ren : Go.Shelf.Ren := { f := fun x => match x with | 190 => 84 | 125 => 103 | 258 => 102 | 128 => 121 | 129 => 122 | 302 => 112 | 303 => 113 | 304 => 114 | 305 => 115 | 306 => 116 | 307 => 117 | 308 => 118 | 309 => 119 | 310 => 120 | 333 => 129 | 329 => 130 | 330 => 131 | 334 => 132 | 335 => 133 | 336 => 134 | 344 => 138 | n => n, t := fun x => match x with | 31 => 22 | 9 => 9 | 3 => 3 | 46 => 63 | 0 => 0 | 51 => 38 | 53 => 94 | 4 => 4 | 183 => 122 | 182 => 121 | 131 => 127 | 5 => 5 | 218 => 136 | 222 => 140 | 228 => 151 | 229 => 152 | n => n, g := fun x => x }
theorem lay190 : Go.Proofs.Lays.n190 Tryd.prog lay190Ren where
  mixed := by kernel_rfl
  f125 := Tryd.func103.trans (congrArg some (by kernel_rfl))
  f128 := Tryd.func121.trans (congrArg some (by kernel_rfl))
  f129 := Tryd.func122.trans (congrArg some (by kernel_rfl))
  f190 := Tryd.func84.trans (congrArg some (by kernel_rfl))
  f258 := Tryd.func102.trans (congrArg some (by kernel_rfl))
  f302 := Tryd.func112.trans (congrArg some (by kernel_rfl))
  f303 := Tryd.func113.trans (congrArg some (by kernel_rfl))
  f304 := Tryd.func114.trans (congrArg some (by kernel_rfl))
  f305 := Tryd.func115.trans (congrArg some (by kernel_rfl))
  f306 := Tryd.func116.trans (congrArg some (by kernel_rfl))
  f307 := Tryd.func117.trans (congrArg some (by kernel_rfl))
  f308 := Tryd.func118.trans (congrArg some (by kernel_rfl))
  f309 := Tryd.func119.trans (congrArg some (by kernel_rfl))
  f310 := Tryd.func120.trans (congrArg some (by kernel_rfl))
  f329 := Tryd.func130.trans (congrArg some (by kernel_rfl))
  f330 := Tryd.func131.trans (congrArg some (by kernel_rfl))
  f333 := Tryd.func129.trans (congrArg some (by kernel_rfl))
  f334 := Tryd.func132.trans (congrArg some (by kernel_rfl))
  f335 := Tryd.func133.trans (congrArg some (by kernel_rfl))
  f336 := Tryd.func134.trans (congrArg some (by kernel_rfl))
  f344 := Tryd.func138.trans (congrArg some (by kernel_rfl))
  t0 := Tryd.underlying0
  a0 := Tryd.isAgg0
  z0 := Tryd.sizeOf0
  v0 := Tryd.zeroValue0
  t3 := Tryd.underlying3
  a3 := Tryd.isAgg3
  z3 := Tryd.sizeOf3
  v3 := Tryd.zeroValue3
  t4 := Tryd.underlying4
  a4 := Tryd.isAgg4
  z4 := Tryd.sizeOf4
  v4 := Tryd.zeroValue4
  t5 := Tryd.underlying5
  a5 := Tryd.isAgg5
  z5 := Tryd.sizeOf5
  v5 := Tryd.zeroValue5
  t9 := Tryd.underlying9
  a9 := Tryd.isAgg9
  z9 := Tryd.sizeOf9
  v9 := Tryd.zeroValue9
  t31 := Tryd.underlying22
  a31 := Tryd.isAgg22
  z31 := Tryd.sizeOf22
  v31 := Tryd.zeroValue22
  t46 := Tryd.underlying63
  a46 := Tryd.isAgg63
  z46 := Tryd.sizeOf63
  v46 := Tryd.zeroValue63
  t51 := Tryd.underlying38
  a51 := Tryd.isAgg38
  z51 := Tryd.sizeOf38
  v51 := Tryd.zeroValue38
  t53 := Tryd.underlying94
  a53 := Tryd.isAgg94
  z53 := Tryd.sizeOf94
  v53 := Tryd.zeroValue94
  t131 := Tryd.underlying127
  a131 := Tryd.isAgg127
  z131 := Tryd.sizeOf127
  v131 := Tryd.zeroValue127
  t182 := Tryd.underlying121
  a182 := Tryd.isAgg121
  z182 := Tryd.sizeOf121
  v182 := Tryd.zeroValue121
  t183 := Tryd.underlying122
  a183 := Tryd.isAgg122
  z183 := Tryd.sizeOf122
  v183 := Tryd.zeroValue122
  t218 := Tryd.underlying136
  a218 := Tryd.isAgg136
  z218 := Tryd.sizeOf136
  v218 := Tryd.zeroValue136
  t222 := Tryd.underlying140
  a222 := Tryd.isAgg140
  z222 := Tryd.sizeOf140
  v222 := Tryd.zeroValue140
  t228 := Tryd.underlying151
  a228 := Tryd.isAgg151
  z228 := Tryd.sizeOf151
  v228 := Tryd.zeroValue151
  t229 := Tryd.underlying152
  a229 := Tryd.isAgg152
  z229 := Tryd.sizeOf152
  v229 := Tryd.zeroValue152
end Go.Ev.Rag
namespace Go.Ev.Rag
open Go Go.Ev Go.Proofs
set_option maxRecDepth 1000000
set_option linter.unusedVariables false
theorem sort_nil : evBody TC 84 [osW 0 0] [some (rowS [] 0)] = some (.tuple [], [some (rowS [] 0)]) := by kernel_rfl
theorem srtS_nil : srtS [] = [] := List.length_eq_zero_iff.1 (by rw [srtS_len]; rfl)
theorem tyS_len {l m : List ByteArray} (h : l.length = m.length) : Rgg.tyS l = Rgg.tyS m := by
  cases l <;> cases m <;> first | rfl | simp at h
theorem c84_run : ∀ args H v H', (c84 args H).val = some (v, H') → CallOK T0 84 args H v H' := by
  intro args H v H' hv
  unfold c84 at hv
  split at hv
  · rename_i k l ty
    obtain ⟨hg, hv2⟩ := guard_val hv
    simp only [Bool.and_eq_true, decide_eq_true_eq] at hg
    obtain ⟨⟨rfl, hsm⟩, rfl⟩ := hg
    cases leaf_val hv2
    by_cases hne : l = []
    · subst hne
      refine CallOK.tab ?_ ?_ (evBody_sound TC_ok (by rw [srtS_nil]; exact sort_nil)) <;> rfl
    · have h := sortS_ok (T := T0) (f := 84) ⟨_, _, Tryd.func84, rfl, rfl⟩ (fun blk off cap zs w hH hb hz => Any.slices_Sort_string lay190 blk off cap zs w hH hb hz) (ty := Rgg.tyS l) (tight := false) (full := true) hne (sm_le hsm)
      rw [show rS (srtS l) = rowS (srtS l) (Rgg.tyS l) by unfold rS; rw [tyS_len (srtS_len l)]]
      exact h
  · cases hv
end Go.Ev.Rag
namespace Rgg
open Go
theorem and64 : ∀ n, n < 32 → ∀ s, s < 32 → IntKind.i64.wrap ((BitVec.ofInt 64 (n : Nat) &&& BitVec.ofInt 64 (s : Nat)).toNat : Int) = ((n &&& s : Nat) : Int) := by decide +kernel
theorem dif64 : ∀ n, n < 32 → ∀ s, s < 32 → IntKind.i64.wrap ((BitVec.ofInt 64 (n : Nat) &&& ~~~BitVec.ofInt 64 (s : Nat)).toNat : Int) = ((n &&& (31 ^^^ s) : Nat) : Int) := by decide +kernel
theorem and_lt : ∀ n, n < 32 → ∀ s, s < 32 → n &&& s < 32 := by decide +kernel
theorem dif_lt : ∀ n, n < 32 → ∀ s, s < 32 → n &&& (31 ^^^ s) < 32 := by decide +kernel
theorem pow64 (N : Int) (h1 : 1 ≤ N) (h2 : N ≤ 5) : IntKind.i64.wrap (1 * 2 ^ min N.toNat 64) = ((2 ^ N.toNat : Nat) : Int) ∧ 2 ^ N.toNat ≤ 32 := by
  have : N = 1 ∨ N = 2 ∨ N = 3 ∨ N = 4 ∨ N = 5 := by omega
  rcases this with rfl | rfl | rfl | rfl | rfl <;> exact ⟨by decide, by decide⟩
theorem upTo_succ (p : Nat → Bool) (i : Nat) : upTo p (i + 1) = bif p i then upTo p i ++ [word i] else upTo p i := by
  unfold upTo
  rw [List.range_succ, List.filter_append, List.map_append]
  cases h : p i with
  | true => simp [h]
  | false => simp [h]
theorem upTo_len (p : Nat → Bool) (i : Nat) : (upTo p i).length ≤ i := by
  unfold upTo
  rw [List.length_map]
  exact Nat.le_trans (List.length_filter_le _ _) (by simp)
theorem tyS_snoc (l : List ByteArray) (x : ByteArray) : tyS (l ++ [x]) = 9 := by cases l <;> rfl
theorem trF_succ (l : List Bool) (s i : Nat) : trF l s (i + 1) = (trF l s i).set (i &&& s) (at_ (trF l s i) (i &&& s) || at_ l i) := by
  unfold trF
  rw [List.range_succ, List.foldl_append]
  rfl
theorem trF_len (l : List Bool) (s : Nat) : ∀ i, (trF l s i).length = 32
  | 0 => List.length_replicate
  | i + 1 => by rw [trF_succ, List.length_set, trF_len l s i]
theorem tr_len (l : List Bool) (s : Nat) : (tr l s).length = 32 := trF_len l s 32
theorem at_get {l : List Bool} {i : Nat} (h : i < l.length) : l[i]? = some (at_ l i) := by
  unfold at_
  rw [List.getD_eq_getElem?_getD, List.getElem?_eq_getElem h]; rfl
end Rgg
namespace Go.Ev.Rag
open Go Go.Ev Go.Proofs
set_option maxRecDepth 1000000
set_option linter.unusedVariables false
set_option linter.unusedSimpArgs false
theorem c97_run : ∀ args H v H', (c97 args H).val = some (v, H') → CallOK T0 97 args H v H' := fun a H v H' hv => by
  refine CallOK.tab ?_ ?_ (c97_ok TC_ok (by
    intro n r hv
    obtain ⟨hl, hv2⟩ := guard_val hv
    simp only [Bool.and_eq_true, decide_eq_true_eq] at hl
    obtain ⟨n, rfl⟩ := Int.eq_ofNat_of_zero_le hl.1
    rw [leaf_val hv2, toNat_cast]
    exact w97 n (by omega)) a H v H' hv) <;> rfl
theorem c72_run : ∀ args H v H', (c72 args H).val = some (v, H') → CallOK T0 72 args H v H' := by
  intro args H v H' hv
  unfold c72 at hv
  split at hv
  · rename_i K s
    obtain ⟨hg, hv2⟩ := guard_val hv
    simp only [Bool.and_eq_true, decide_eq_true_eq] at hg
    cases leaf_val hv2
    refine ⟨⟨_, _, Tryd.func72, rfl, rfl⟩, Nat.le_refl _, fun S w L us hst hr => ?_⟩
    simp only [RelL, Rel] at hr
    obtain ⟨u, rest, rfl, rfl, v, rest2, rfl, rfl, rfl⟩ := hr
    refine (RgRd.read_walk K hg s w).mono ?_
    rintro e w' ⟨rfl, pos, rfl⟩
    have hgr : w.iter s pos = Go.Sort.grow w #[.stringIter s pos] := Go.Sort.alloc_eq_grow w _
    rw [hgr]
    obtain ⟨g1, g2⟩ := hst.growW #[.stringIter s pos]
    refine ⟨_, S, L, rfl, ?_, g1, g2⟩
    simp only [Rel, RelL]
    exact ⟨_, rfl, _, _, rfl, rfl, _, _, rfl, rfl, rfl⟩
  · cases hv
theorem T1_ok : TabOK T1 := by
  have h := T0_ok
  have h := h.addCall (g := 97) (r := c97) fun a H v H' hv => by refine CallOK.tab ?_ ?_ (c97_run a H v H' hv) <;> rfl
  have h := h.addCall (g := 72) (r := c72) fun a H v H' hv => by refine CallOK.tab ?_ ?_ (c72_run a H v H' hv) <;> rfl
  exact h
theorem fam_len {l : List Bool} (h : fam l = true) : l.length = 32 := of_decide_eq_true h
theorem c101_run : ∀ args H v H', (c101 args H).val = some (v, H') → CallOK T1 101 args H v H' := c101_ok T1_ok (by
  intro K n l r hv
  obtain ⟨hl, hv2⟩ := guard_val hv
  simp only [Bool.and_eq_true, decide_eq_true_eq] at hl
  have hf := fam_len hl.1.1
  rw [nf101, leaf_val hv2, decide_eq_true hl.1.2, Rgg.at_get (show n.toNat < l.length by omega)]
  rw [show decide (n < 32) = true from decide_eq_true (by omega)]
  rfl)
theorem c86_run : ∀ args H v H', (c86 args H).val = some (v, H') → CallOK T1 86 args H v H' := c86_ok T1_ok (by
  intro K n l r hv
  obtain ⟨hl, hv2⟩ := guard_val hv
  simp only [Bool.and_eq_true, decide_eq_true_eq] at hl
  have hf := fam_len hl.1.1
  rw [nf86, leaf_val hv2, decide_eq_true hl.1.2, Rgg.at_get (show n.toNat < l.length by omega)]
  rw [show decide (n < 32) = true from decide_eq_true (by omega)]
  rfl)
theorem c85_run : ∀ args H v H', (c85 args H).val = some (v, H') → CallOK T1 85 args H v H' := c85_ok T1_ok (by
  intro n l r hv
  obtain ⟨hl, hv2⟩ := guard_val hv
  simp only [Bool.and_eq_true, decide_eq_true_eq] at hl
  have hf := fam_len hl.1.1
  rw [nf85, leaf_val hv2, decide_eq_true hl.1.2, Rgg.at_get (show n.toNat < l.length by omega)]
  rw [show decide (n < 32) = true from decide_eq_true (by omega)]
  rfl)
theorem c98_run : ∀ args H v H', (c98 args H).val = some (v, H') → CallOK T1 98 args H v H' := c98_ok T1_ok (by
  intro n s l r hv
  obtain ⟨hl, hv2⟩ := guard_val hv
  simp only [Bool.and_eq_true, decide_eq_true_eq] at hl
  have hf := fam_len hl.1.1.1.1
  obtain ⟨n, rfl⟩ := Int.eq_ofNat_of_zero_le hl.1.1.1.2
  obtain ⟨s, rfl⟩ := Int.eq_ofNat_of_zero_le hl.1.2
  rw [nf98, leaf_val hv2, Rgg.dif64 n (by omega) s (by omega), dec_ge, toNat_cast, toNat_cast, Rgg.at_get (show n < l.length by omega)]
  rw [show decide ((n : Int) < 32) = true from decide_eq_true (by omega)]
  unfold Rgg.sub
  rw [show ((((n &&& (31 ^^^ s) : Nat) : Int)) == 0) = (n &&& (31 ^^^ s) == 0) by rw [Bool.eq_iff_iff, beq_iff_eq, beq_iff_eq]; omega]
  cases n &&& (31 ^^^ s) == 0 <;> rfl)
theorem l73_2_run : ∀ base kv H o kv' H', (l73_2 base kv H).val = some (o, kv', H') → LoopOK T1 73 2 base kv H o kv' H' := l73_2_ok T1_ok (by kernel_rfl) (by
  intro s i l o r hv
  obtain ⟨hl, hv2⟩ := guard_val hv
  simp only [Bool.and_eq_true, decide_eq_true_eq] at hl
  obtain ⟨⟨⟨⟨hf, s0⟩, s1⟩, rfl⟩, rfl⟩ := hl
  have hf := fam_len hf
  obtain ⟨s, rfl⟩ := Int.eq_ofNat_of_zero_le s0
  rw [toNat_cast] at hv2
  obtain ⟨mm, hm⟩ := steps_of (T := T1) (fid := 73) (lid := 2) (base := 0) (c := lpc T1 73 2) 32 (fun i => [vi s, ps 0, .agg [.run .bool l] false, vi (i : Nat)]) (fun i => [some ⟨[.run .bool (Rgg.trF l s i)], true, 84, false, false, none⟩])
    (.ext 0, [vi s, ps 0, .agg [.run .bool l] false, vi 32], [some ⟨[.run .bool (Rgg.trF l s 32)], true, 84, false, false, none⟩])
    (fun i hi again => by
      have h1 := Rgg.trF_len l s i
      have h2 := Rgg.and_lt i hi s (by omega)
      have g1 := Rgg.at_get (l := l) (i := i) (by omega)
      have g2 := Rgg.at_get (l := Rgg.trF l s i) (i := i &&& s) (by omega)
      refine (nl73 ..).trans ?_
      rw [Rgg.trF_succ, Rgg.and64 i hi s (by omega), wrap_succ (by omega)]
      simp only [decide_eq_true (show (i : Int) < 32 by omega), decide_eq_true (show (i : Int) < 32 by omega), decide_eq_true (show ((i &&& s : Nat) : Int) < 32 by omega), dec_ge, cond_true, toNat_cast, g1, g2, oM]
      cases Rgg.at_ (Rgg.trF l s i) (i &&& s) with
      | true => rfl
      | false => rfl)
    (fun again => by
      refine (nl73 ..).trans ?_
      rfl)
  exact ⟨mm, hm.trans (by rw [leaf_val hv2]; rfl)⟩)
theorem T2_ok : TabOK T2 := by
  have h := T1_ok
  have h := h.addLoop (g := 73) (lid := 2) (r := l73_2) fun b k H o k' H' hv => by refine LoopOK.tab ?_ ?_ ?_ ?_ (l73_2_run b k H o k' H' hv) <;> rfl
  have h := h.addCall (g := 101) (r := c101) fun a H v H' hv => by refine CallOK.tab ?_ ?_ (c101_run a H v H' hv) <;> rfl
  have h := h.addCall (g := 86) (r := c86) fun a H v H' hv => by refine CallOK.tab ?_ ?_ (c86_run a H v H' hv) <;> rfl
  have h := h.addCall (g := 85) (r := c85) fun a H v H' hv => by refine CallOK.tab ?_ ?_ (c85_run a H v H' hv) <;> rfl
  have h := h.addCall (g := 98) (r := c98) fun a H v H' hv => by refine CallOK.tab ?_ ?_ (c98_run a H v H' hv) <;> rfl
  have h := h.addCall (g := 84) (r := c84) fun a H v H' hv => by refine CallOK.tab ?_ ?_ (c84_run a H v H' hv) <;> rfl
  exact h
theorem c73_run : ∀ args H v H', (c73 args H).val = some (v, H') → CallOK T2 73 args H v H' := c73_ok T2_ok (by
  intro K s l r hv
  obtain ⟨hl, hv2⟩ := guard_val hv
  simp only [Bool.and_eq_true, decide_eq_true_eq] at hl
  have hlen := Rgg.tr_len l s.toNat
  rw [nf73, leaf_val hv2]
  simp only [fam_len hl.1.1, decide_true, decide_eq_true hl.1.2, decide_eq_true hl.2, Bool.and_self, cond_true]
  rw [decide_eq_true (by simp [hlen, ET.size])]
  rfl)
theorem upTo_of {T : Tab} (fnv : AV) (p : Nat → Bool) (q : Nat) (hq : q ≤ 32)
    (h : ∀ (i : Nat) (out : List ByteArray) (ty : TypeId), i < q → out.length ≤ i → ∀ again : Ag, lpStep T 60 3 0 (lpc T 60 3) again [fnv, osW 0 out.length, vi q, vi i] [some (rowS out ty)] = bif p i then again [fnv, osW 0 (out.length + 1), vi q, vi (i + 1 : Nat)] [some (rowS (out ++ [Rgg.word i]) 9)] else again [fnv, osW 0 out.length, vi q, vi (i + 1 : Nat)] [some (rowS out ty)])
    (he : ∀ (out : List ByteArray) (ty : TypeId), ∀ again : Ag, lpStep T 60 3 0 (lpc T 60 3) again [fnv, osW 0 out.length, vi q, vi q] [some (rowS out ty)] = some (.ext 0, [fnv, osW 0 out.length, vi q, vi q], [some (rowS out ty)])) :
    ∃ mm, lpRun T 60 3 0 (lpc T 60 3) mm [fnv, osW 0 0, vi q, vi 0] [some (rowS [] 0)] = some (.ext 0, [fnv, osW 0 (Rgg.upTo p q).length, vi q, vi q], [some (rS (Rgg.upTo p q))]) := by
  obtain ⟨mm, hm⟩ := steps_of (T := T) (fid := 60) (lid := 3) (base := 0) (c := lpc T 60 3) q (fun i => [fnv, osW 0 (Rgg.upTo p i).length, vi q, vi (i : Nat)]) (fun i => [some (rS (Rgg.upTo p i))])
    (.ext 0, [fnv, osW 0 (Rgg.upTo p q).length, vi q, vi q], [some (rS (Rgg.upTo p q))])
    (fun i hi again => by
      rw [h i (Rgg.upTo p i) _ hi (Rgg.upTo_len p i), Rgg.upTo_succ]
      cases p i with
      | true => simp only [cond_true, List.length_append, List.length_singleton, rS, Rgg.tyS_snoc]
      | false => rfl)
    (fun again => he _ _ again)
  exact ⟨mm, hm⟩
theorem l60_3x101_run : ∀ base kv H o kv' H', (l60_3x101 base kv H).val = some (o, kv', H') → LoopOK T2 60 3 base kv H o kv' H' := l60_3x101_ok T2_ok (by kernel_rfl) (by
  intro K l q r hv
  obtain ⟨hl, hv2⟩ := guard_val hv
  simp only [Bool.and_eq_true, decide_eq_true_eq] at hl
  have hf := fam_len hl.1.1
  obtain ⟨q, rfl⟩ := Int.eq_ofNat_of_zero_le hl.1.2
  rw [toNat_cast] at hv2
  obtain ⟨mm, hm⟩ := upTo_of (T := T2) (.fn (.func 101) [] [fC K l]) (fun n => Rgg.at_ l n) q (by omega)
    (fun i out ty hi hlen again => by
      refine (nl60_101 ..).trans ?_
      rw [wrap_succ (by omega), room_ok (by omega) (by omega)]
      simp only [dec_lt hi, dec_ge, decide_eq_true (show (i : Int) < 32 by omega), cond_true, toNat_cast, Bool.and_self, hf, decide_true])
    (fun out ty again => by
      refine (nl60_101 ..).trans ?_
      simp only [dec_ll, cond_false])
  exact ⟨mm, hm.trans (by rw [leaf_val hv2])⟩)
theorem l60_3x86_run : ∀ base kv H o kv' H', (l60_3x86 base kv H).val = some (o, kv', H') → LoopOK T2 60 3 base kv H o kv' H' := l60_3x86_ok T2_ok (by kernel_rfl) (by
  intro K l q r hv
  obtain ⟨hl, hv2⟩ := guard_val hv
  simp only [Bool.and_eq_true, decide_eq_true_eq] at hl
  have hf := fam_len hl.1.1
  obtain ⟨q, rfl⟩ := Int.eq_ofNat_of_zero_le hl.1.2
  rw [toNat_cast] at hv2
  obtain ⟨mm, hm⟩ := upTo_of (T := T2) (.fn (.func 86) [] [fC K l]) (fun n => !Rgg.at_ l n) q (by omega)
    (fun i out ty hi hlen again => by
      refine (nl60_86 ..).trans ?_
      rw [wrap_succ (by omega), room_ok (by omega) (by omega)]
      simp only [dec_lt hi, dec_ge, decide_eq_true (show (i : Int) < 32 by omega), cond_true, toNat_cast, Bool.and_self, hf, decide_true])
    (fun out ty again => by
      refine (nl60_86 ..).trans ?_
      simp only [dec_ll, cond_false])
  exact ⟨mm, hm.trans (by rw [leaf_val hv2])⟩)
theorem l60_3x85_run : ∀ base kv H o kv' H', (l60_3x85 base kv H).val = some (o, kv', H') → LoopOK T2 60 3 base kv H o kv' H' := l60_3x85_ok T2_ok (by kernel_rfl) (by
  intro l q r hv
  obtain ⟨hl, hv2⟩ := guard_val hv
  simp only [Bool.and_eq_true, decide_eq_true_eq] at hl
  have hf := fam_len hl.1.1
  obtain ⟨q, rfl⟩ := Int.eq_ofNat_of_zero_le hl.1.2
  rw [toNat_cast] at hv2
  obtain ⟨mm, hm⟩ := upTo_of (T := T2) (.fn (.func 85) [] [aC l]) (fun n => Rgg.at_ l n) q (by omega)
    (fun i out ty hi hlen again => by
      refine (nl60_85 ..).trans ?_
      rw [wrap_succ (by omega), room_ok (by omega) (by omega)]
      simp only [dec_lt hi, dec_ge, decide_eq_true (show (i : Int) < 32 by omega), cond_true, toNat_cast, Bool.and_self, hf, decide_true])
    (fun out ty again => by
      refine (nl60_85 ..).trans ?_
      simp only [dec_ll, cond_false])
  exact ⟨mm, hm.trans (by rw [leaf_val hv2])⟩)
theorem l60_3x98_run : ∀ base kv H o kv' H', (l60_3x98 base kv H).val = some (o, kv', H') → LoopOK T2 60 3 base kv H o kv' H' := l60_3x98_ok T2_ok (by kernel_rfl) (by
  intro s l q r hv
  obtain ⟨hl, hv2⟩ := guard_val hv
  simp only [Bool.and_eq_true, decide_eq_true_eq] at hl
  have hf := fam_len hl.1.1.1.1
  obtain ⟨q, rfl⟩ := Int.eq_ofNat_of_zero_le hl.1.2
  rw [toNat_cast] at hv2
  obtain ⟨mm, hm⟩ := upTo_of (T := T2) (.fn (.func 98) [] [iC s, aC l]) (fun n => Rgg.sub n s.toNat && !Rgg.at_ l n) q (by omega)
    (fun i out ty hi hlen again => by
      refine (nl60_98 ..).trans ?_
      rw [wrap_succ (by omega), room_ok (by omega) (by omega)]
      simp only [dec_lt hi, dec_ge, decide_eq_true (show (i : Int) < 32 by omega), cond_true, toNat_cast, Bool.and_self, hf, decide_true, decide_eq_true hl.1.1.1.2, decide_eq_true hl.1.1.2])
    (fun out ty again => by
      refine (nl60_98 ..).trans ?_
      simp only [dec_ll, cond_false])
  exact ⟨mm, hm.trans (by rw [leaf_val hv2])⟩)
theorem l60_3_run : ∀ base kv H o kv' H', (l60_3 base kv H).val = some (o, kv', H') → LoopOK T2 60 3 base kv H o kv' H' := by
  intro base kv H o kv' H' hv
  unfold l60_3 at hv
  split at hv
  · exact l60_3x101_run _ _ _ _ _ _ hv
  · exact l60_3x86_run _ _ _ _ _ _ hv
  · exact l60_3x85_run _ _ _ _ _ _ hv
  · exact l60_3x98_run _ _ _ _ _ _ hv
  · cases hv
theorem T3_ok : TabOK T3 := (T2_ok.addCall (g := 73) (r := c73) fun a H v H' hv => by refine CallOK.tab ?_ ?_ (c73_run a H v H' hv) <;> rfl).addLoop fun b k H o k' H' hv => by refine LoopOK.tab ?_ ?_ ?_ ?_ (l60_3_run b k H o k' H' hv) <;> rfl
theorem sm32 {l : List ByteArray} (h : l.length ≤ 32) : sm l = true := decide_eq_true (by omega)
theorem c60x101_run : ∀ args H v H', (c60x101 args H).val = some (v, H') → CallOK T3 60 args H v H' := c60x101_ok T3_ok (by
  intro K l N r hv
  obtain ⟨hl, hv2⟩ := guard_val hv
  simp only [Bool.and_eq_true, decide_eq_true_eq] at hl
  have hf := fam_len hl.1.1
  obtain ⟨p1, p2⟩ := Rgg.pow64 N hl.1.2 hl.2
  refine (nf60_101 ..).trans ?_
  rw [leaf_val hv2, p1, toNat_cast, sm32 (Nat.le_trans (Rgg.upTo_len _ _) p2)]
  simp only [decide_eq_true (show 0 ≤ N by omega), dec_ge, decide_eq_true (show ((2 ^ N.toNat : Nat) : Int) ≤ 32 by omega), decide_true, Bool.and_self, cond_true, hf]
  unfold Rgg.wrt
  rw [srtS_len])
theorem c60x86_run : ∀ args H v H', (c60x86 args H).val = some (v, H') → CallOK T3 60 args H v H' := c60x86_ok T3_ok (by
  intro K l N r hv
  obtain ⟨hl, hv2⟩ := guard_val hv
  simp only [Bool.and_eq_true, decide_eq_true_eq] at hl
  have hf := fam_len hl.1.1
  obtain ⟨p1, p2⟩ := Rgg.pow64 N hl.1.2 hl.2
  refine (nf60_86 ..).trans ?_
  rw [leaf_val hv2, p1, toNat_cast, sm32 (Nat.le_trans (Rgg.upTo_len _ _) p2)]
  simp only [decide_eq_true (show 0 ≤ N by omega), dec_ge, decide_eq_true (show ((2 ^ N.toNat : Nat) : Int) ≤ 32 by omega), decide_true, Bool.and_self, cond_true, hf]
  unfold Rgg.wrt
  rw [srtS_len])
theorem c60x85_run : ∀ args H v H', (c60x85 args H).val = some (v, H') → CallOK T3 60 args H v H' := c60x85_ok T3_ok (by
  intro l N r hv
  obtain ⟨hl, hv2⟩ := guard_val hv
  simp only [Bool.and_eq_true, decide_eq_true_eq] at hl
  have hf := fam_len hl.1.1
  obtain ⟨p1, p2⟩ := Rgg.pow64 N hl.1.2 hl.2
  refine (nf60_85 ..).trans ?_
  rw [leaf_val hv2, p1, toNat_cast, sm32 (Nat.le_trans (Rgg.upTo_len _ _) p2)]
  simp only [decide_eq_true (show 0 ≤ N by omega), dec_ge, decide_eq_true (show ((2 ^ N.toNat : Nat) : Int) ≤ 32 by omega), decide_true, Bool.and_self, cond_true, hf]
  unfold Rgg.wrt
  rw [srtS_len])
theorem c60x98_run : ∀ args H v H', (c60x98 args H).val = some (v, H') → CallOK T3 60 args H v H' := c60x98_ok T3_ok (by
  intro s l N r hv
  obtain ⟨hl, hv2⟩ := guard_val hv
  simp only [Bool.and_eq_true, decide_eq_true_eq] at hl
  have hf := fam_len hl.1.1.1.1
  obtain ⟨p1, p2⟩ := Rgg.pow64 N hl.1.2 hl.2
  refine (nf60_98 ..).trans ?_
  rw [leaf_val hv2, p1, toNat_cast, sm32 (Nat.le_trans (Rgg.upTo_len _ _) p2)]
  simp only [decide_eq_true (show 0 ≤ N by omega), dec_ge, decide_eq_true (show ((2 ^ N.toNat : Nat) : Int) ≤ 32 by omega), decide_true, Bool.and_self, cond_true, hf, decide_eq_true hl.1.1.1.2, decide_eq_true hl.1.1.2]
  unfold Rgg.wrt
  rw [srtS_len])
theorem c60_run : ∀ args H v H', (c60 args H).val = some (v, H') → CallOK T3 60 args H v H' := by
  intro args H v H' hv
  unfold c60 at hv
  split at hv
  · exact c60x101_run _ _ _ _ hv
  · exact c60x86_run _ _ _ _ hv
  · exact c60x85_run _ _ _ _ hv
  · exact c60x98_run _ _ _ _ hv
  · cases hv
theorem T4_ok : TabOK T4 := (T2_ok.addCall (g := 73) (r := c73) fun a H v H' hv => by refine CallOK.tab ?_ ?_ (c73_run a H v H' hv) <;> rfl).addCall fun a H v H' hv => by refine CallOK.tab ?_ ?_ (c60_run a H v H' hv) <;> rfl
theorem c62_run : ∀ args H v H', (c62 args H).val = some (v, H') → CallOK T4 62 args H v H' := c62_ok T4_ok (by
  intro K s l r hv
  obtain ⟨hl, hv2⟩ := guard_val hv
  simp only [Bool.and_eq_true, decide_eq_true_eq] at hl
  have hf := fam_len hl.1.1.1.1
  have hlen := Rgg.tr_len l s.toNat
  refine (nf62 ..).trans ?_
  rw [decide_eq_true (show (List.map _ [AV.run .bool (Rgg.tr l s.toNat)]) = _ by simp [hlen, ET.size])]
  simp only [hf, hlen, decide_true, decide_eq_true hl.1.1.1.2, decide_eq_true hl.1.1.2, decide_eq_true hl.1.2, decide_eq_true hl.2, Bool.and_self, cond_true]
  show (bif (((Rgg.miss K l s.toNat).length : Int) == 0) then _ else bif decide (0 < ((Rgg.miss K l s.toNat).length : Int)) then oM (Rgg.miss K l s.toNat)[0]? _ else none) = _
  unfold c62t at hv
  cases hm : Rgg.miss K l s.toNat with
  | nil =>
    rw [hm] at hv2
    rw [leaf_val hv2]
    rfl
  | cons x m =>
    rw [hm] at hv2
    rw [leaf_val (show (Tree.leaf _).val = some r from hv2)]
    rw [show ((((x :: m).length : Nat) : Int) == 0) = false from beq_eq_false_iff_ne.2 (by simp; omega), decide_eq_true (by simp)]
    rfl)
theorem T5_ok : TabOK T5 := T4_ok.addCall fun a H v H' hv => by refine CallOK.tab ?_ ?_ (c62_run a H v H' hv) <;> rfl
theorem c61_run : ∀ args H v H', (c61 args H).val = some (v, H') → CallOK T5 61 args H v H' := c61_ok T5_ok (by
  intro K n l r hv
  obtain ⟨hl, hv2⟩ := guard_val hv
  simp only [Bool.and_eq_true, decide_eq_true_eq] at hl
  have hf := fam_len hl.1.1.1.1
  rw [nf61, leaf_val hv2]
  simp only [hf, decide_true, decide_eq_true hl.1.1.1.2, decide_eq_true hl.1.1.2, decide_eq_true hl.1.2, decide_eq_true hl.2, Bool.and_self, cond_true]
  cases (Rgg.miss K l n.toNat).isEmpty <;> rfl)
theorem c76_run : ∀ args H v H', (c76 args H).val = some (v, H') → CallOK T5 76 args H v H' := c76_ok T5_ok (by
  intro K n al l r hv
  obtain ⟨hl, hv2⟩ := guard_val hv
  simp only [Bool.and_eq_true, decide_eq_true_eq] at hl
  obtain ⟨⟨⟨⟨⟨⟨hf, n0⟩, n1⟩, k1⟩, k5⟩, a0⟩, a1⟩ := hl
  have hf := fam_len hf
  obtain ⟨n, rfl⟩ := Int.eq_ofNat_of_zero_le n0
  obtain ⟨al, rfl⟩ := Int.eq_ofNat_of_zero_le a0
  have hd := Rgg.dif_lt al (by omega) n (by omega)
  rw [nf76, leaf_val hv2, Rgg.dif64 al (by omega) n (by omega), toNat_cast, toNat_cast, toNat_cast]
  simp only [hf, decide_true, dec_ge, decide_eq_true (show ((al &&& (31 ^^^ n) : Nat) : Int) < 32 by omega), decide_eq_true k1, decide_eq_true k5, Bool.and_self, cond_true]
  unfold Rgg.dif
  cases (Rgg.miss K l (al &&& (31 ^^^ n))).isEmpty <;> rfl)
theorem T6_ok : TabOK T6 := (T5_ok.addCall (g := 61) (r := c61) fun a H v H' hv => by refine CallOK.tab ?_ ?_ (c61_run a H v H' hv) <;> rfl).addCall (g := 76) (r := c76) fun a H v H' hv => by refine CallOK.tab ?_ ?_ (c76_run a H v H' hv) <;> rfl
theorem l60_3x61_run : ∀ base kv H o kv' H', (l60_3x61 base kv H).val = some (o, kv', H') → LoopOK T6 60 3 base kv H o kv' H' := l60_3x61_ok T6_ok (by kernel_rfl) (by
  intro J l q r hv
  obtain ⟨hl, hv2⟩ := guard_val hv
  simp only [Bool.and_eq_true, decide_eq_true_eq] at hl
  have hf := fam_len hl.1.1.1.1
  obtain ⟨q, rfl⟩ := Int.eq_ofNat_of_zero_le hl.1.2
  rw [toNat_cast] at hv2
  obtain ⟨mm, hm⟩ := upTo_of (T := T6) (.fn (.func 61) [] [fC J l]) (fun n => (Rgg.miss J l n).isEmpty) q (by omega)
    (fun i out ty hi hlen again => by
      refine (nl60_61 ..).trans ?_
      rw [wrap_succ (by omega), room_ok (by omega) (by omega)]
      simp only [dec_lt hi, dec_ge, decide_eq_true (show (i : Int) < 32 by omega), cond_true, toNat_cast, Bool.and_self, hf, decide_true, decide_eq_true hl.1.1.1.2, decide_eq_true hl.1.1.2])
    (fun out ty again => by
      refine (nl60_61 ..).trans ?_
      simp only [dec_ll, cond_false])
  exact ⟨mm, hm.trans (by rw [leaf_val hv2])⟩)
theorem l60_3x76_run : ∀ base kv H o kv' H', (l60_3x76 base kv H).val = some (o, kv', H') → LoopOK T6 60 3 base kv H o kv' H' := l60_3x76_ok T6_ok (by kernel_rfl) (by
  intro J al l q r hv
  obtain ⟨hl, hv2⟩ := guard_val hv
  simp only [Bool.and_eq_true, decide_eq_true_eq] at hl
  have hf := fam_len hl.1.1.1.1.1.1
  obtain ⟨q, rfl⟩ := Int.eq_ofNat_of_zero_le hl.1.2
  rw [toNat_cast] at hv2
  obtain ⟨mm, hm⟩ := upTo_of (T := T6) (.fn (.func 76) [] [fC J l, iC al]) (fun n => !(Rgg.miss J l (Rgg.dif al.toNat n)).isEmpty) q (by omega)
    (fun i out ty hi hlen again => by
      refine (nl60_76 ..).trans ?_
      rw [wrap_succ (by omega), room_ok (by omega) (by omega)]
      simp only [dec_lt hi, dec_ge, decide_eq_true (show (i : Int) < 32 by omega), cond_true, toNat_cast, Bool.and_self, hf, decide_true, decide_eq_true hl.1.1.1.1.1.2, decide_eq_true hl.1.1.1.1.2, decide_eq_true hl.1.1.1.2, decide_eq_true hl.1.1.2])
    (fun out ty again => by
      refine (nl60_76 ..).trans ?_
      simp only [dec_ll, cond_false])
  exact ⟨mm, hm.trans (by rw [leaf_val hv2])⟩)
theorem l60_3b_run : ∀ base kv H o kv' H', (l60_3b base kv H).val = some (o, kv', H') → LoopOK T6 60 3 base kv H o kv' H' := by
  intro base kv H o kv' H' hv
  unfold l60_3b at hv
  split at hv
  · exact l60_3x61_run _ _ _ _ _ _ hv
  · exact l60_3x76_run _ _ _ _ _ _ hv
  · cases hv
theorem T7_ok : TabOK T7 := T6_ok.addLoop fun b k H o k' H' hv => by refine LoopOK.tab ?_ ?_ ?_ ?_ (l60_3b_run b k H o k' H' hv) <;> rfl
theorem c60x61_run : ∀ args H v H', (c60x61 args H).val = some (v, H') → CallOK T7 60 args H v H' := c60x61_ok T7_ok (by
  intro J l N r hv
  obtain ⟨hl, hv2⟩ := guard_val hv
  simp only [Bool.and_eq_true, decide_eq_true_eq] at hl
  have hf := fam_len hl.1.1.1.1
  obtain ⟨p1, p2⟩ := Rgg.pow64 N hl.1.2 hl.2
  refine (nf60_61 ..).trans ?_
  rw [leaf_val hv2, p1, toNat_cast, sm32 (Nat.le_trans (Rgg.upTo_len _ _) p2)]
  simp only [decide_eq_true (show 0 ≤ N by omega), dec_ge, decide_eq_true (show ((2 ^ N.toNat : Nat) : Int) ≤ 32 by omega), decide_true, Bool.and_self, cond_true, hf, decide_eq_true hl.1.1.1.2, decide_eq_true hl.1.1.2]
  unfold Rgg.wrt
  rw [srtS_len])
theorem c60x76_run : ∀ args H v H', (c60x76 args H).val = some (v, H') → CallOK T7 60 args H v H' := c60x76_ok T7_ok (by
  intro J al l N r hv
  obtain ⟨hl, hv2⟩ := guard_val hv
  simp only [Bool.and_eq_true, decide_eq_true_eq] at hl
  have hf := fam_len hl.1.1.1.1.1.1
  obtain ⟨p1, p2⟩ := Rgg.pow64 N hl.1.2 hl.2
  refine (nf60_76 ..).trans ?_
  rw [leaf_val hv2, p1, toNat_cast, sm32 (Nat.le_trans (Rgg.upTo_len _ _) p2)]
  simp only [decide_eq_true (show 0 ≤ N by omega), dec_ge, decide_eq_true (show ((2 ^ N.toNat : Nat) : Int) ≤ 32 by omega), decide_true, Bool.and_self, cond_true, hf, decide_eq_true hl.1.1.1.1.1.2, decide_eq_true hl.1.1.1.1.2, decide_eq_true hl.1.1.1.2, decide_eq_true hl.1.1.2]
  unfold Rgg.wrt
  rw [srtS_len])
theorem c60b_run : ∀ args H v H', (c60b args H).val = some (v, H') → CallOK T7 60 args H v H' := by
  intro args H v H' hv
  unfold c60b at hv
  split at hv
  · exact c60x61_run _ _ _ _ hv
  · exact c60x76_run _ _ _ _ hv
  · refine CallOK.tab ?_ ?_ (c60_run _ _ _ _ hv) <;> rfl
theorem T8_ok : TabOK T8 := T6_ok.addCall fun a H v H' hv => by refine CallOK.tab ?_ ?_ (c60b_run a H v H' hv) <;> rfl
end Go.Ev.Rag
