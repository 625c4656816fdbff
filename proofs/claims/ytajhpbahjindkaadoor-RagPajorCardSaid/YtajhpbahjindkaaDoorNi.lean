/- The law RagPajor: tables and normal forms. -/
import Derived.Test.YtajhpbahjindkaaDoorNc
import Derived.Test.YtajhpbahjindkaaDoorRk
import Derived.Test.YtajhpbahjindkaaDoorRo
import Derived.Test.YtajhpbahjindkaaDoorRf
import Derived.Test.YtajhpbahjindkaaDoorRg
set_option linter.unusedVariables false
set_option linter.unusedSimpArgs false
namespace Rgg
open Go
def cu3 (n s r i : Nat) : Bool := (List.range i).all fun p => dif p s != 0 || n.testBit (p ||| r)
def cu2 (n q s i : Nat) : Bool := (List.range i).any fun r => r &&& s == 0 && cu3 n s r q
def cuN (q n : Nat) : Nat := stk n (mk (fun j => decide (j < q) && cu2 n q j q) 32)
theorem cuN_eq (q n : Nat) : cuN q n = mk (fun j => decide (j < q) && cu2 n q j q) 32 := stk_eq ..
end Rgg
namespace Go.Ev.Rag
open Go Go.Ev
set_option maxRecDepth 1000000
set_option maxHeartbeats 0
set_option linter.unusedVariables false
theorem nl56_11 (again : Ag) (K n o s r q i : Int) (a : Bool) : lpStep N0 56 11 0 (lpc N0 56 11) again [vi K, vU n, vU o, vi s, vi r, vb a, vi q, vi s, vi q, vi r, vi q, vi i] [] = (bif decide (i < q) then bif a then bif IntKind.i64.wrap (↑(BitVec.ofInt 64 i &&& ~~~BitVec.ofInt 64 s).toNat : Int) != 0 then again [vi K, .sc (.int .u32 n), .sc (.int .u32 o), vi s, vi r, vb true, vi q, vi s, vi q, vi r, vi q, vi (IntKind.i64.wrap (i + 1))] [] else bif decide (0 ≤ IntKind.i64.wrap (↑(BitVec.ofInt 64 i ||| BitVec.ofInt 64 r).toNat : Int)) then again [vi K, .sc (.int .u32 n), .sc (.int .u32 o), vi s, vi r, .sc (.bool (IntKind.u32.wrap (↑(BitVec.ofInt 32 (n.fdiv (2 ^ Min.min (IntKind.i64.wrap (↑(BitVec.ofInt 64 i ||| BitVec.ofInt 64 r).toNat : Int)).toNat 32)) &&& BitVec.ofInt 32 1).toNat : Int) == 1)), vi q, vi s, vi q, vi r, vi q, vi (IntKind.i64.wrap (i + 1))] [] else none else again [vi K, .sc (.int .u32 n), .sc (.int .u32 o), vi s, vi r, vb false, vi q, vi s, vi q, vi r, vi q, vi (IntKind.i64.wrap (i + 1))] [] else some (.ext 4, [vi K, .sc (.int .u32 n), .sc (.int .u32 o), vi s, vi r, vb a, vi q, vi s, vi q, vi r, vi q, vi i], [])) := by kernel_rfl
def l56_11t (K n o s t q s2 q2 t2 q3 : Int) : Tree (Out × List AV × Hp) := .br (Rgg.in32 n && decide (0 ≤ s) && decide (s < 32) && decide (0 ≤ t) && decide (t < 32) && decide (0 ≤ q) && decide (q ≤ 32) && decide (s2 = s) && decide (q2 = q) && decide (t2 = t) && decide (q3 = q)) (.leaf (.ext 4, [vi K, vU n, vU o, vi s, vi t, vb (Rgg.cu3 n.toNat s.toNat t.toNat q.toNat), vi q, vi s, vi q, vi t, vi q, vi q], [])) .fail
def l56_11 (base : Nat) (kv : List AV) (H : Hp) : Tree (Out × List AV × Hp) := match Nat.beq base 0, kv, H with
  | true, [(.sc (.int .i64 K)), (.sc (.int .u32 n)), (.sc (.int .u32 o)), (.sc (.int .i64 s)), (.sc (.int .i64 t)), (.sc (.bool true)), (.sc (.int .i64 q)), (.sc (.int .i64 s2)), (.sc (.int .i64 q2)), (.sc (.int .i64 t2)), (.sc (.int .i64 q3)), (.sc (.int .i64 0))], [] => l56_11t K n o s t q s2 q2 t2 q3
  | _, _, _ => .fail
theorem l56_11_ok {T : Tab} (hT : TabOK T) (hlo : loopOf T.fn 56 11 = some (lpc T 56 11)) (h : ∀ (K n o s t q s2 q2 t2 q3 : Int) (r : Out × List AV × Hp), (l56_11t K n o s t q s2 q2 t2 q3).val = some r → ∃ mm, lpRun T 56 11 0 (lpc T 56 11) mm [vi K, vU n, vU o, vi s, vi t, vb true, vi q, vi s2, vi q2, vi t2, vi q3, vi 0] [] = some r) : ∀ base kv H o kv' H', (l56_11 base kv H).val = some (o, kv', H') → LoopOK T 56 11 base kv H o kv' H' := by
  intro base kv H o kv' H' hv
  unfold l56_11 at hv
  split at hv
  · rename_i hb
    obtain rfl := Nat.eq_of_beq_eq_true hb
    exact loop_ok hT hlo (h _ _ _ _ _ _ _ _ _ _ _ hv)
  · cases hv
noncomputable def Na1 : Tab := (N0).addLoop 56 11 l56_11
theorem nl56_6 (again : Ag) (K n o s q i : Int) : lpStep Na1 56 6 0 (lpc Na1 56 6) again [vi K, vU n, vU o, vi s, vi q, vi s, vi q, vi i] [] = (bif decide (i < q) then bif IntKind.i64.wrap (↑(BitVec.ofInt 64 i &&& BitVec.ofInt 64 s).toNat : Int) != 0 then again [vi K, .sc (.int .u32 n), .sc (.int .u32 o), vi s, vi q, vi s, vi q, vi (IntKind.i64.wrap (i + 1))] [] else bif decide (0 ≤ K) then bif Rgg.in32 n && decide (0 ≤ s) && decide (s < 32) && decide (0 ≤ i) && decide (i < 32) && decide (0 ≤ q) && decide (q ≤ 32) && decide (s = s) && decide (q = q) && decide (i = i) && decide (IntKind.i64.wrap (1 * 2 ^ Min.min K.toNat 64) = q) then bif Rgg.cu3 n.toNat s.toNat i.toNat q.toNat then bif decide (0 ≤ s) then again [vi K, .sc (.int .u32 n), .sc (.int .u32 (IntKind.u32.wrap (↑(BitVec.ofInt 32 o ||| BitVec.ofInt 32 (IntKind.u32.wrap (1 * 2 ^ Min.min s.toNat 32))).toNat : Int))), vi s, vi q, vi s, vi q, vi (IntKind.i64.wrap (i + 1))] [] else none else again [vi K, .sc (.int .u32 n), .sc (.int .u32 o), vi s, vi q, vi s, vi q, vi (IntKind.i64.wrap (i + 1))] [] else none else none else some (.ext 2, [vi K, .sc (.int .u32 n), .sc (.int .u32 o), vi s, vi q, vi s, vi q, vi i], [])) := by kernel_rfl
def l56_6t (K n o s q s2 q2 : Int) : Tree (Out × List AV × Hp) := .br (decide (1 ≤ K) && decide (K ≤ 5) && Rgg.in32 n && Rgg.in32 o && decide (0 ≤ s) && decide (s < 32) && decide (q = ((2 ^ K.toNat : Nat) : Int)) && decide (s2 = s) && decide (q2 = q)) (.leaf (.ext 2, [vi K, vU n, vU (bif Rgg.cu2 n.toNat q.toNat s.toNat q.toNat then o.toNat ||| 2 ^ s.toNat else o.toNat : Nat), vi s, vi q, vi s, vi q, vi q], [])) .fail
def l56_6 (base : Nat) (kv : List AV) (H : Hp) : Tree (Out × List AV × Hp) := match Nat.beq base 0, kv, H with
  | true, [(.sc (.int .i64 K)), (.sc (.int .u32 n)), (.sc (.int .u32 o)), (.sc (.int .i64 s)), (.sc (.int .i64 q)), (.sc (.int .i64 s2)), (.sc (.int .i64 q2)), (.sc (.int .i64 0))], [] => l56_6t K n o s q s2 q2
  | _, _, _ => .fail
theorem l56_6_ok {T : Tab} (hT : TabOK T) (hlo : loopOf T.fn 56 6 = some (lpc T 56 6)) (h : ∀ (K n o s q s2 q2 : Int) (r : Out × List AV × Hp), (l56_6t K n o s q s2 q2).val = some r → ∃ mm, lpRun T 56 6 0 (lpc T 56 6) mm [vi K, vU n, vU o, vi s, vi q, vi s2, vi q2, vi 0] [] = some r) : ∀ base kv H o kv' H', (l56_6 base kv H).val = some (o, kv', H') → LoopOK T 56 6 base kv H o kv' H' := by
  intro base kv H o kv' H' hv
  unfold l56_6 at hv
  split at hv
  · rename_i hb
    obtain rfl := Nat.eq_of_beq_eq_true hb
    exact loop_ok hT hlo (h _ _ _ _ _ _ _ _ hv)
  · cases hv
noncomputable def Na2 : Tab := (Na1).addLoop 56 6 l56_6
theorem nl56_3 (again : Ag) (K n o q i : Int) : lpStep Na2 56 3 0 (lpc Na2 56 3) again [vi K, vU n, vU o, vi q, vi i] [] = (bif decide (i < q) then bif decide (0 ≤ K) then bif decide (1 ≤ K) && decide (K ≤ 5) && Rgg.in32 n && Rgg.in32 o && decide (0 ≤ i) && decide (i < 32) && decide (q = (↑(2 ^ K.toNat) : Int)) && decide (i = i) && decide (IntKind.i64.wrap (1 * 2 ^ Min.min K.toNat 64) = q) then again [vi K, .sc (.int .u32 n), .sc (.int .u32 (↑(bif Rgg.cu2 n.toNat q.toNat i.toNat q.toNat then o.toNat ||| 2 ^ i.toNat else o.toNat) : Int)), vi q, vi (IntKind.i64.wrap (i + 1))] [] else none else none else some (.ext 0, [vi K, .sc (.int .u32 n), .sc (.int .u32 o), vi q, vi i], [])) := by kernel_rfl
def l56_3t (K n o q : Int) : Tree (Out × List AV × Hp) := .br (decide (1 ≤ K) && decide (K ≤ 5) && Rgg.in32 n && decide (o = 0) && decide (q = ((2 ^ K.toNat : Nat) : Int))) (.leaf (.ext 0, [vi K, vU n, vU (Rgg.cuN q.toNat n.toNat : Nat), vi q, vi q], [])) .fail
def l56_3 (base : Nat) (kv : List AV) (H : Hp) : Tree (Out × List AV × Hp) := match Nat.beq base 0, kv, H with
  | true, [(.sc (.int .i64 K)), (.sc (.int .u32 n)), (.sc (.int .u32 o)), (.sc (.int .i64 q)), (.sc (.int .i64 0))], [] => l56_3t K n o q
  | _, _, _ => .fail
theorem l56_3_ok {T : Tab} (hT : TabOK T) (hlo : loopOf T.fn 56 3 = some (lpc T 56 3)) (h : ∀ (K n o q : Int) (r : Out × List AV × Hp), (l56_3t K n o q).val = some r → ∃ mm, lpRun T 56 3 0 (lpc T 56 3) mm [vi K, vU n, vU o, vi q, vi 0] [] = some r) : ∀ base kv H o kv' H', (l56_3 base kv H).val = some (o, kv', H') → LoopOK T 56 3 base kv H o kv' H' := by
  intro base kv H o kv' H' hv
  unfold l56_3 at hv
  split at hv
  · rename_i hb
    obtain rfl := Nat.eq_of_beq_eq_true hb
    exact loop_ok hT hlo (h _ _ _ _ _ hv)
  · cases hv
noncomputable def Na3 : Tab := (Na2).addLoop 56 3 l56_3
theorem nf56 (K n : Int) : evBody Na3 56 [vi K, vU n] [] = (bif decide (0 ≤ K) then bif decide (1 ≤ K) && decide (K ≤ 5) && Rgg.in32 n && decide (0 = 0) && decide (IntKind.i64.wrap (1 * 2 ^ Min.min K.toNat 64) = (↑(2 ^ K.toNat) : Int)) then some (.sc (.int .u32 (↑(Rgg.cuN (IntKind.i64.wrap (1 * 2 ^ Min.min K.toNat 64)).toNat n.toNat) : Int)), []) else none else none) := by kernel_rfl
def c56t (K n : Int) : Tree (AV × Hp) := .br (decide (1 ≤ K) && decide (K ≤ 5) && Rgg.in32 n) (.leaf (vU (Rgg.cuN (2 ^ K.toNat) n.toNat : Nat), [])) .fail
def c56 (args : List AV) (H : Hp) : Tree (AV × Hp) := match args, H with
  | [(.sc (.int .i64 K)), (.sc (.int .u32 n))], [] => c56t K n
  | _, _ => .fail
theorem c56_ok {T : Tab} (hT : TabOK T) (h : ∀ (K n : Int) (r : AV × Hp), (c56t K n).val = some r → evBody T 56 [vi K, vU n] [] = some r) : ∀ args H v H', (c56 args H).val = some (v, H') → CallOK T 56 args H v H' := by
  intro args H v H' hv
  unfold c56 at hv
  split at hv
  · exact evBody_sound hT (h _ _ _ hv)
  · cases hv
theorem nl88 (again : Ag) (l : List ByteArray) (s : ByteArray) (q i : Int) : lpStep N0 88 2 0 (lpc N0 88 2) again [lS l, vS s, vi 0, vi q, vi i] [] = (bif decide (i < q) then bif decide (0 ≤ i) then bif decide (i < (↑l.length : Int)) then oM l[i.toNat]? fun x => bif s == x then some (.ret, [.sl .str l false, .sc (.string s), vi i, vi q, vi i], []) else again [.sl .str l false, .sc (.string s), vi 0, vi q, vi (IntKind.i64.wrap (i + 1))] [] else none else none else some (.ext 0, [.sl .str l false, .sc (.string s), vi 0, vi q, vi i], [])) := by kernel_rfl
def l88_2t (l : List ByteArray) (s : ByteArray) (q : Int) : Tree (Out × List AV × Hp) := .br (sm l && decide (q = (l.length : Int))) (.br (l.any fun x => s == x) (.leaf (.ret, [lS l, vS s, vi (l.findIdx fun x => s == x), vi l.length, vi (l.findIdx fun x => s == x)], [])) (.leaf (.ext 0, [lS l, vS s, vi 0, vi l.length, vi l.length], []))) .fail
def l88_2 (base : Nat) (kv : List AV) (H : Hp) : Tree (Out × List AV × Hp) := match Nat.beq base 0, kv, H with
  | true, [(.sl .str l false), (.sc (.string s)), (.sc (.int .i64 0)), (.sc (.int .i64 q)), (.sc (.int .i64 0))], [] => l88_2t l s q
  | _, _, _ => .fail
theorem l88_2_ok {T : Tab} (hT : TabOK T) (hlo : loopOf T.fn 88 2 = some (lpc T 88 2)) (h : ∀ (l : List ByteArray) (s : ByteArray) (q : Int) (r : Out × List AV × Hp), (l88_2t l s q).val = some r → ∃ mm, lpRun T 88 2 0 (lpc T 88 2) mm [lS l, vS s, vi 0, vi q, vi 0] [] = some r) : ∀ base kv H o kv' H', (l88_2 base kv H).val = some (o, kv', H') → LoopOK T 88 2 base kv H o kv' H' := by
  intro base kv H o kv' H' hv
  unfold l88_2 at hv
  split at hv
  · rename_i hb
    obtain rfl := Nat.eq_of_beq_eq_true hb
    exact loop_ok hT hlo (h _ _ _ _ hv)
  · cases hv
noncomputable def Na4 : Tab := (N0).addLoop 88 2 l88_2
theorem nf88 (l : List ByteArray) (s : ByteArray) : evBody Na4 88 [lS l, vS s] [] = (bif sm l && decide ((↑l.length : Int) = (↑l.length : Int)) then bif l.any fun x => s == x then some (vi (↑(List.findIdx (fun x => s == x) l) : Int), []) else some (vi (-1), []) else none) := by kernel_rfl
def c88t (l : List ByteArray) (s : ByteArray) : Tree (AV × Hp) := .br (sm l) (.br (l.any fun x => s == x) (.leaf (vi (l.findIdx fun x => s == x), [])) (.leaf (vi (-1), []))) .fail
def c88 (args : List AV) (H : Hp) : Tree (AV × Hp) := match args, H with
  | [(.sl .str l false), (.sc (.string s))], [] => c88t l s
  | _, _ => .fail
theorem c88_ok {T : Tab} (hT : TabOK T) (h : ∀ (l : List ByteArray) (s : ByteArray) (r : AV × Hp), (c88t l s).val = some r → evBody T 88 [lS l, vS s] [] = some r) : ∀ args H v H', (c88 args H).val = some (v, H') → CallOK T 88 args H v H' := by
  intro args H v H' hv
  unfold c88 at hv
  split at hv
  · exact evBody_sound hT (h _ _ _ hv)
  · cases hv
noncomputable def Na5 : Tab := (N0).addCall 88 c88
theorem nf54 (l : List ByteArray) (s : ByteArray) : evBody Na5 54 [lS l, vS s] [] = (bif sm l then bif l.any fun x => s == x then some (vb true, []) else some (vb false, []) else none) := by kernel_rfl
def c54t (l : List ByteArray) (s : ByteArray) : Tree (AV × Hp) := .br (sm l) (.leaf (vb (l.any fun x => s == x), [])) .fail
def c54 (args : List AV) (H : Hp) : Tree (AV × Hp) := match args, H with
  | [(.sl .str l false), (.sc (.string s))], [] => c54t l s
  | _, _ => .fail
theorem c54_ok {T : Tab} (hT : TabOK T) (h : ∀ (l : List ByteArray) (s : ByteArray) (r : AV × Hp), (c54t l s).val = some r → evBody T 54 [lS l, vS s] [] = some r) : ∀ args H v H', (c54 args H).val = some (v, H') → CallOK T 54 args H v H' := by
  intro args H v H' hv
  unfold c54 at hv
  split at hv
  · exact evBody_sound hT (h _ _ _ hv)
  · cases hv
noncomputable def Na6 : Tab := (((((((((T0).addCall 34 c34).addCall 35 c35).addCall 17 c17).addCall 26 c26).addCall 45 c45).addCall 55 c55).addCall 56 c56).addCall 23 c23).addCall 54 c54
noncomputable def Na7 : Tab := Na6.addCall 16 c16t
theorem nl12_8 (again : Ag) (q i : Int) (l a c : List ByteArray) (t1 t2 t3 : TypeId) : lpStep Na7 12 8 0 (lpc Na7 12 8) again [vb false, osW 0 l.length, osW 1 a.length, osW 2 c.length, osW 2 c.length, vi q, vi i] [some (rowS l t1), some (rowS a t2), some (rowS c t3)] = (bif decide (i < q) then bif decide (0 ≤ i) then bif decide (i < (↑c.length : Int)) then oM c[i.toNat]? fun x => bif sm a then bif !a.any fun x_1 => x == x_1 then some (.ret, [vb false, osW 0 l.length, osW 1 a.length, osW 2 c.length, osW 2 c.length, vi q, vi i], [some ⟨[.run .str l], false, t1, false, false, none⟩, some ⟨[.run .str a], false, t2, false, false, none⟩, some ⟨[.run .str c], false, t3, false, false, none⟩]) else again [vb false, osW 0 l.length, osW 1 a.length, osW 2 c.length, osW 2 c.length, vi q, vi (IntKind.i64.wrap (i + 1))] [some ⟨[.run .str l], false, t1, false, false, none⟩, some ⟨[.run .str a], false, t2, false, false, none⟩, some ⟨[.run .str c], false, t3, false, false, none⟩] else none else none else none else some (.ext 0, [vb false, osW 0 l.length, osW 1 a.length, osW 2 c.length, osW 2 c.length, vi q, vi i], [some { c := [.run .str l], vr := false, ty := t1, fz := false, loose := false : Row }, some { c := [.run .str a], vr := false, ty := t2, fz := false, loose := false : Row }, some { c := [.run .str c], vr := false, ty := t3, fz := false, loose := false : Row }])) := by kernel_rfl
def l12_8t (q : Int) (l a c : List ByteArray) (k1 k2 k3 k4 : Nat) (t1 t2 t3 : TypeId) : Tree (Out × List AV × Hp) := .br (decide (k1 = l.length) && decide (k2 = a.length) && decide (k3 = c.length) && decide (k4 = c.length) && decide (q = (c.length : Int)) && sm a && sm c && c.all fun s => a.any fun x => s == x) (.leaf (.ext 0, [vb false, osW 0 l.length, osW 1 a.length, osW 2 c.length, osW 2 c.length, vi c.length, vi c.length], [some (rowS l t1), some (rowS a t2), some (rowS c t3)])) .fail
def l12_8 (base : Nat) (kv : List AV) (H : Hp) : Tree (Out × List AV × Hp) := match Nat.beq base 0, kv, H with
  | true, [(.sc (.bool false)), (.os 0 0 0 k1 true false true), (.os 1 0 0 k2 true false true), (.os 2 0 0 k3 true false true), (.os 2 0 0 k4 true false true), (.sc (.int .i64 q)), (.sc (.int .i64 0))], [some ⟨[.run .str l], false, t1, false, false, none⟩, some ⟨[.run .str a], false, t2, false, false, none⟩, some ⟨[.run .str c], false, t3, false, false, none⟩] => l12_8t q l a c k1 k2 k3 k4 t1 t2 t3
  | _, _, _ => .fail
theorem l12_8_ok {T : Tab} (hT : TabOK T) (hlo : loopOf T.fn 12 8 = some (lpc T 12 8)) (h : ∀ (q : Int) (l a c : List ByteArray) (k1 k2 k3 k4 : Nat) (t1 t2 t3 : TypeId) (r : Out × List AV × Hp), (l12_8t q l a c k1 k2 k3 k4 t1 t2 t3).val = some r → ∃ mm, lpRun T 12 8 0 (lpc T 12 8) mm [vb false, osW 0 k1, osW 1 k2, osW 2 k3, osW 2 k4, vi q, vi 0] [some (rowS l t1), some (rowS a t2), some (rowS c t3)] = some r) : ∀ base kv H o kv' H', (l12_8 base kv H).val = some (o, kv', H') → LoopOK T 12 8 base kv H o kv' H' := by
  intro base kv H o kv' H' hv
  unfold l12_8 at hv
  split at hv
  · rename_i hb
    obtain rfl := Nat.eq_of_beq_eq_true hb
    exact loop_ok hT hlo (h _ _ _ _ _ _ _ _ _ _ _ _ hv)
  · cases hv
noncomputable def Na8 : Tab := (Na7).addLoop 12 8 l12_8
theorem nf12 (k b : Int) : evBody Na8 12 [pil k b] [] = (bif decide (0 ≤ k) && decide (k < 256) && Rgg.in32 b && decide (5 = 5) then bif Rgg.in32 (↑(Rgg.pB k b) : Int) then bif Rgg.opE (Rgg.pK k) (Rgg.wdL (↑(Rgg.pB k b) : Int).toNat) != 0 then some (vb false, []) else bif Rgg.opE (Rgg.pK k) (Rgg.wdL (↑(Rgg.pB k b) : Int).toNat) != 0 then some (vb false, []) else bif Rgg.opE (Rgg.pK k) (Rgg.wdL (↑(Rgg.pB k b) : Int).toNat) != 0 then some (vb false, []) else bif decide (1 ≤ Rgg.pK k) && decide (Rgg.pK k ≤ 5) && Rgg.in32 (↑(Rgg.pB k b) : Int) then bif Rgg.in32 (↑(Rgg.apQ (2 ^ (Rgg.pK k).toNat) (↑(Rgg.pB k b) : Int).toNat) : Int) then bif sm (Rgg.apL (Rgg.pK k) (Rgg.wdL (↑(Rgg.pB k b) : Int).toNat)) && Rgg.apL (Rgg.pK k) (Rgg.wdL (↑(Rgg.pB k b) : Int).toNat) == Rgg.wdL (↑(Rgg.apQ (2 ^ (Rgg.pK k).toNat) (↑(Rgg.pB k b) : Int).toNat) : Int).toNat then bif decide (1 ≤ Rgg.pK k) && decide (Rgg.pK k ≤ 5) && Rgg.in32 (↑(Rgg.pB k b) : Int) then bif Rgg.in32 (↑(Rgg.cuN (2 ^ (Rgg.pK k).toNat) (↑(Rgg.pB k b) : Int).toNat) : Int) then bif sm (Rgg.cuL (Rgg.pK k) (Rgg.wdL (↑(Rgg.pB k b) : Int).toNat)) && Rgg.cuL (Rgg.pK k) (Rgg.wdL (↑(Rgg.pB k b) : Int).toNat) == Rgg.wdL (↑(Rgg.cuN (2 ^ (Rgg.pK k).toNat) (↑(Rgg.pB k b) : Int).toNat) : Int).toNat then bif decide ((Rgg.wdL (↑(Rgg.pB k b) : Int).toNat).length = (Rgg.wdL (↑(Rgg.pB k b) : Int).toNat).length) && decide ((Rgg.apL (Rgg.pK k) (Rgg.wdL (↑(Rgg.pB k b) : Int).toNat)).length = (Rgg.apL (Rgg.pK k) (Rgg.wdL (↑(Rgg.pB k b) : Int).toNat)).length) && decide ((Rgg.cuL (Rgg.pK k) (Rgg.wdL (↑(Rgg.pB k b) : Int).toNat)).length = (Rgg.cuL (Rgg.pK k) (Rgg.wdL (↑(Rgg.pB k b) : Int).toNat)).length) && decide ((Rgg.cuL (Rgg.pK k) (Rgg.wdL (↑(Rgg.pB k b) : Int).toNat)).length = (Rgg.cuL (Rgg.pK k) (Rgg.wdL (↑(Rgg.pB k b) : Int).toNat)).length) && decide ((↑(Rgg.cuL (Rgg.pK k) (Rgg.wdL (↑(Rgg.pB k b) : Int).toNat)).length : Int) = (↑(Rgg.cuL (Rgg.pK k) (Rgg.wdL (↑(Rgg.pB k b) : Int).toNat)).length : Int)) && sm (Rgg.apL (Rgg.pK k) (Rgg.wdL (↑(Rgg.pB k b) : Int).toNat)) && sm (Rgg.cuL (Rgg.pK k) (Rgg.wdL (↑(Rgg.pB k b) : Int).toNat)) && (Rgg.cuL (Rgg.pK k) (Rgg.wdL (↑(Rgg.pB k b) : Int).toNat)).all fun s => (Rgg.apL (Rgg.pK k) (Rgg.wdL (↑(Rgg.pB k b) : Int).toNat)).any fun x => s == x then bif decide ((↑(Rgg.cuL (Rgg.pK k) (Rgg.wdL (↑(Rgg.pB k b) : Int).toNat)).length : Int) ≤ (↑(Rgg.wdL (↑(Rgg.pB k b) : Int).toNat).length : Int)) then bif decide ((↑(Rgg.wdL (↑(Rgg.pB k b) : Int).toNat).length : Int) ≤ (↑(Rgg.apL (Rgg.pK k) (Rgg.wdL (↑(Rgg.pB k b) : Int).toNat)).length : Int)) then some (vb true, []) else some (vb false, []) else some (vb false, []) else none else none else none else none else none else none else none else none else none) := by kernel_rfl
end Go.Ev.Rag
namespace Rgg
open Go
theorem or64n : ∀ p, p < 32 → ∀ t, t < 32 → IntKind.i64.wrap ((BitVec.ofInt 64 (p : Nat) ||| BitVec.ofInt 64 (t : Nat)).toNat : Int) = ((p ||| t : Nat) : Int) ∧ p ||| t < 32 := by decide +kernel
theorem cu3_succ (n s r i : Nat) : cu3 n s r (i + 1) = (cu3 n s r i && (dif i s != 0 || n.testBit (i ||| r))) := by
  unfold cu3
  rw [List.range_succ, List.all_append, List.all_cons, List.all_nil, Bool.and_true]
theorem cu2_succ (n q s i : Nat) : cu2 n q s (i + 1) = (cu2 n q s i || (i &&& s == 0 && cu3 n s i q)) := by
  unfold cu2
  rw [List.range_succ, List.any_append, List.any_cons, List.any_nil, Bool.or_false]
theorem int_ne0 (x : Nat) : ((x : Int) != 0) = (x != 0) := by rw [Bool.eq_iff_iff, bne_iff_ne, bne_iff_ne]; omega
theorem bit_one (b : Bool) : (((b.toNat : Nat) : Int) == 1) = b := by cases b <;> rfl
end Rgg
namespace Go.Ev.Rag
open Go Go.Ev Go.Proofs
set_option maxRecDepth 1000000
set_option linter.unusedVariables false
set_option linter.unusedSimpArgs false
theorem l56_11_run : ∀ base kv H o kv' H', (l56_11 base kv H).val = some (o, kv', H') → LoopOK N0 56 11 base kv H o kv' H' := l56_11_ok N0_ok (by kernel_rfl) (by
  intro K n o s t q s2 q2 t2 q3 r hv
  obtain ⟨hl, hv2⟩ := guard_val hv
  simp only [Bool.and_eq_true, decide_eq_true_eq] at hl
  obtain ⟨⟨⟨⟨⟨⟨⟨⟨⟨⟨hn, s0⟩, s32⟩, t0⟩, t32⟩, q0⟩, q32⟩, rfl⟩, rfl⟩, rfl⟩, rfl⟩ := hl
  obtain ⟨n, rfl, hn'⟩ := Rgg.in32_nat hn
  obtain ⟨s, rfl⟩ := Int.eq_ofNat_of_zero_le s0
  obtain ⟨t, rfl⟩ := Int.eq_ofNat_of_zero_le t0
  obtain ⟨q, rfl⟩ := Int.eq_ofNat_of_zero_le q0
  rw [toNat_cast, toNat_cast, toNat_cast, toNat_cast] at hv2
  obtain ⟨mm, hm⟩ := steps_of (T := N0) (fid := 56) (lid := 11) (base := 0) (c := lpc N0 56 11) q (fun i => [vi K, vU n, vU o, vi s, vi t, vb (Rgg.cu3 n s t i), vi q, vi s, vi q, vi t, vi q, vi (i : Nat)]) (fun _ => [])
    (.ext 4, [vi K, vU n, vU o, vi s, vi t, vb (Rgg.cu3 n s t q), vi q, vi s, vi q, vi t, vi q, vi q], [])
    (fun i hi again => by
      obtain ⟨o1, o2⟩ := Rgg.or64n i (by omega) t (by omega)
      refine (nl56_11 ..).trans ?_
      rw [Rgg.dif64 i (by omega) s (by omega), o1, toNat_cast, Rgg.bit32 hn' o2, wrap_succ (by omega), Rgg.cu3_succ, Rgg.int_ne0, Rgg.bit_one]
      simp only [dec_lt hi, dec_ge, cond_true]
      rw [show (i &&& (31 ^^^ s) != 0) = (Rgg.dif i s != 0) from rfl]
      cases Rgg.cu3 n s t i <;> cases Rgg.dif i s != 0 <;> rfl)
    (fun again => by
      refine (nl56_11 ..).trans ?_
      simp only [dec_ll, cond_false])
  exact ⟨mm, hm.trans (by rw [leaf_val hv2])⟩)
theorem Na1_ok : TabOK Na1 := N0_ok.addLoop (g := 56) (lid := 11) (r := l56_11) fun b k H o k' H' hv => by refine LoopOK.tab ?_ ?_ ?_ ?_ (l56_11_run b k H o k' H' hv) <;> rfl
theorem or_idem (o s : Nat) : o ||| s ||| s = o ||| s := by rw [Nat.or_assoc, Nat.or_self]
theorem l56_6_run : ∀ base kv H o kv' H', (l56_6 base kv H).val = some (o, kv', H') → LoopOK Na1 56 6 base kv H o kv' H' := l56_6_ok Na1_ok (by kernel_rfl) (by
  intro K n o s q s2 q2 r hv
  obtain ⟨hl, hv2⟩ := guard_val hv
  simp only [Bool.and_eq_true, decide_eq_true_eq] at hl
  obtain ⟨⟨⟨⟨⟨⟨⟨⟨k1, k5⟩, hn⟩, ho⟩, s0⟩, s32⟩, rfl⟩, rfl⟩, rfl⟩ := hl
  obtain ⟨e1, e2⟩ := Rgg.two_k k1 k5
  have hnI := hn
  obtain ⟨n, rfl, hn'⟩ := Rgg.in32_nat hn
  obtain ⟨o, rfl, ho'⟩ := Rgg.in32_nat ho
  obtain ⟨s, rfl⟩ := Int.eq_ofNat_of_zero_le s0
  generalize 2 ^ K.toNat = q at *
  rw [toNat_cast, toNat_cast, toNat_cast, toNat_cast] at hv2
  have hs : s < 32 := by omega
  have hor : o ||| 2 ^ s < 4294967296 := Nat.or_lt_two_pow (n := 32) ho' (Nat.pow_lt_pow_right (by decide) hs)
  obtain ⟨mm, hm⟩ := steps_of (T := Na1) (fid := 56) (lid := 6) (base := 0) (c := lpc Na1 56 6) q (fun i => [vi K, vU n, vU (bif Rgg.cu2 n q s i then o ||| 2 ^ s else o : Nat), vi s, vi q, vi s, vi q, vi (i : Nat)]) (fun _ => [])
    (.ext 2, [vi K, vU n, vU (bif Rgg.cu2 n q s q then o ||| 2 ^ s else o : Nat), vi s, vi q, vi s, vi q, vi q], [])
    (fun i hi again => by
      refine (nl56_6 ..).trans ?_
      rw [Rgg.and64 i (by omega) s hs, hnI, e1, toNat_cast, toNat_cast, toNat_cast, toNat_cast, wrap_succ (by omega), Rgg.cu2_succ, Rgg.int_ne0]
      simp only [dec_lt hi, dec_ge, decide_eq_true (show (s : Int) < 32 by omega), decide_eq_true (show (i : Int) < 32 by omega), decide_eq_true (show (q : Int) ≤ 32 by omega), decide_eq_true (show 0 ≤ K by omega), decide_true, Bool.and_self, cond_true]
      cases hc2 : Rgg.cu2 n q s i with
      | true =>
        rw [cond_true, Rgg.or32 hor hs, or_idem, bne]
        cases i &&& s == 0 <;> cases Rgg.cu3 n s i q <;> rfl
      | false =>
        rw [cond_false, Rgg.or32 ho' hs, bne]
        cases i &&& s == 0 <;> cases Rgg.cu3 n s i q <;> rfl)
    (fun again => by
      refine (nl56_6 ..).trans ?_
      simp only [dec_ll, cond_false])
  exact ⟨mm, hm.trans (by rw [leaf_val hv2])⟩)
theorem Na2_ok : TabOK Na2 := Na1_ok.addLoop (g := 56) (lid := 6) (r := l56_6) fun b k H o k' H' hv => by refine LoopOK.tab ?_ ?_ ?_ ?_ (l56_6_run b k H o k' H' hv) <;> rfl
theorem cuN_lt (q n : Nat) : Rgg.cuN q n < 4294967296 := by rw [Rgg.cuN_eq]; exact Rgg.mk_lt _ 32
theorem l56_3_run : ∀ base kv H o kv' H', (l56_3 base kv H).val = some (o, kv', H') → LoopOK Na2 56 3 base kv H o kv' H' := l56_3_ok Na2_ok (by kernel_rfl) (by
  intro K n o q r hv
  obtain ⟨hl, hv2⟩ := guard_val hv
  simp only [Bool.and_eq_true, decide_eq_true_eq] at hl
  obtain ⟨⟨⟨⟨k1, k5⟩, hn⟩, rfl⟩, rfl⟩ := hl
  obtain ⟨e1, e2⟩ := Rgg.two_k k1 k5
  have hnI := hn
  obtain ⟨n, rfl, hn'⟩ := Rgg.in32_nat hn
  have e3 : ((2 ^ K.toNat : Nat) : Int) = (2 : Int) ^ K.toNat := Int.natCast_pow 2 K.toNat
  generalize 2 ^ K.toNat = q at *
  rw [toNat_cast, toNat_cast] at hv2
  have hz : (Rgg.mk (fun j => decide (j < 0) && Rgg.cu2 n q j q) 32 : Nat) = 0 := Rgg.mk_none fun j => Rgg.cu2 n q j q
  obtain ⟨mm, hm⟩ := steps_of (T := Na2) (fid := 56) (lid := 3) (base := 0) (c := lpc Na2 56 3) q (fun i => [vi K, vU n, vU (Rgg.mk (fun j => decide (j < i) && Rgg.cu2 n q j q) 32 : Nat), vi q, vi (i : Nat)]) (fun _ => [])
    (.ext 0, [vi K, vU n, vU (Rgg.cuN q n : Nat), vi q, vi q], [])
    (fun i hi again => by
      have ho : Rgg.mk (fun j => decide (j < i) && Rgg.cu2 n q j q) 32 < 4294967296 := Rgg.mk_lt _ 32
      refine (nl56_3 ..).trans ?_
      rw [hnI, e1, Rgg.in32_of ho, toNat_cast, toNat_cast, toNat_cast, toNat_cast, wrap_succ (by omega), Rgg.mk_grow (fun j => Rgg.cu2 n q j q) (show i < 32 by omega)]
      simp only [decide_eq_true e3, dec_lt hi, dec_ge, decide_eq_true k1, decide_eq_true k5, decide_eq_true (show (i : Int) < 32 by omega), decide_eq_true (show 0 ≤ K by omega), decide_true, Bool.and_self, cond_true])
    (fun again => by
      refine (nl56_3 ..).trans ?_
      rw [Rgg.cuN_eq]
      simp only [dec_ll, cond_false])
  rw [hz] at hm
  exact ⟨mm, hm.trans (by rw [leaf_val hv2])⟩)
theorem Na3_ok : TabOK Na3 := Na2_ok.addLoop (g := 56) (lid := 3) (r := l56_3) fun b k H o k' H' hv => by refine LoopOK.tab ?_ ?_ ?_ ?_ (l56_3_run b k H o k' H' hv) <;> rfl
theorem c56_run : ∀ args H v H', (c56 args H).val = some (v, H') → CallOK Na3 56 args H v H' := c56_ok Na3_ok (by
  intro K n r hv
  obtain ⟨hl, hv2⟩ := guard_val hv
  simp only [Bool.and_eq_true, decide_eq_true_eq] at hl
  obtain ⟨⟨k1, k5⟩, hn⟩ := hl
  obtain ⟨e1, e2⟩ := Rgg.two_k k1 k5
  have e3 : ((2 ^ K.toNat : Nat) : Int) = (2 : Int) ^ K.toNat := Int.natCast_pow 2 K.toNat
  refine (nf56 ..).trans ?_
  rw [e1, hn, leaf_val hv2, decide_eq_true (show 0 ≤ K by omega), decide_eq_true k1, decide_eq_true k5, decide_eq_true e3, toNat_cast]
  rfl)
theorem l88_2_run : ∀ base kv H o kv' H', (l88_2 base kv H).val = some (o, kv', H') → LoopOK N0 88 2 base kv H o kv' H' := l88_2_ok N0_ok (by kernel_rfl) (by
  intro l s q r hv
  obtain ⟨hl, hv2⟩ := guard_val hv
  simp only [Bool.and_eq_true, decide_eq_true_eq] at hl
  obtain ⟨hsm, rfl⟩ := hl
  have hsm := sm_le hsm
  obtain ⟨mm, hm⟩ := found_of (T := N0) (fid := 88) (lid := 2) (base := 0) (c := lpc N0 88 2) l (fun x => s == x) (fun i => [lS l, vS s, vi 0, vi l.length, vi i]) []
    (fun i => (.ret, [lS l, vS s, vi i, vi l.length, vi i], [])) (.ext 0, [lS l, vS s, vi 0, vi l.length, vi l.length], [])
    (fun i x hx hlt again => by
      refine (nl88 ..).trans ?_
      rw [wrap_succ (by omega)]
      simp only [dec_lt hlt, dec_ge, cond_true, toNat_cast, hx, oM])
    (fun again => by
      refine (nl88 ..).trans ?_
      simp only [dec_ll, cond_false])
  refine ⟨mm, hm.trans ?_⟩
  cases h : l.any fun x => s == x with
  | true => rw [h] at hv2; rw [cond_true, leaf_val hv2]
  | false => rw [h] at hv2; rw [cond_false, leaf_val hv2])
theorem Na4_ok : TabOK Na4 := N0_ok.addLoop (g := 88) (lid := 2) (r := l88_2) fun b k H o k' H' hv => by refine LoopOK.tab ?_ ?_ ?_ ?_ (l88_2_run b k H o k' H' hv) <;> rfl
theorem c88_run : ∀ args H v H', (c88 args H).val = some (v, H') → CallOK Na4 88 args H v H' := c88_ok Na4_ok (by
  intro l s r hv
  obtain ⟨hl, hv2⟩ := guard_val hv
  refine (nf88 ..).trans ?_
  rw [hl, decide_eq_true (rfl : (l.length : Int) = _)]
  cases h : l.any fun x => s == x with
  | true => rw [h] at hv2; rw [leaf_val hv2]; rfl
  | false => rw [h] at hv2; rw [leaf_val hv2]; rfl)
theorem Na5_ok : TabOK Na5 := N0_ok.addCall (g := 88) (r := c88) fun a H v H' hv => by refine CallOK.tab ?_ ?_ (c88_run a H v H' hv) <;> rfl
theorem c54_run : ∀ args H v H', (c54 args H).val = some (v, H') → CallOK Na5 54 args H v H' := c54_ok Na5_ok (by
  intro l s r hv
  obtain ⟨hl, hv2⟩ := guard_val hv
  refine (nf54 ..).trans ?_
  rw [hl, leaf_val hv2]
  cases l.any fun x => s == x <;> rfl)
end Go.Ev.Rag
