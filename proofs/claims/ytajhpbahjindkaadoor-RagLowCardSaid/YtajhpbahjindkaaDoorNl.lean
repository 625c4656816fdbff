/- The law RagLow: tables and normal forms. -/
import Derived.Test.YtajhpbahjindkaaDoorNc
import Derived.Test.YtajhpbahjindkaaDoorRk
import Derived.Test.YtajhpbahjindkaaDoorRu
import Derived.Test.YtajhpbahjindkaaDoorNi
import Derived.Test.YtajhpbahjindkaaDoorRf
import Derived.Test.YtajhpbahjindkaaDoorNk
set_option linter.unusedVariables false
set_option linter.unusedSimpArgs false
namespace Rgg
open Go
def rdN (n : Nat) : Nat → Nat
  | 0 => n
  | j + 1 => loN (rdN n j) j
def rpN (K n : Nat) : Nat → Nat
  | 0 => n
  | r + 1 => rdN (rpN K n r) K
def rpS (K n r : Nat) : Nat := stk n (rpN K n r)
def gnB (b m : Nat) : Nat := mk (fun i => (paN b).testBit i && !m.testBit i) 32
end Rgg
namespace Go.Ev.Rag
open Go Go.Ev
set_option maxRecDepth 1000000
set_option maxHeartbeats 0
set_option linter.unusedVariables false
noncomputable def Lo1 : Tab := ((((((((((T0).addCall 34 c34).addCall 35 c35).addCall 30 c30).addCall 32 c32).addCall 53 c53).addCall 23 c23).addCall 51 c51).addCall 39 c39).addCall 17 c17).addCall 54 c54
noncomputable def Lo2 : Tab := Lo1.addCall 16 c16t
theorem nl10_10 (again : Ag) (K n k e f w i q j : Int) (l o w2 : List ByteArray) (t1 t2 t3 : TypeId) : lpStep Lo2 10 10 0 (lpc Lo2 10 10) again [vi K, vU n, osW 0 l.length, vi k, osW 1 o.length, vi e, osW 2 w2.length, vi f, vU w, vi i, vi q, vi j] [some (rowS l t1), some (rowS o t2), some (rowS w2 t3)] = (bif decide (j < q) then bif Rgg.in32 w && decide (0 ≤ j) && decide (j < 5) then again [vi K, .sc (.int .u32 n), osW 0 l.length, vi k, osW 1 o.length, vi e, osW 2 w2.length, vi f, .sc (.int .u32 (↑(Rgg.loN w.toNat j.toNat) : Int)), vi i, vi q, vi (IntKind.i64.wrap (j + 1))] [some { c := [.run .str l], vr := false, ty := t1, fz := false, loose := false : Row }, some { c := [.run .str o], vr := false, ty := t2, fz := false, loose := false : Row }, some { c := [.run .str w2], vr := false, ty := t3, fz := false, loose := false : Row }] else none else some (.ext 2, [vi K, .sc (.int .u32 n), osW 0 l.length, vi k, osW 1 o.length, vi e, osW 2 w2.length, vi f, .sc (.int .u32 w), vi i, vi q, vi j], [some { c := [.run .str l], vr := false, ty := t1, fz := false, loose := false : Row }, some { c := [.run .str o], vr := false, ty := t2, fz := false, loose := false : Row }, some { c := [.run .str w2], vr := false, ty := t3, fz := false, loose := false : Row }])) := by kernel_rfl
def l10_10t (K n k e f w i q : Int) (l o w2 : List ByteArray) (k1 k2 k3 : Nat) (t1 t2 t3 : TypeId) : Tree (Out × List AV × Hp) := .br (decide (k1 = l.length) && decide (k2 = o.length) && decide (k3 = w2.length) && Rgg.in32 w && decide (0 ≤ q) && decide (q ≤ 5)) (.leaf (.ext 2, [vi K, vU n, osW 0 l.length, vi k, osW 1 o.length, vi e, osW 2 w2.length, vi f, vU (Rgg.rdN w.toNat q.toNat : Nat), vi i, vi q, vi q], [some (rowS l t1), some (rowS o t2), some (rowS w2 t3)])) .fail
def l10_10 (base : Nat) (kv : List AV) (H : Hp) : Tree (Out × List AV × Hp) := match Nat.beq base 0, kv, H with
  | true, [(.sc (.int .i64 K)), (.sc (.int .u32 n)), (.os 0 0 0 k1 true false true), (.sc (.int .i64 k)), (.os 1 0 0 k2 true false true), (.sc (.int .i64 e)), (.os 2 0 0 k3 true false true), (.sc (.int .i64 f)), (.sc (.int .u32 w)), (.sc (.int .i64 i)), (.sc (.int .i64 q)), (.sc (.int .i64 0))], [some ⟨[.run .str l], false, t1, false, false, none⟩, some ⟨[.run .str o], false, t2, false, false, none⟩, some ⟨[.run .str w2], false, t3, false, false, none⟩] => l10_10t K n k e f w i q l o w2 k1 k2 k3 t1 t2 t3
  | _, _, _ => .fail
theorem l10_10_ok {T : Tab} (hT : TabOK T) (hlo : loopOf T.fn 10 10 = some (lpc T 10 10)) (h : ∀ (K n k e f w i q : Int) (l o w2 : List ByteArray) (k1 k2 k3 : Nat) (t1 t2 t3 : TypeId) (r : Out × List AV × Hp), (l10_10t K n k e f w i q l o w2 k1 k2 k3 t1 t2 t3).val = some r → ∃ mm, lpRun T 10 10 0 (lpc T 10 10) mm [vi K, vU n, osW 0 k1, vi k, osW 1 k2, vi e, osW 2 k3, vi f, vU w, vi i, vi q, vi 0] [some (rowS l t1), some (rowS o t2), some (rowS w2 t3)] = some r) : ∀ base kv H o kv' H', (l10_10 base kv H).val = some (o, kv', H') → LoopOK T 10 10 base kv H o kv' H' := by
  intro base kv H o kv' H' hv
  unfold l10_10 at hv
  split at hv
  · rename_i hb
    obtain rfl := Nat.eq_of_beq_eq_true hb
    exact loop_ok hT hlo (h _ _ _ _ _ _ _ _ _ _ _ _ _ _ _ _ _ _ hv)
  · cases hv
noncomputable def Lo3 : Tab := (Lo2).addLoop 10 10 l10_10
theorem nl10_8 (again : Ag) (K n k e f w i : Int) (l o w2 : List ByteArray) (t1 t2 t3 : TypeId) : lpStep Lo3 10 8 0 (lpc Lo3 10 8) again [vi K, vU n, osW 0 l.length, vi k, osW 1 o.length, vi e, osW 2 w2.length, vi f, vU w, vi i] [some (rowS l t1), some (rowS o t2), some (rowS w2 t3)] = (bif decide (i < 40) then bif decide (l.length = l.length) && decide (o.length = o.length) && decide (w2.length = w2.length) && Rgg.in32 w && decide (0 ≤ K) && decide (K ≤ 5) then again [vi K, .sc (.int .u32 n), osW 0 l.length, vi k, osW 1 o.length, vi e, osW 2 w2.length, vi f, .sc (.int .u32 (↑(Rgg.rdN w.toNat K.toNat) : Int)), vi (IntKind.i64.wrap (i + 1))] [some { c := [.run .str l], vr := false, ty := t1, fz := false, loose := false : Row }, some { c := [.run .str o], vr := false, ty := t2, fz := false, loose := false : Row }, some { c := [.run .str w2], vr := false, ty := t3, fz := false, loose := false : Row }] else none else some (.ext 0, [vi K, .sc (.int .u32 n), osW 0 l.length, vi k, osW 1 o.length, vi e, osW 2 w2.length, vi f, .sc (.int .u32 w), vi i], [some { c := [.run .str l], vr := false, ty := t1, fz := false, loose := false : Row }, some { c := [.run .str o], vr := false, ty := t2, fz := false, loose := false : Row }, some { c := [.run .str w2], vr := false, ty := t3, fz := false, loose := false : Row }])) := by kernel_rfl
def l10_8t (K n k e f w : Int) (l o w2 : List ByteArray) (k1 k2 k3 : Nat) (t1 t2 t3 : TypeId) : Tree (Out × List AV × Hp) := .br (decide (k1 = l.length) && decide (k2 = o.length) && decide (k3 = w2.length) && Rgg.in32 w && decide (1 ≤ K) && decide (K ≤ 5)) (.leaf (.ext 0, [vi K, vU n, osW 0 l.length, vi k, osW 1 o.length, vi e, osW 2 w2.length, vi f, vU (Rgg.rpS K.toNat w.toNat 40 : Nat), vi 40], [some (rowS l t1), some (rowS o t2), some (rowS w2 t3)])) .fail
def l10_8 (base : Nat) (kv : List AV) (H : Hp) : Tree (Out × List AV × Hp) := match Nat.beq base 0, kv, H with
  | true, [(.sc (.int .i64 K)), (.sc (.int .u32 n)), (.os 0 0 0 k1 true false true), (.sc (.int .i64 k)), (.os 1 0 0 k2 true false true), (.sc (.int .i64 e)), (.os 2 0 0 k3 true false true), (.sc (.int .i64 f)), (.sc (.int .u32 w)), (.sc (.int .i64 0))], [some ⟨[.run .str l], false, t1, false, false, none⟩, some ⟨[.run .str o], false, t2, false, false, none⟩, some ⟨[.run .str w2], false, t3, false, false, none⟩] => l10_8t K n k e f w l o w2 k1 k2 k3 t1 t2 t3
  | _, _, _ => .fail
theorem l10_8_ok {T : Tab} (hT : TabOK T) (hlo : loopOf T.fn 10 8 = some (lpc T 10 8)) (h : ∀ (K n k e f w : Int) (l o w2 : List ByteArray) (k1 k2 k3 : Nat) (t1 t2 t3 : TypeId) (r : Out × List AV × Hp), (l10_8t K n k e f w l o w2 k1 k2 k3 t1 t2 t3).val = some r → ∃ mm, lpRun T 10 8 0 (lpc T 10 8) mm [vi K, vU n, osW 0 k1, vi k, osW 1 k2, vi e, osW 2 k3, vi f, vU w, vi 0] [some (rowS l t1), some (rowS o t2), some (rowS w2 t3)] = some r) : ∀ base kv H o kv' H', (l10_8 base kv H).val = some (o, kv', H') → LoopOK T 10 8 base kv H o kv' H' := by
  intro base kv H o kv' H' hv
  unfold l10_8 at hv
  split at hv
  · rename_i hb
    obtain rfl := Nat.eq_of_beq_eq_true hb
    exact loop_ok hT hlo (h _ _ _ _ _ _ _ _ _ _ _ _ _ _ _ _ hv)
  · cases hv
theorem nl10_18 (again : Ag) (K w t : Int) (l w2 : List ByteArray) (t1 t3 : TypeId) : lpStep Lo3 10 18 0 (lpc Lo3 10 18) again [.dead, vi K, osW 0 l.length, osW 1 w2.length, vU w, vU t] [some (rowS l t1), some (rowS w2 t3)] = (bif t != 0 then bif decide (0 < t) && decide (t < 4294967296) then bif decide (0 ≤ (↑(Rgg.tzN t.toNat) : Int)) && decide ((↑(Rgg.tzN t.toNat) : Int) < 32) then bif IntKind.u32.wrap (↑(BitVec.ofInt 32 (↑(Rgg.paN (↑(Rgg.tzN t.toNat) : Int).toNat) : Int) &&& ~~~BitVec.ofInt 32 w).toNat : Int) != 0 then some (.ret, [vb false, vi K, osW 0 l.length, osW 1 w2.length, .sc (.int .u32 w), .sc (.int .u32 t)], [some ⟨[.run .str l], false, t1, false, false, none⟩, some ⟨[.run .str w2], false, t3, false, false, none⟩]) else again [.dead, vi K, osW 0 l.length, osW 1 w2.length, .sc (.int .u32 w), .sc (.int .u32 (IntKind.u32.wrap (↑(BitVec.ofInt 32 t &&& BitVec.ofInt 32 (IntKind.u32.wrap (t - 1))).toNat : Int)))] [some { c := [.run .str l], vr := false, ty := t1, fz := false, loose := false : Row }, some { c := [.run .str w2], vr := false, ty := t3, fz := false, loose := false : Row }] else none else none else some (.ext 4, [.dead, vi K, osW 0 l.length, osW 1 w2.length, .sc (.int .u32 w), .sc (.int .u32 t)], [some { c := [.run .str l], vr := false, ty := t1, fz := false, loose := false : Row }, some { c := [.run .str w2], vr := false, ty := t3, fz := false, loose := false : Row }])) := by kernel_rfl
def l10_18t (K w t : Int) (l w2 : List ByteArray) (k1 k3 : Nat) (t1 t3 : TypeId) : Tree (Out × List AV × Hp) := .br (decide (k1 = l.length) && decide (k3 = w2.length) && Rgg.in32 w && decide (t = w) && (Rgg.bL w.toNat).all fun b => Rgg.gnB b w.toNat == 0) (.leaf (.ext 4, [.dead, vi K, osW 0 l.length, osW 1 w2.length, vU w, vU 0], [some (rowS l t1), some (rowS w2 t3)])) .fail
def l10_18 (base : Nat) (kv : List AV) (H : Hp) : Tree (Out × List AV × Hp) := match Nat.beq base 0, kv, H with
  | true, [.dead, (.sc (.int .i64 K)), (.os 0 0 0 k1 true false true), (.os 1 0 0 k3 true false true), (.sc (.int .u32 w)), (.sc (.int .u32 t))], [some ⟨[.run .str l], false, t1, false, false, none⟩, some ⟨[.run .str w2], false, t3, false, false, none⟩] => l10_18t K w t l w2 k1 k3 t1 t3
  | _, _, _ => .fail
theorem l10_18_ok {T : Tab} (hT : TabOK T) (hlo : loopOf T.fn 10 18 = some (lpc T 10 18)) (h : ∀ (K w t : Int) (l w2 : List ByteArray) (k1 k3 : Nat) (t1 t3 : TypeId) (r : Out × List AV × Hp), (l10_18t K w t l w2 k1 k3 t1 t3).val = some r → ∃ mm, lpRun T 10 18 0 (lpc T 10 18) mm [.dead, vi K, osW 0 k1, osW 1 k3, vU w, vU t] [some (rowS l t1), some (rowS w2 t3)] = some r) : ∀ base kv H o kv' H', (l10_18 base kv H).val = some (o, kv', H') → LoopOK T 10 18 base kv H o kv' H' := by
  intro base kv H o kv' H' hv
  unfold l10_18 at hv
  split at hv
  · rename_i hb
    obtain rfl := Nat.eq_of_beq_eq_true hb
    exact loop_ok hT hlo (h _ _ _ _ _ _ _ _ _ _ hv)
  · cases hv
theorem nl10_28 (again : Ag) (q i : Int) (a c : List ByteArray) (t1 t2 : TypeId) : lpStep Lo3 10 28 0 (lpc Lo3 10 28) again [.dead, osW 0 a.length, osW 1 c.length, vi q, vi i] [some (rowS a t1), some (rowS c t2)] = (bif decide (i < q) then bif decide (0 ≤ i) then bif decide (i < (↑c.length : Int)) then oM c[i.toNat]? fun x => bif sm a then bif !a.any fun x_1 => x == x_1 then some (.ret, [vb false, osW 0 a.length, osW 1 c.length, vi q, vi i], [some ⟨[.run .str a], false, t1, false, false, none⟩, some ⟨[.run .str c], false, t2, false, false, none⟩]) else again [.dead, osW 0 a.length, osW 1 c.length, vi q, vi (IntKind.i64.wrap (i + 1))] [some ⟨[.run .str a], false, t1, false, false, none⟩, some ⟨[.run .str c], false, t2, false, false, none⟩] else none else none else none else some (.ext 6, [.dead, osW 0 a.length, osW 1 c.length, vi q, vi i], [some { c := [.run .str a], vr := false, ty := t1, fz := false, loose := false : Row }, some { c := [.run .str c], vr := false, ty := t2, fz := false, loose := false : Row }])) := by kernel_rfl
def l10_28t (q : Int) (a c : List ByteArray) (k1 k2 : Nat) (t1 t2 : TypeId) : Tree (Out × List AV × Hp) := .br (decide (k1 = a.length) && decide (k2 = c.length) && decide (q = (c.length : Int)) && sm a && sm c && c.all fun s => a.any fun x => s == x) (.leaf (.ext 6, [.dead, osW 0 a.length, osW 1 c.length, vi c.length, vi c.length], [some (rowS a t1), some (rowS c t2)])) .fail
def l10_28 (base : Nat) (kv : List AV) (H : Hp) : Tree (Out × List AV × Hp) := match Nat.beq base 0, kv, H with
  | true, [.dead, (.os 0 0 0 k1 true false true), (.os 1 0 0 k2 true false true), (.sc (.int .i64 q)), (.sc (.int .i64 0))], [some ⟨[.run .str a], false, t1, false, false, none⟩, some ⟨[.run .str c], false, t2, false, false, none⟩] => l10_28t q a c k1 k2 t1 t2
  | _, _, _ => .fail
theorem l10_28_ok {T : Tab} (hT : TabOK T) (hlo : loopOf T.fn 10 28 = some (lpc T 10 28)) (h : ∀ (q : Int) (a c : List ByteArray) (k1 k2 : Nat) (t1 t2 : TypeId) (r : Out × List AV × Hp), (l10_28t q a c k1 k2 t1 t2).val = some r → ∃ mm, lpRun T 10 28 0 (lpc T 10 28) mm [.dead, osW 0 k1, osW 1 k2, vi q, vi 0] [some (rowS a t1), some (rowS c t2)] = some r) : ∀ base kv H o kv' H', (l10_28 base kv H).val = some (o, kv', H') → LoopOK T 10 28 base kv H o kv' H' := by
  intro base kv H o kv' H' hv
  unfold l10_28 at hv
  split at hv
  · rename_i hb
    obtain rfl := Nat.eq_of_beq_eq_true hb
    exact loop_ok hT hlo (h _ _ _ _ _ _ _ _ hv)
  · cases hv
noncomputable def Lo4 : Tab := (((Lo3).addLoop 10 8 l10_8).addLoop 10 18 l10_18).addLoop 10 28 l10_28
theorem nf10 (k b o : Int) : evBody Lo4 10 [pil k b, .sc (.int .u8 o)] [] = (bif decide (0 ≤ k) && decide (k < 256) && Rgg.in32 b && decide (5 = 5) then bif Rgg.in32 (↑(Rgg.pB k b) : Int) then bif !decide (Rgg.pK k = 0) then bif decide ((Rgg.wdL (↑(Rgg.pB k b) : Int).toNat).length = (Rgg.wdL (↑(Rgg.pB k b) : Int).toNat).length) && decide ((Rgg.lwL (Rgg.pK k) (Rgg.wdL (↑(Rgg.pB k b) : Int).toNat) ((IntKind.i64.wrap o).tmod (Rgg.pK k))).length = (Rgg.lwL (Rgg.pK k) (Rgg.wdL (↑(Rgg.pB k b) : Int).toNat) ((IntKind.i64.wrap o).tmod (Rgg.pK k))).length) && decide ((Rgg.lsL (Rgg.pK k) (Rgg.wdL (↑(Rgg.pB k b) : Int).toNat)).length = (Rgg.lsL (Rgg.pK k) (Rgg.wdL (↑(Rgg.pB k b) : Int).toNat)).length) && Rgg.in32 (↑(Rgg.pB k b) : Int) && decide (1 ≤ Rgg.pK k) && decide (Rgg.pK k ≤ 5) then bif Rgg.lwE (Rgg.pK k) (Rgg.wdL (↑(Rgg.pB k b) : Int).toNat) ((IntKind.i64.wrap o).tmod (Rgg.pK k)) != 0 then some (vb false, []) else bif Rgg.opE (Rgg.pK k) (Rgg.wdL (↑(Rgg.pB k b) : Int).toNat) != 0 then some (vb false, []) else bif Rgg.in32 (↑(Rgg.pB k b) : Int) && decide (0 ≤ (IntKind.i64.wrap o).tmod (Rgg.pK k)) && decide ((IntKind.i64.wrap o).tmod (Rgg.pK k) < 5) then bif Rgg.in32 (↑(Rgg.loN (↑(Rgg.pB k b) : Int).toNat ((IntKind.i64.wrap o).tmod (Rgg.pK k)).toNat) : Int) then bif sm (Rgg.lwL (Rgg.pK k) (Rgg.wdL (↑(Rgg.pB k b) : Int).toNat) ((IntKind.i64.wrap o).tmod (Rgg.pK k))) && Rgg.lwL (Rgg.pK k) (Rgg.wdL (↑(Rgg.pB k b) : Int).toNat) ((IntKind.i64.wrap o).tmod (Rgg.pK k)) == Rgg.wdL (↑(Rgg.loN (↑(Rgg.pB k b) : Int).toNat ((IntKind.i64.wrap o).tmod (Rgg.pK k)).toNat) : Int).toNat then bif Rgg.in32 (↑(Rgg.rpS (Rgg.pK k).toNat (↑(Rgg.pB k b) : Int).toNat 40) : Int) then bif sm (Rgg.lsL (Rgg.pK k) (Rgg.wdL (↑(Rgg.pB k b) : Int).toNat)) && Rgg.lsL (Rgg.pK k) (Rgg.wdL (↑(Rgg.pB k b) : Int).toNat) == Rgg.wdL (↑(Rgg.rpS (Rgg.pK k).toNat (↑(Rgg.pB k b) : Int).toNat 40) : Int).toNat then bif (↑(Rgg.lsL (Rgg.pK k) (Rgg.wdL (↑(Rgg.pB k b) : Int).toNat)).length : Int) != (↑(Rgg.wdL (↑(Rgg.pB k b) : Int).toNat).length : Int) then some (vb false, []) else bif decide ((Rgg.wdL (↑(Rgg.pB k b) : Int).toNat).length = (Rgg.wdL (↑(Rgg.pB k b) : Int).toNat).length) && decide ((Rgg.lsL (Rgg.pK k) (Rgg.wdL (↑(Rgg.pB k b) : Int).toNat)).length = (Rgg.lsL (Rgg.pK k) (Rgg.wdL (↑(Rgg.pB k b) : Int).toNat)).length) && Rgg.in32 (↑(Rgg.rpS (Rgg.pK k).toNat (↑(Rgg.pB k b) : Int).toNat 40) : Int) && decide ((↑(Rgg.rpS (Rgg.pK k).toNat (↑(Rgg.pB k b) : Int).toNat 40) : Int) = (↑(Rgg.rpS (Rgg.pK k).toNat (↑(Rgg.pB k b) : Int).toNat 40) : Int)) && (Rgg.bL (↑(Rgg.rpS (Rgg.pK k).toNat (↑(Rgg.pB k b) : Int).toNat 40) : Int).toNat).all fun b_1 => Rgg.gnB b_1 (↑(Rgg.rpS (Rgg.pK k).toNat (↑(Rgg.pB k b) : Int).toNat 40) : Int).toNat == 0 then bif Rgg.opE (Rgg.pK k) (Rgg.lsL (Rgg.pK k) (Rgg.wdL (↑(Rgg.pB k b) : Int).toNat)) != 0 then some (vb false, []) else bif Rgg.opE (Rgg.pK k) (Rgg.wdL (↑(Rgg.pB k b) : Int).toNat) != 0 then some (vb false, []) else bif Rgg.lwE (Rgg.pK k) (Rgg.wdL (↑(Rgg.pB k b) : Int).toNat) (Rgg.pK k) != 2 then some (vb false, []) else bif sm (Rgg.apL (Rgg.pK k) (Rgg.lsL (Rgg.pK k) (Rgg.wdL (↑(Rgg.pB k b) : Int).toNat))) && Rgg.apL (Rgg.pK k) (Rgg.lsL (Rgg.pK k) (Rgg.wdL (↑(Rgg.pB k b) : Int).toNat)) == Rgg.lsL (Rgg.pK k) (Rgg.wdL (↑(Rgg.pB k b) : Int).toNat) then bif decide ((Rgg.apL (Rgg.pK k) (Rgg.wdL (↑(Rgg.pB k b) : Int).toNat)).length = (Rgg.apL (Rgg.pK k) (Rgg.wdL (↑(Rgg.pB k b) : Int).toNat)).length) && decide ((Rgg.lsL (Rgg.pK k) (Rgg.wdL (↑(Rgg.pB k b) : Int).toNat)).length = (Rgg.lsL (Rgg.pK k) (Rgg.wdL (↑(Rgg.pB k b) : Int).toNat)).length) && decide ((↑(Rgg.lsL (Rgg.pK k) (Rgg.wdL (↑(Rgg.pB k b) : Int).toNat)).length : Int) = (↑(Rgg.lsL (Rgg.pK k) (Rgg.wdL (↑(Rgg.pB k b) : Int).toNat)).length : Int)) && sm (Rgg.apL (Rgg.pK k) (Rgg.wdL (↑(Rgg.pB k b) : Int).toNat)) && sm (Rgg.lsL (Rgg.pK k) (Rgg.wdL (↑(Rgg.pB k b) : Int).toNat)) && (Rgg.lsL (Rgg.pK k) (Rgg.wdL (↑(Rgg.pB k b) : Int).toNat)).all fun s => (Rgg.apL (Rgg.pK k) (Rgg.wdL (↑(Rgg.pB k b) : Int).toNat)).any fun x => s == x then some (vb true, []) else none else none else none else none else none else none else none else none else none else none else none else none) := by kernel_rfl
end Go.Ev.Rag
namespace Rgg
open Go
theorem fB_mk {l : List Bool} (hl : l.length = 32) : fB (mk (fun i => at_ l i) 32) = l :=
  at_ext (fB_len _) hl fun n hn => by rw [at_fB hn, testBit_mk, decide_eq_true hn, Bool.true_and]
theorem lo_fB (n k : Nat) : fB (loN n k) = loF (fB n) k 32 := by rw [loN_eq]; exact fB_mk (loF_len ..)
theorem rd_fB (n : Nat) : ∀ j, fB (rdN n j) = roF (fB n) j
  | 0 => rfl
  | j + 1 => by
    show fB (loN (rdN n j) j) = loF (roF (fB n) j) j 32
    rw [lo_fB, rd_fB n j]
theorem num_ext {n m : Nat} (hn : n < 4294967296) (hm : m < 4294967296) (h : fB n = fB m) : n = m := by
  rw [← mk_of (k := 32) hn, ← mk_of (k := 32) hm]
  exact mk_congr fun i hi => by rw [← at_fB hi, ← at_fB hi, h]
theorem rd_lt {n : Nat} (hn : n < 4294967296) : ∀ j, rdN n j < 4294967296
  | 0 => hn
  | j + 1 => by rw [show rdN n (j + 1) = loN (rdN n j) j from rfl, loN_eq]; exact mk_lt _ 32
theorem rp_fix {n K : Nat} (hK : K ≤ 5) (hn : n < 4294967296) : ∀ r, rpN K n (r + 1) = rdN n K
  | 0 => rfl
  | r + 1 => by
    show rdN (rpN K n (r + 1)) K = rdN n K
    rw [rp_fix hK hn r]
    refine num_ext (rd_lt (rd_lt hn K) K) (rd_lt hn K) ?_
    rw [rd_fB, rd_fB, (ro_fix (fB_len n) hK).1]
theorem rpS_fix {n K : Nat} (hK : K ≤ 5) (hn : n < 4294967296) : rpS K n 40 = rdN n K := (stk_eq ..).trans (rp_fix hK hn 39)
theorem rd_pl {K : Int} {n : Nat} (h : Pl K n) : Pl K (rdN n K.toNat) := by
  have h5 := h.k5
  refine ⟨h.k1, h.k5, Nat.lt_pow_two_of_testBit _ fun i hi => ?_⟩
  cases hb : (rdN n K.toNat).testBit i with
  | false => rfl
  | true =>
    by_cases h32 : i < 32
    · rw [← at_fB h32, rd_fB] at hb
      have := ro_top (by omega) h.topF K.toNat (by omega) i h32 hb
      omega
    · rw [Nat.testBit_lt_two_pow (Nat.lt_of_lt_of_le (rd_lt h.n32 K.toNat) (Nat.pow_le_pow_right (n := 2) (by decide) (show 32 ≤ i by omega)))] at hb
      cases hb
theorem ls_num {K : Int} {n : Nat} (h : Pl K n) : lsL K (wdL n) = wdL (rdN n K.toNat) := by
  have h5 := h.k5
  unfold lsL
  rw [h.opE, beq_self_eq_true, cond_true, h.opF]
  refine wrt_wd h.k1 h.k5 fun i hi => ?_
  rw [← at_fB hi, rd_fB]
  cases ha : at_ (roF (fB n) K.toNat) i with
  | false => rw [Bool.and_false]
  | true => rw [decide_eq_true (ro_top (by omega) h.topF K.toNat (by omega) i hi ha)]; rfl
theorem lwE_num {K : Int} {n k : Nat} (h : Pl K n) (hk : k < K.toNat) : lwE K (wdL n) (k : Nat) = 0 := by
  unfold lwE
  rw [h.opE, beq_self_eq_true, cond_true, decide_eq_true (show (0 : Int) ≤ k by omega), decide_eq_true (show (k : Int) < K by omega)]
  rfl
theorem lw_num {K : Int} {n k : Nat} (h : Pl K n) (hk : k < K.toNat) : lwL K (wdL n) (k : Nat) = wdL (loN n k) := by
  have h5 := h.k5
  unfold lwL
  rw [lwE_num h hk, beq_self_eq_true, cond_true, h.opF]
  refine wrt_wd h.k1 h.k5 fun i hi => ?_
  rw [← at_fB hi, lo_fB]
  show _ = (decide (i < 2 ^ K.toNat) && at_ (loF (fB n) k 32) i)
  cases ha : at_ (loF (fB n) k 32) i with
  | false => rw [Bool.and_false]
  | true => rw [decide_eq_true (lo_top (by omega) h.topF (by omega) i hi ha)]; rfl
theorem lwE_out {K : Int} {n : Nat} (h : Pl K n) : lwE K (wdL n) K = 2 := by
  unfold lwE
  rw [h.opE, beq_self_eq_true, cond_true, decide_eq_false (show ¬ K < K by omega), Bool.and_false]
  rfl
theorem rd_sta {K : Int} {n : Nat} (h : Pl K n) : ∀ k, k < 5 → Sta (fB (rdN n K.toNat)) k := by
  have h5 := h.k5
  rw [rd_fB]
  exact ro_all (by omega) h.topF
theorem rd_len {K : Int} {n : Nat} (h : Pl K n) : (wdL (rdN n K.toNat)).length = (wdL n).length := by
  have h5 := h.k5
  rw [wd_cn, wd_cn, rd_fB, cnt_ro K.toNat (by omega)]
theorem rd_down {K : Int} {n : Nat} (h : Pl K n) : ((bL (rdN n K.toNat)).all fun b => gnB b (rdN n K.toNat) == 0) = true := by
  rw [List.all_eq_true]
  intro b hb
  have hb32 := bL_lt hb
  have hbb := (List.mem_filter.1 hb).2
  rw [beq_iff_eq]
  apply Nat.eq_of_testBit_eq
  intro i
  unfold gnB
  rw [testBit_mk, Nat.zero_testBit]
  by_cases hi : i < 32
  · rw [pa_bit hb32 hi, ← at_fB hi]
    cases hs : sub i b with
    | false => rw [Bool.false_and, Bool.and_false]
    | true => rw [down (rd_sta h) b hb32 (by rw [at_fB hb32]; exact hbb) i hi hs, Bool.not_true, Bool.and_false, Bool.and_false]
  · rw [decide_eq_false hi, Bool.false_and]
theorem rd_own {K : Int} {n : Nat} (h : Pl K n) : apL K (wdL (rdN n K.toNat)) = wdL (rdN n K.toNat) := by
  have h5 := h.k5
  have hp := rd_pl h
  rw [(ap_form hp).1]
  conv => rhs; rw [hp.wl]
  unfold wlS
  congr 1
  exact List.filter_congr fun s hs => sh_down (rd_sta h) (ord_lt K.toNat (by omega) s hs)
theorem rd_in {K : Int} {n : Nat} (h : Pl K n) : ((wdL (rdN n K.toNat)).all fun s => (apL K (wdL n)).any fun x => s == x) = true := by
  have h5 := h.k5
  have hp := rd_pl h
  rw [List.all_eq_true]
  intro x hx
  rw [hp.wl] at hx
  unfold wlS at hx
  obtain ⟨s, hs, rfl⟩ := List.mem_map.1 hx
  obtain ⟨s1, s2⟩ := List.mem_filter.1 hs
  have s32 := ord_lt K.toNat (by omega) s s1
  rw [List.any_eq_true]
  refine ⟨word s, ?_, beq_self_eq_true _⟩
  rw [(ap_form h).1]
  refine List.mem_map.2 ⟨s, List.mem_filter.2 ⟨s1, ?_⟩, rfl⟩
  rw [← sh_down (rd_sta h) s32, rd_fB] at s2
  exact sh_ro s32 K.toNat (by omega) s2
theorem gone32' (a b : Nat) (ha : a < 4294967296) (hb : b < 4294967296) : IntKind.u32.wrap ((BitVec.ofInt 32 (a : Int) &&& ~~~BitVec.ofInt 32 (b : Int)).toNat : Int) = ((mk (fun i => a.testBit i && !b.testBit i) 32 : Nat) : Int) := by
  have e : (BitVec.ofInt 32 (a : Int) &&& ~~~BitVec.ofInt 32 (b : Int)).toNat = mk (fun i => a.testBit i && !b.testBit i) 32 := by
    apply Nat.eq_of_testBit_eq
    intro i
    rw [testBit_mk, BitVec.toNat_and, Nat.testBit_and, of32 a ha, BitVec.toNat_not, of32 b hb]
    rw [show (2 : Nat) ^ 32 - 1 - b = 2 ^ 32 - (b + 1) by omega, Nat.testBit_two_pow_sub_succ (show b < 2 ^ 32 from hb)]
    cases a.testBit i <;> cases b.testBit i <;> simp
  rw [e]
  have hl : mk (fun i => a.testBit i && !b.testBit i) 32 < 4294967296 := mk_lt _ 32
  exact wrap_n32 hl
end Rgg
namespace Go.Ev.Rag
open Go Go.Ev Go.Proofs
set_option maxRecDepth 1000000
set_option linter.unusedVariables false
set_option linter.unusedSimpArgs false
theorem Lo1_ok : TabOK Lo1 := by
  have h := T0_ok
  have h := h.addCall (g := 34) (r := c34) fun a H v H' hv => by refine CallOK.tab ?_ ?_ (c34_run a H v H' hv) <;> rfl
  have h := h.addCall (g := 35) (r := c35) fun a H v H' hv => by refine CallOK.tab ?_ ?_ (c35_run a H v H' hv) <;> rfl
  have h := h.addCall (g := 30) (r := c30) fun a H v H' hv => by refine CallOK.tab ?_ ?_ (c30_run a H v H' hv) <;> rfl
  have h := h.addCall (g := 32) (r := c32) fun a H v H' hv => by refine CallOK.tab ?_ ?_ (c32_run a H v H' hv) <;> rfl
  have h := h.addCall (g := 53) (r := c53) fun a H v H' hv => by refine CallOK.tab ?_ ?_ (c53_run a H v H' hv) <;> rfl
  have h := h.addCall (g := 23) (r := c23) fun a H v H' hv => by refine CallOK.tab ?_ ?_ (c23_run a H v H' hv) <;> rfl
  have h := h.addCall (g := 51) (r := c51) fun a H v H' hv => by refine CallOK.tab ?_ ?_ (c51_run a H v H' hv) <;> rfl
  have h := h.addCall (g := 39) (r := c39) fun a H v H' hv => by refine CallOK.tab ?_ ?_ (c39_run a H v H' hv) <;> rfl
  have h := h.addCall (g := 17) (r := c17) fun a H v H' hv => by refine CallOK.tab ?_ ?_ (c17_run a H v H' hv) <;> rfl
  have h := h.addCall (g := 54) (r := c54) fun a H v H' hv => by refine CallOK.tab ?_ ?_ (c54_run a H v H' hv) <;> rfl
  exact h
theorem Lo2_ok : TabOK Lo2 := Lo1_ok.addCall (g := 16) (r := c16t) fun a H v H' hv => by refine CallOK.tab ?_ ?_ (c16t_run a H v H' hv) <;> rfl
theorem l10_10_run : ∀ base kv H o kv' H', (l10_10 base kv H).val = some (o, kv', H') → LoopOK Lo2 10 10 base kv H o kv' H' := l10_10_ok Lo2_ok (by kernel_rfl) (by
  intro K n k e f w i q l o w2 k1 k2 k3 t1 t2 t3 r hv
  obtain ⟨hl, hv2⟩ := guard_val hv
  simp only [Bool.and_eq_true, decide_eq_true_eq] at hl
  obtain ⟨⟨⟨⟨⟨rfl, rfl⟩, rfl⟩, hw⟩, q0⟩, q5⟩ := hl
  obtain ⟨w, rfl, hw'⟩ := Rgg.in32_nat hw
  obtain ⟨q, rfl⟩ := Int.eq_ofNat_of_zero_le q0
  rw [toNat_cast, toNat_cast] at hv2
  obtain ⟨mm, hm⟩ := steps_of (T := Lo2) (fid := 10) (lid := 10) (base := 0) (c := lpc Lo2 10 10) q (fun j => [vi K, vU n, osW 0 l.length, vi k, osW 1 o.length, vi e, osW 2 w2.length, vi f, vU (Rgg.rdN w j : Nat), vi i, vi q, vi (j : Nat)]) (fun _ => [some (rowS l t1), some (rowS o t2), some (rowS w2 t3)])
    (.ext 2, [vi K, vU n, osW 0 l.length, vi k, osW 1 o.length, vi e, osW 2 w2.length, vi f, vU (Rgg.rdN w q : Nat), vi i, vi q, vi q], [some (rowS l t1), some (rowS o t2), some (rowS w2 t3)])
    (fun j hj again => by
      refine (nl10_10 ..).trans ?_
      rw [Rgg.in32_of (Rgg.rd_lt hw' j), toNat_cast, toNat_cast, wrap_succ (by omega)]
      simp only [dec_lt hj, dec_ge, cond_true, decide_eq_true (show (j : Int) < 5 by omega), Bool.and_self]
      rfl)
    (fun again => by
      refine (nl10_10 ..).trans ?_
      simp only [dec_ll, cond_false])
  exact ⟨mm, hm.trans (by rw [leaf_val hv2])⟩)
theorem Lo3_ok : TabOK Lo3 := Lo2_ok.addLoop (g := 10) (lid := 10) (r := l10_10) fun b k H o k' H' hv => by refine LoopOK.tab ?_ ?_ ?_ ?_ (l10_10_run b k H o k' H' hv) <;> rfl
theorem rp_lt {w K : Nat} (hw : w < 4294967296) : ∀ r, Rgg.rpN K w r < 4294967296
  | 0 => hw
  | r + 1 => Rgg.rd_lt (rp_lt hw r) K
theorem l10_8_run : ∀ base kv H o kv' H', (l10_8 base kv H).val = some (o, kv', H') → LoopOK Lo3 10 8 base kv H o kv' H' := l10_8_ok Lo3_ok (by kernel_rfl) (by
  intro K n k e f w l o w2 k1 k2 k3 t1 t2 t3 r hv
  obtain ⟨hl, hv2⟩ := guard_val hv
  simp only [Bool.and_eq_true, decide_eq_true_eq] at hl
  obtain ⟨⟨⟨⟨⟨rfl, rfl⟩, rfl⟩, hw⟩, k1⟩, k5⟩ := hl
  obtain ⟨w, rfl, hw'⟩ := Rgg.in32_nat hw
  rw [toNat_cast, show Rgg.rpS K.toNat w 40 = Rgg.rpN K.toNat w 40 from Rgg.stk_eq ..] at hv2
  obtain ⟨mm, hm⟩ := steps_of (T := Lo3) (fid := 10) (lid := 8) (base := 0) (c := lpc Lo3 10 8) 40 (fun j => [vi K, vU n, osW 0 l.length, vi k, osW 1 o.length, vi e, osW 2 w2.length, vi f, vU (Rgg.rpN K.toNat w j : Nat), vi (j : Nat)]) (fun _ => [some (rowS l t1), some (rowS o t2), some (rowS w2 t3)])
    (.ext 0, [vi K, vU n, osW 0 l.length, vi k, osW 1 o.length, vi e, osW 2 w2.length, vi f, vU (Rgg.rpN K.toNat w 40 : Nat), vi 40], [some (rowS l t1), some (rowS o t2), some (rowS w2 t3)])
    (fun j hj again => by
      refine (nl10_8 ..).trans ?_
      rw [Rgg.in32_of (rp_lt hw' j), toNat_cast, wrap_succ (by omega)]
      simp only [decide_eq_true (show (j : Int) < 40 by omega), decide_eq_true (show 0 ≤ K by omega), decide_eq_true k5, decide_true, cond_true, Bool.and_self]
      rfl)
    (fun again => by
      refine (nl10_8 ..).trans ?_
      rfl)
  exact ⟨mm, hm.trans (by rw [leaf_val hv2])⟩)
theorem l10_18_run : ∀ base kv H o kv' H', (l10_18 base kv H).val = some (o, kv', H') → LoopOK Lo3 10 18 base kv H o kv' H' := l10_18_ok Lo3_ok (by kernel_rfl) (by
  intro K w t l w2 k1 k3 t1 t3 r hv
  obtain ⟨hl, hv2⟩ := guard_val hv
  simp only [Bool.and_eq_true, decide_eq_true_eq] at hl
  obtain ⟨⟨⟨⟨rfl, rfl⟩, hw⟩, rfl⟩, hall⟩ := hl
  obtain ⟨w, rfl, hw'⟩ := Rgg.in32_nat hw
  rw [toNat_cast, List.all_eq_true] at hall
  obtain ⟨mm, hm⟩ := steps_of (T := Lo3) (fid := 10) (lid := 18) (base := 0) (c := lpc Lo3 10 18) (Rgg.bL w).length (fun i => [.dead, vi K, osW 0 l.length, osW 1 w2.length, vU w, vU (Rgg.rmN w i : Nat)]) (fun _ => [some (rowS l t1), some (rowS w2 t3)])
    (.ext 4, [.dead, vi K, osW 0 l.length, osW 1 w2.length, vU w, vU 0], [some (rowS l t1), some (rowS w2 t3)])
    (fun i hi again => by
      obtain ⟨r0, r1, r2, r3⟩ := Rgg.rm_at hw' hi
      have hg := eq_of_beq (hall _ (List.mem_of_getElem? r3))
      refine (nl10_18 ..).trans ?_
      rw [Rgg.ne0 r0, Rgg.clr32 r0 r1, decide_eq_true (show (0 : Int) < (Rgg.rmN w i : Nat) by omega), decide_eq_true (show ((Rgg.rmN w i : Nat) : Int) < 4294967296 by omega), toNat_cast, toNat_cast, dec_ge, decide_eq_true (show ((Rgg.tzN (Rgg.rmN w i) : Nat) : Int) < 32 by omega)]
      rw [Rgg.gone32' (Rgg.paN (Rgg.tzN (Rgg.rmN w i))) w (Rgg.trN_lt _ _) hw', show Rgg.mk (fun i_1 => (Rgg.paN (Rgg.tzN (Rgg.rmN w i))).testBit i_1 && !w.testBit i_1) 32 = Rgg.gnB (Rgg.tzN (Rgg.rmN w i)) w from rfl, hg]
      rfl)
    (fun again => by
      refine (nl10_18 ..).trans ?_
      rw [Rgg.rm_end hw']
      rfl)
  exact ⟨mm, hm.trans (by rw [leaf_val hv2])⟩)
theorem l10_28_run : ∀ base kv H o kv' H', (l10_28 base kv H).val = some (o, kv', H') → LoopOK Lo3 10 28 base kv H o kv' H' := l10_28_ok Lo3_ok (by kernel_rfl) (by
  intro q a c k1 k2 t1 t2 r hv
  obtain ⟨hl, hv2⟩ := guard_val hv
  simp only [Bool.and_eq_true, decide_eq_true_eq] at hl
  obtain ⟨⟨⟨⟨⟨rfl, rfl⟩, rfl⟩, hsa⟩, hsc⟩, hall⟩ := hl
  have hsc := sm_le hsc
  rw [List.all_eq_true] at hall
  obtain ⟨mm, hm⟩ := steps_of (T := Lo3) (fid := 10) (lid := 28) (base := 0) (c := lpc Lo3 10 28) c.length (fun i => [.dead, osW 0 a.length, osW 1 c.length, vi c.length, vi (i : Nat)]) (fun _ => [some (rowS a t1), some (rowS c t2)])
    (.ext 6, [.dead, osW 0 a.length, osW 1 c.length, vi c.length, vi c.length], [some (rowS a t1), some (rowS c t2)])
    (fun i hi again => by
      have hx := List.getElem?_eq_getElem hi
      generalize c[i] = x at hx
      have hin := hall x (List.mem_of_getElem? hx)
      refine (nl10_28 ..).trans ?_
      rw [wrap_succ (by omega)]
      simp only [dec_lt hi, dec_ge, cond_true, toNat_cast, hx, oM, hsa, hin, Bool.not_true, cond_false])
    (fun again => by
      refine (nl10_28 ..).trans ?_
      simp only [dec_ll, cond_false])
  exact ⟨mm, hm.trans (by rw [leaf_val hv2])⟩)
theorem Lo4_ok : TabOK Lo4 := by
  have h := Lo3_ok
  have h := h.addLoop (g := 10) (lid := 8) (r := l10_8) fun b k H o k' H' hv => by refine LoopOK.tab ?_ ?_ ?_ ?_ (l10_8_run b k H o k' H' hv) <;> rfl
  have h := h.addLoop (g := 10) (lid := 18) (r := l10_18) fun b k H o k' H' hv => by refine LoopOK.tab ?_ ?_ ?_ ?_ (l10_18_run b k H o k' H' hv) <;> rfl
  have h := h.addLoop (g := 10) (lid := 28) (r := l10_28) fun b k H o k' H' hv => by refine LoopOK.tab ?_ ?_ ?_ ?_ (l10_28_run b k H o k' H' hv) <;> rfl
  exact h
theorem low_body (k b : Int) (r : (0 ≤ k ∧ k < 256) ∧ Rgg.in32 b = true) (o : Int) (ro : 0 ≤ o ∧ o < 256) : evBody Lo4 10 [pil k b, .sc (.int .u8 o)] [] = some (vb true, []) := by
  refine (nf10 ..).trans ?_
  have hP := Rgg.pl_of k b
  generalize Rgg.pK k = K at *
  generalize Rgg.pB k b = n at *
  have k1 := hP.k1
  have k5 := hP.k5
  have hR := Rgg.rd_pl hP
  obtain ⟨s, hs, e⟩ : ∃ s : Nat, s < K.toNat ∧ (IntKind.i64.wrap o).tmod K = (s : Int) := by
    refine ⟨o.toNat % K.toNat, Nat.mod_lt _ (by omega), ?_⟩
    rw [wrapi (x := o) (by omega) (by omega), Int.tmod_eq_emod_of_nonneg ro.1, Int.natCast_emod, show ((o.toNat : Nat) : Int) = o by omega, show ((K.toNat : Nat) : Int) = K by omega]
  have a1 := Rgg.ap_le hP
  have b1 := Rgg.rd_len hP
  have b2 := Rgg.cnt_ro (l := Rgg.fB n) K.toNat (by omega)
  have b3 : (Rgg.wdL n).length ≤ 32 := by
    rw [Rgg.wd_cn]
    exact Nat.le_trans (List.length_filter_le _ _) (by rw [List.length_range]; exact Nat.le_refl _)
  have b4 : (Rgg.wdL (Rgg.loN n s)).length ≤ 32 := by
    rw [Rgg.wd_cn]
    exact Nat.le_trans (List.length_filter_le _ _) (by rw [List.length_range]; exact Nat.le_refl _)
  rw [e, toNat_cast, toNat_cast, Rgg.rpS_fix (by omega) hP.n32, toNat_cast, toNat_cast, r.2, decide_eq_true r.1.1, decide_eq_true r.1.2, Rgg.in32_of hP.n32, hP.opE, Rgg.lwE_num hP hs, Rgg.lw_num hP hs, Rgg.ls_num hP, hR.opE, Rgg.lwE_out hP, Rgg.rd_own hP, Rgg.rd_in hP, Rgg.rd_down hP, b1]
  rw [Rgg.in32_of (Rgg.loN_lt n s), Rgg.in32_of hR.n32, show sm (Rgg.apL K (Rgg.wdL n)) = true from decide_eq_true (by omega), show sm (Rgg.wdL (Rgg.rdN n K.toNat)) = true from decide_eq_true (by omega), show sm (Rgg.wdL (Rgg.loN n s)) = true from decide_eq_true (by omega)]
  simp only [decide_eq_false (show ¬ K = 0 by omega), dec_ge, decide_eq_true (show (s : Int) < 5 by omega), decide_eq_true k1, decide_eq_true k5, beq_self_eq_true, bne_self_eq_false, Bool.and_self, Bool.not_false, cond_true, cond_false, decide_true]
end Go.Ev.Rag
