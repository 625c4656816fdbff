/- Lowered bags: tables and normal forms. -/
import Derived.Test.YtajhpbahjindkaaDoorRt
import Derived.Test.YtajhpbahjindkaaDoorRd
import Derived.Test.YtajhpbahjindkaaDoorRp
set_option linter.unusedVariables false
set_option linter.unusedSimpArgs false
namespace Go.Ev.Rag
open Go Go.Ev
set_option maxRecDepth 1000000
set_option maxHeartbeats 0
set_option linter.unusedVariables false
noncomputable def E0 : Tab := { R3 with refm := refL, lay := true }
theorem nl79 (again : Ag) (K k i : Int) (g : Bool) (l : List Bool) : lpStep E0 79 3 1 (lpc E0 79 3) again [ps 0, vi k, vb g, vi i] [some (rF K l)] = (bif decide (i < 32) then bif decide (0 ≤ k) then bif IntKind.i64.wrap (↑(BitVec.ofInt 64 i ||| BitVec.ofInt 64 (IntKind.i64.wrap (1 * 2 ^ Min.min k.toNat 64))).toNat : Int) != i then bif decide (0 ≤ IntKind.i64.wrap (↑(BitVec.ofInt 64 i ||| BitVec.ofInt 64 (IntKind.i64.wrap (1 * 2 ^ Min.min k.toNat 64))).toNat : Int)) then bif decide (IntKind.i64.wrap (↑(BitVec.ofInt 64 i ||| BitVec.ofInt 64 (IntKind.i64.wrap (1 * 2 ^ Min.min k.toNat 64))).toNat : Int) < (↑32 : Int)) then oM l[(IntKind.i64.wrap (↑(BitVec.ofInt 64 i ||| BitVec.ofInt 64 (IntKind.i64.wrap (1 * 2 ^ Min.min k.toNat 64))).toNat : Int)).toNat]? fun x => bif x then bif decide (0 ≤ i) then bif decide (i < (↑32 : Int)) then oM l[i.toNat]? fun x => bif !x then bif decide (0 ≤ i) then bif decide (i < (↑32 : Int)) then oM l[i.toNat]? fun x => bif decide (0 ≤ IntKind.i64.wrap (↑(BitVec.ofInt 64 i ||| BitVec.ofInt 64 (IntKind.i64.wrap (1 * 2 ^ Min.min k.toNat 64))).toNat : Int)) then bif decide (IntKind.i64.wrap (↑(BitVec.ofInt 64 i ||| BitVec.ofInt 64 (IntKind.i64.wrap (1 * 2 ^ Min.min k.toNat 64))).toNat : Int) < (↑32 : Int)) then oM (l.set i.toNat true)[(IntKind.i64.wrap (↑(BitVec.ofInt 64 i ||| BitVec.ofInt 64 (IntKind.i64.wrap (1 * 2 ^ Min.min k.toNat 64))).toNat : Int)).toNat]? fun x => again [.ps 0 0 0 0, vi k, vb true, vi (IntKind.i64.wrap (i + 1))] [some { c := [vi K, .run .bool ((l.set i.toNat true).set (IntKind.i64.wrap (↑(BitVec.ofInt 64 i ||| BitVec.ofInt 64 (IntKind.i64.wrap (1 * 2 ^ Min.min k.toNat 64))).toNat : Int)).toNat false)], vr := true, ty := 89, fz := false, loose := false : Row }] else none else none else none else none else again [.ps 0 0 0 0, vi k, vb g, vi (IntKind.i64.wrap (i + 1))] [some ⟨[vi K, .run .bool l], true, 89, false, false, none⟩] else none else none else again [.ps 0 0 0 0, vi k, vb g, vi (IntKind.i64.wrap (i + 1))] [some ⟨[vi K, .run .bool l], true, 89, false, false, none⟩] else none else none else again [.ps 0 0 0 0, vi k, vb g, vi (IntKind.i64.wrap (i + 1))] [some ⟨[vi K, .run .bool l], true, 89, false, false, none⟩] else none else some (.ext 0, [.ps 0 0 0 0, vi k, vb g, vi i], [some ⟨[vi K, .run .bool l], true, 89, false, false, none⟩])) := by kernel_rfl
def l79_3t (K k : Int) (g : Bool) (l : List Bool) : Tree (Out × List AV × Hp) := .br (fam l && decide (0 ≤ k) && decide (k < 5)) (.leaf (.ext 0, [ps 0, vi k, vb (g || Rgg.loC l k.toNat 32), vi 32], [some (rF K (Rgg.loF l k.toNat 32))])) .fail
def l79_3 (base : Nat) (kv : List AV) (H : Hp) : Tree (Out × List AV × Hp) := match Nat.beq base 1, kv, H with
  | true, [(.ps 0 0 0 0), (.sc (.int .i64 k)), (.sc (.bool g)), (.sc (.int .i64 0))], [some ⟨[.sc (.int .i64 K), .run .bool l], true, 89, false, false, none⟩] => l79_3t K k g l
  | _, _, _ => .fail
theorem l79_3_ok {T : Tab} (hT : TabOK T) (hlo : loopOf T.fn 79 3 = some (lpc T 79 3)) (h : ∀ (K k : Int) (g : Bool) (l : List Bool) (r : Out × List AV × Hp), (l79_3t K k g l).val = some r → ∃ mm, lpRun T 79 3 1 (lpc T 79 3) mm [ps 0, vi k, vb g, vi 0] [some (rF K l)] = some r) : ∀ base kv H o kv' H', (l79_3 base kv H).val = some (o, kv', H') → LoopOK T 79 3 base kv H o kv' H' := by
  intro base kv H o kv' H' hv
  unfold l79_3 at hv
  split at hv
  · rename_i hb
    obtain rfl := Nat.eq_of_beq_eq_true hb
    exact loop_ok hT hlo (h _ _ _ _ _ hv)
  · cases hv
noncomputable def E1 : Tab := (E0).addLoop 79 3 l79_3
theorem nf79 (K k : Int) (l : List Bool) : evBody E1 79 [ps 0, vi k] [some (rF K l)] = (bif decide (l.length = 32) && decide (0 ≤ k) && decide (k < 5) then some (vb (false || Rgg.loC l k.toNat 32), [some ⟨[vi K, .run .bool (Rgg.loF l k.toNat 32)], true, 89, false, false, none⟩]) else none) := by kernel_rfl
def c79t (K k : Int) (l : List Bool) : Tree (AV × Hp) := .br (fam l && decide (0 ≤ k) && decide (k < 5)) (.leaf (vb (Rgg.loC l k.toNat 32), [some (rF K (Rgg.loF l k.toNat 32))])) .fail
def c79 (args : List AV) (H : Hp) : Tree (AV × Hp) := match args, H with
  | [(.ps 0 0 0 0), (.sc (.int .i64 k))], [some ⟨[.sc (.int .i64 K), .run .bool l], true, 89, false, false, none⟩] => c79t K k l
  | _, _ => .fail
theorem c79_ok {T : Tab} (hT : TabOK T) (h : ∀ (K k : Int) (l : List Bool) (r : AV × Hp), (c79t K k l).val = some r → evBody T 79 [ps 0, vi k] [some (rF K l)] = some r) : ∀ args H v H', (c79 args H).val = some (v, H') → CallOK T 79 args H v H' := by
  intro args H v H' hv
  unfold c79 at hv
  split at hv
  · exact evBody_sound hT (h _ _ _ _ hv)
  · cases hv
noncomputable def E2 : Tab := (E0).addCall 79 c79
theorem nl32_8 (again : Ag) (K i : Int) (g : Bool) (l : List Bool) : lpStep E2 32 8 0 (lpc E2 32 8) again [vi K, ps 0, vb g, vi K, vi i] [some (rF K l)] = (bif decide (i < K) then bif decide (l.length = 32) && decide (0 ≤ i) && decide (i < 5) then bif Rgg.loC l i.toNat 32 then again [vi K, .ps 0 0 0 0, vb true, vi K, vi (IntKind.i64.wrap (i + 1))] [some ⟨[vi K, .run .bool (Rgg.loF l i.toNat 32)], true, 89, false, false, none⟩] else again [vi K, .ps 0 0 0 0, vb g, vi K, vi (IntKind.i64.wrap (i + 1))] [some ⟨[vi K, .run .bool (Rgg.loF l i.toNat 32)], true, 89, false, false, none⟩] else none else some (.ext 2, [vi K, .ps 0 0 0 0, vb g, vi K, vi i], [some ⟨[vi K, .run .bool l], true, 89, false, false, none⟩])) := by kernel_rfl
def l32_8t (K K2 q : Int) (g : Bool) (l : List Bool) : Tree (Out × List AV × Hp) := .br (fam l && decide (1 ≤ K) && decide (K ≤ 5) && decide (K2 = K) && decide (q = K)) (.leaf (.ext 2, [vi K, ps 0, vb (Rgg.roC l K.toNat || g), vi K, vi K], [some (rF K (Rgg.roF l K.toNat))])) .fail
def l32_8 (base : Nat) (kv : List AV) (H : Hp) : Tree (Out × List AV × Hp) := match Nat.beq base 0, kv, H with
  | true, [(.sc (.int .i64 K)), (.ps 0 0 0 0), (.sc (.bool g)), (.sc (.int .i64 q)), (.sc (.int .i64 0))], [some ⟨[.sc (.int .i64 K2), .run .bool l], true, 89, false, false, none⟩] => l32_8t K K2 q g l
  | _, _, _ => .fail
theorem l32_8_ok {T : Tab} (hT : TabOK T) (hlo : loopOf T.fn 32 8 = some (lpc T 32 8)) (h : ∀ (K K2 q : Int) (g : Bool) (l : List Bool) (r : Out × List AV × Hp), (l32_8t K K2 q g l).val = some r → ∃ mm, lpRun T 32 8 0 (lpc T 32 8) mm [vi K, ps 0, vb g, vi q, vi 0] [some (rF K2 l)] = some r) : ∀ base kv H o kv' H', (l32_8 base kv H).val = some (o, kv', H') → LoopOK T 32 8 base kv H o kv' H' := by
  intro base kv H o kv' H' hv
  unfold l32_8 at hv
  split at hv
  · rename_i hb
    obtain rfl := Nat.eq_of_beq_eq_true hb
    exact loop_ok hT hlo (h _ _ _ _ _ _ hv)
  · cases hv
noncomputable def E3 : Tab := (E2).addLoop 32 8 l32_8
theorem nl32_5 (again : Ag) (K : Int) (g : Bool) (l : List Bool) : lpStep E3 32 5 0 (lpc E3 32 5) again [vi K, ps 0, vb g] [some (rF K l)] = (bif g then bif decide (l.length = 32) && decide (1 ≤ K) && decide (K ≤ 5) && decide (K = K) && decide (K = K) then again [vi K, .ps 0 0 0 0, vb (Rgg.roC l K.toNat || false)] [some ⟨[vi K, .run .bool (Rgg.roF l K.toNat)], true, 89, false, false, none⟩] else none else some (.ext 0, [vi K, .ps 0 0 0 0, vb g], [some ⟨[vi K, .run .bool l], true, 89, false, false, none⟩])) := by kernel_rfl
def l32_5t (K K2 : Int) (l : List Bool) : Tree (Out × List AV × Hp) := .br (fam l && decide (1 ≤ K) && decide (K ≤ 5) && decide (K2 = K)) (.leaf (.ext 0, [vi K, ps 0, vb false], [some (rF K (Rgg.roF l K.toNat))])) .fail
def l32_5 (base : Nat) (kv : List AV) (H : Hp) : Tree (Out × List AV × Hp) := match Nat.beq base 0, kv, H with
  | true, [(.sc (.int .i64 K)), (.ps 0 0 0 0), (.sc (.bool true))], [some ⟨[.sc (.int .i64 K2), .run .bool l], true, 89, false, false, none⟩] => l32_5t K K2 l
  | _, _, _ => .fail
theorem l32_5_ok {T : Tab} (hT : TabOK T) (hlo : loopOf T.fn 32 5 = some (lpc T 32 5)) (h : ∀ (K K2 : Int) (l : List Bool) (r : Out × List AV × Hp), (l32_5t K K2 l).val = some r → ∃ mm, lpRun T 32 5 0 (lpc T 32 5) mm [vi K, ps 0, vb true] [some (rF K2 l)] = some r) : ∀ base kv H o kv' H', (l32_5 base kv H).val = some (o, kv', H') → LoopOK T 32 5 base kv H o kv' H' := by
  intro base kv H o kv' H' hv
  unfold l32_5 at hv
  split at hv
  · rename_i hb
    obtain rfl := Nat.eq_of_beq_eq_true hb
    exact loop_ok hT hlo (h _ _ _ _ hv)
  · cases hv
noncomputable def E4 : Tab := (E3).addLoop 32 5 l32_5
theorem nf32 (K : Int) (bags : List ByteArray) : evBody E4 32 [vi K, lS bags] [] = (bif Rgg.opE K bags == 0 then bif decide ((Rgg.opF K bags).length = 32) && decide (1 ≤ K) && decide (K ≤ 5) && decide (K = K) then bif decide ((Rgg.roF (Rgg.opF K bags) K.toNat).length = 32) && decide (1 ≤ K) && decide (K ≤ 5) then some (.tuple [.os 0 0 0 (Rgg.wrt K fun n => Rgg.at_ (Rgg.roF (Rgg.opF K bags) K.toNat) n).length true false true, vi 0], [some ⟨[.run .str (Rgg.wrt K fun n => Rgg.at_ (Rgg.roF (Rgg.opF K bags) K.toNat) n)], false, Rgg.tyS (Rgg.wrt K fun n => Rgg.at_ (Rgg.roF (Rgg.opF K bags) K.toNat) n), false, false, none⟩]) else none else none else bif Rgg.opE K bags != 0 then some (.tuple [osW 0 0, vi (Rgg.opE K bags)], [some { c := [.run .str []], vr := false, ty := 0, fz := false, loose := false : Row }]) else none) := by kernel_rfl
theorem nf30 (K k : Int) (bags : List ByteArray) : evBody E2 30 [vi K, lS bags, vi k] [] = (bif Rgg.opE K bags == 0 then bif decide (k < 0) then some (.tuple [osW 0 0, vi 2], [some { c := [.run .str []], vr := false, ty := 0, fz := false, loose := false : Row }]) else bif decide (k ≥ K) then some (.tuple [osW 0 0, vi 2], [some { c := [.run .str []], vr := false, ty := 0, fz := false, loose := false : Row }]) else bif decide ((Rgg.opF K bags).length = 32) && decide (0 ≤ k) && decide (k < 5) then bif decide ((Rgg.loF (Rgg.opF K bags) k.toNat 32).length = 32) && decide (1 ≤ K) && decide (K ≤ 5) then some (.tuple [.os 0 0 0 (Rgg.wrt K fun n => Rgg.at_ (Rgg.loF (Rgg.opF K bags) k.toNat 32) n).length true false true, vi 0], [some ⟨[.run .str (Rgg.wrt K fun n => Rgg.at_ (Rgg.loF (Rgg.opF K bags) k.toNat 32) n)], false, Rgg.tyS (Rgg.wrt K fun n => Rgg.at_ (Rgg.loF (Rgg.opF K bags) k.toNat 32) n), false, false, none⟩]) else none else none else bif Rgg.opE K bags != 0 then some (.tuple [osW 0 0, vi (Rgg.opE K bags)], [some { c := [.run .str []], vr := false, ty := 0, fz := false, loose := false : Row }]) else bif decide (k < 0) then some (.tuple [osW 0 0, vi 2], [some { c := [.run .str []], vr := false, ty := 0, fz := false, loose := false : Row }]) else bif decide (k ≥ K) then some (.tuple [osW 0 0, vi 2], [some ⟨[.run .str []], false, 0, false, false, none⟩]) else none) := by kernel_rfl
def c30t (K k : Int) (bags : List ByteArray) : Tree (AV × Hp) := .leaf (.tuple [osW 0 (Rgg.lwL K bags k).length, vi (Rgg.lwE K bags k)], [some (rS (Rgg.lwL K bags k))])
def c30 (args : List AV) (H : Hp) : Tree (AV × Hp) := match args, H with
  | [(.sc (.int .i64 K)), (.sl .str bags false), (.sc (.int .i64 k))], [] => c30t K k bags
  | _, _ => .fail
theorem c30_ok {T : Tab} (hT : TabOK T) (h : ∀ (K k : Int) (bags : List ByteArray) (r : AV × Hp), (c30t K k bags).val = some r → evBody T 30 [vi K, lS bags, vi k] [] = some r) : ∀ args H v H', (c30 args H).val = some (v, H') → CallOK T 30 args H v H' := by
  intro args H v H' hv
  unfold c30 at hv
  split at hv
  · exact evBody_sound hT (h _ _ _ _ hv)
  · cases hv
def c32t (K : Int) (bags : List ByteArray) : Tree (AV × Hp) := .leaf (.tuple [osW 0 (Rgg.lsL K bags).length, vi (Rgg.opE K bags)], [some (rS (Rgg.lsL K bags))])
def c32 (args : List AV) (H : Hp) : Tree (AV × Hp) := match args, H with
  | [(.sc (.int .i64 K)), (.sl .str bags false)], [] => c32t K bags
  | _, _ => .fail
theorem c32_ok {T : Tab} (hT : TabOK T) (h : ∀ (K : Int) (bags : List ByteArray) (r : AV × Hp), (c32t K bags).val = some r → evBody T 32 [vi K, lS bags] [] = some r) : ∀ args H v H', (c32 args H).val = some (v, H') → CallOK T 32 args H v H' := by
  intro args H v H' hv
  unfold c32 at hv
  split at hv
  · exact evBody_sound hT (h _ _ _ hv)
  · cases hv
end Go.Ev.Rag
namespace Rgg
open Go
theorem or64 : ∀ n, n < 32 → ∀ k, k < 5 → IntKind.i64.wrap ((BitVec.ofInt 64 (n : Nat) ||| BitVec.ofInt 64 (IntKind.i64.wrap (1 * 2 ^ Min.min k 64))).toNat : Int) = ((n ||| 2 ^ k : Nat) : Int) := by decide +kernel
theorem or_ne : ∀ n, n < 32 → ∀ k, k < 5 → (((n ||| 2 ^ k : Nat) : Int) != (n : Int)) = !n.testBit k := by decide +kernel
theorem at_set'' {l : List Bool} (hl : l.length = 32) {n m : Nat} (hn : n < 32) (v : Bool) : at_ (l.set n v) m = if n = m then v else at_ l m := at_set' (by omega) v
theorem loC_succ (l : List Bool) (k i : Nat) : loC l k (i + 1) = (loC l k i || (!i.testBit k && at_ l (i ||| 2 ^ k) && !at_ l i)) := by
  unfold loC
  rw [List.range_succ, List.any_append, List.any_cons, List.any_nil, Bool.or_false]
theorem lo_same {l : List Bool} {k i : Nat} (hi : i < 32) (k5 : k < 5) (h : (!i.testBit k && at_ l (i ||| 2 ^ k) && !at_ l i) = false) : loF l k (i + 1) = loF l k i := by
  refine at_ext (loF_len ..) (loF_len ..) fun n hn => ?_
  rw [at_loF hn, at_loF hn]
  cases hb : n.testBit k with
  | true =>
    rw [cond_true, cond_true]
    by_cases e : n ^^^ 2 ^ k = i
    · obtain ⟨_, x2, x3, _⟩ := xor_in n hn k k5 hb
      rw [e] at x2 x3
      rw [x2, x3, Bool.not_false, Bool.true_and] at h
      rw [e, decide_eq_true (show i < i + 1 by omega), decide_eq_false (show ¬ i < i by omega)]
      cases ha : at_ l n with
      | false => rfl
      | true => rw [ha, Bool.true_and, Bool.not_eq_false'] at h; rw [h]; rfl
    · rw [decide_eq_decide.2 (show n ^^^ 2 ^ k < i + 1 ↔ n ^^^ 2 ^ k < i by omega)]
  | false =>
    rw [cond_false, cond_false]
    by_cases e : n = i
    · subst e
      rw [hb, Bool.not_false, Bool.true_and] at h
      rw [decide_eq_true (show n < n + 1 by omega), decide_eq_false (show ¬ n < n by omega), Bool.true_and, Bool.false_and, Bool.or_false]
      cases ha : at_ l n with
      | true => rfl
      | false => rw [ha, Bool.not_false, Bool.and_true] at h; rw [h]; rfl
    · rw [decide_eq_decide.2 (show n < i + 1 ↔ n < i by omega)]
theorem lo_swap {l : List Bool} {k i : Nat} (hi : i < 32) (k5 : k < 5) (h : (!i.testBit k && at_ l (i ||| 2 ^ k) && !at_ l i) = true) : loF l k (i + 1) = ((loF l k i).set i true).set (i ||| 2 ^ k) false := by
  simp only [Bool.and_eq_true, Bool.not_eq_true'] at h
  obtain ⟨⟨hb, hm⟩, hi'⟩ := h
  obtain ⟨o1, o2, _⟩ := or_in i hi k k5
  have o3 := or_un i hi k k5 hb
  refine at_ext (loF_len ..) (by rw [List.length_set, List.length_set]; exact loF_len ..) fun n hn => ?_
  rw [at_set'' (by rw [List.length_set]; exact loF_len ..) o1, at_set'' (loF_len ..) hi, at_loF hn, at_loF hn]
  by_cases e : i ||| 2 ^ k = n
  · rw [if_pos e, ← e, o2, cond_true, o3, hi', decide_eq_true (show i < i + 1 by omega)]
    simp
  · rw [if_neg e]
    by_cases e2 : i = n
    · subst e2
      rw [if_pos rfl, hb, cond_false, hm, decide_eq_true (show i < i + 1 by omega), Bool.true_and, Bool.or_true]
    · rw [if_neg e2]
      cases hbn : n.testBit k with
      | true =>
        have : n ^^^ 2 ^ k ≠ i := fun q => by
          obtain ⟨_, _, x3, _⟩ := xor_in n hn k k5 hbn
          rw [q] at x3; exact e x3
        rw [cond_true, cond_true, decide_eq_decide.2 (show n ^^^ 2 ^ k < i + 1 ↔ n ^^^ 2 ^ k < i by omega)]
      | false => rw [cond_false, cond_false, decide_eq_decide.2 (show n < i + 1 ↔ n < i by omega)]
theorem lo_zero {l : List Bool} (hl : l.length = 32) (k : Nat) : loF l k 0 = l := by
  refine at_ext (loF_len ..) hl fun n hn => ?_
  rw [at_loF hn, decide_eq_false (show ¬ n ^^^ 2 ^ k < 0 by omega), decide_eq_false (show ¬ n < 0 by omega)]
  cases n.testBit k <;> simp
theorem lo_at_i {l : List Bool} {k i : Nat} (hi : i < 32) (hb : i.testBit k = false) : at_ (loF l k i) i = at_ l i := by
  rw [at_loF hi, hb, cond_false, decide_eq_false (show ¬ i < i by omega), Bool.false_and, Bool.or_false]
theorem lo_at_m {l : List Bool} {k i : Nat} (hi : i < 32) (k5 : k < 5) (hb : i.testBit k = false) : at_ (loF l k i) (i ||| 2 ^ k) = at_ l (i ||| 2 ^ k) := by
  obtain ⟨o1, o2, _⟩ := or_in i hi k k5
  rw [at_loF o1, o2, cond_true, or_un i hi k k5 hb, decide_eq_false (show ¬ i < i by omega), Bool.not_false, Bool.or_true, Bool.and_true]
end Rgg
namespace Go.Ev.Rag
open Go Go.Ev Go.Proofs
set_option maxRecDepth 1000000
set_option linter.unusedVariables false
set_option linter.unusedSimpArgs false
theorem E0_ok : TabOK E0 := ⟨fun f a H v H' hv => CallOK.tab (T := R3) (by rfl) (by rfl) (R3_ok.calls f a H v H' hv), fun f l b k H o k' H' hv => LoopOK.tab (T := R3) (by rfl) (by rfl) (by rfl) (by rfl) (R3_ok.loops f l b k H o k' H' hv), R3_ok.fns, R3_ok.mixed⟩
theorem l79_3_run : ∀ base kv H o kv' H', (l79_3 base kv H).val = some (o, kv', H') → LoopOK E0 79 3 base kv H o kv' H' := l79_3_ok E0_ok (by kernel_rfl) (by
  intro K k g l r hv
  obtain ⟨hl, hv2⟩ := guard_val hv
  simp only [Bool.and_eq_true, decide_eq_true_eq] at hl
  obtain ⟨⟨hf, k0⟩, k5⟩ := hl
  have hf := fam_len hf
  obtain ⟨k, rfl⟩ := Int.eq_ofNat_of_zero_le k0
  have k5 : k < 5 := by omega
  rw [toNat_cast] at hv2
  have hz := Rgg.lo_zero hf k
  have hc0 : Rgg.loC l k 0 = false := rfl
  obtain ⟨mm, hm⟩ := steps_of (T := E0) (fid := 79) (lid := 3) (base := 1) (c := lpc E0 79 3) 32 (fun i => [ps 0, vi k, vb (g || Rgg.loC l k i), vi (i : Nat)]) (fun i => [some (rF K (Rgg.loF l k i))])
    (.ext 0, [ps 0, vi k, vb (g || Rgg.loC l k 32), vi 32], [some (rF K (Rgg.loF l k 32))])
    (fun i hi again => by
      have h1 := Rgg.loF_len l k i
      obtain ⟨o1, o2, _⟩ := Rgg.or_in i hi k k5
      refine (nl79 ..).trans ?_
      rw [toNat_cast, Rgg.or64 i hi k k5, Rgg.or_ne i hi k k5, wrap_succ (by omega), Rgg.loC_succ]
      simp only [dec_ge, cond_true, toNat_cast, decide_eq_true (show (i : Int) < ((32 : Nat) : Int) by omega), decide_eq_true (show (i : Int) < 32 by omega), decide_eq_true (show ((i ||| 2 ^ k : Nat) : Int) < ((32 : Nat) : Int) by omega), decide_eq_true (show ((i ||| 2 ^ k : Nat) : Int) < 32 by omega), Rgg.at_get (l := Rgg.loF l k i) (i := i) (by omega), Rgg.at_get (l := Rgg.loF l k i) (i := i ||| 2 ^ k) (by omega), Rgg.at_get (l := (Rgg.loF l k i).set i true) (i := i ||| 2 ^ k) (by rw [List.length_set]; omega), oM]
      cases hb : i.testBit k with
      | true => rw [Rgg.lo_same hi k5 (by rw [hb]; rfl)]; simp
      | false =>
        rw [Rgg.lo_at_i hi hb, Rgg.lo_at_m hi k5 hb]
        cases hm : Rgg.at_ l (i ||| 2 ^ k) with
        | false => rw [Rgg.lo_same hi k5 (by rw [hb, hm]; rfl)]; simp
        | true =>
          cases hi' : Rgg.at_ l i with
          | true => rw [Rgg.lo_same hi k5 (by rw [hb, hm, hi']; rfl)]; simp
          | false => rw [Rgg.lo_swap hi k5 (by rw [hb, hm, hi']; rfl)]; simp)
    (fun again => by
      refine (nl79 ..).trans ?_
      rfl)
  rw [hz, hc0, Bool.or_false] at hm
  exact ⟨mm, hm.trans (by rw [leaf_val hv2])⟩)
theorem E1_ok : TabOK E1 := by
  have h := E0_ok
  have h := h.addLoop (g := 79) (lid := 3) (r := l79_3) fun b k H o k' H' hv => by refine LoopOK.tab ?_ ?_ ?_ ?_ (l79_3_run b k H o k' H' hv) <;> rfl
  exact h
theorem c79_run : ∀ args H v H', (c79 args H).val = some (v, H') → CallOK E1 79 args H v H' := c79_ok E1_ok (by
  intro K k l r hv
  obtain ⟨hl, hv2⟩ := guard_val hv
  refine (nf79 ..).trans ?_
  rw [show (decide (l.length = 32) && decide (0 ≤ k) && decide (k < 5)) = true from hl, leaf_val hv2]; rfl)
theorem E2_ok : TabOK E2 := by
  have h := E0_ok
  have h := h.addCall (g := 79) (r := c79) fun a H v H' hv => by refine CallOK.tab ?_ ?_ (c79_run a H v H' hv) <;> rfl
  exact h
theorem l32_8_run : ∀ base kv H o kv' H', (l32_8 base kv H).val = some (o, kv', H') → LoopOK E2 32 8 base kv H o kv' H' := l32_8_ok E2_ok (by kernel_rfl) (by
  intro K K2 q g l r hv
  obtain ⟨hl, hv2⟩ := guard_val hv
  simp only [Bool.and_eq_true, decide_eq_true_eq] at hl
  obtain ⟨⟨⟨⟨hf, k1⟩, k5⟩, rfl⟩, rfl⟩ := hl
  have hf := fam_len hf
  obtain ⟨K, rfl⟩ := Int.eq_ofNat_of_zero_le (show 0 ≤ q by omega)
  rw [toNat_cast] at hv2
  obtain ⟨mm, hm⟩ := steps_of (T := E2) (fid := 32) (lid := 8) (base := 0) (c := lpc E2 32 8) K (fun i => [vi K, ps 0, vb (Rgg.roC l i || g), vi K, vi (i : Nat)]) (fun i => [some (rF K (Rgg.roF l i))])
    (.ext 2, [vi K, ps 0, vb (Rgg.roC l K || g), vi K, vi K], [some (rF K (Rgg.roF l K))])
    (fun i hi again => by
      refine (nl32_8 ..).trans ?_
      rw [toNat_cast, wrap_succ (by omega)]
      simp only [dec_lt hi, dec_ge, cond_true, toNat_cast, decide_eq_true (Rgg.roF_len hf i), decide_eq_true (show (i : Int) < 5 by omega), Bool.and_self]
      rw [show Rgg.roC l (i + 1) = (Rgg.loC (Rgg.roF l i) i 32 || Rgg.roC l i) from rfl, show Rgg.roF l (i + 1) = Rgg.loF (Rgg.roF l i) i 32 from rfl]
      cases Rgg.loC (Rgg.roF l i) i 32 <;> rfl)
    (fun again => by
      refine (nl32_8 ..).trans ?_
      simp only [dec_ll, cond_false])
  exact ⟨mm, hm.trans (by rw [leaf_val hv2])⟩)
theorem E3_ok : TabOK E3 := by
  have h := E2_ok
  have h := h.addLoop (g := 32) (lid := 8) (r := l32_8) fun b k H o k' H' hv => by refine LoopOK.tab ?_ ?_ ?_ ?_ (l32_8_run b k H o k' H' hv) <;> rfl
  exact h
theorem l32_5_run : ∀ base kv H o kv' H', (l32_5 base kv H).val = some (o, kv', H') → LoopOK E3 32 5 base kv H o kv' H' := l32_5_ok E3_ok (by kernel_rfl) (by
  intro K K2 l r hv
  obtain ⟨hl, hv2⟩ := guard_val hv
  simp only [Bool.and_eq_true, decide_eq_true_eq] at hl
  obtain ⟨⟨⟨hf, k1⟩, k5⟩, rfl⟩ := hl
  have hf := fam_len hf
  obtain ⟨f1, f2⟩ := Rgg.ro_fix hf (m := K2.toNat) (by omega)
  have f3 := Rgg.roF_len hf K2.toNat
  obtain ⟨mm, hm⟩ := steps_of (T := E3) (fid := 32) (lid := 5) (base := 0) (c := lpc E3 32 5) (bif Rgg.roC l K2.toNat then 2 else 1) (fun i => [vi K2, ps 0, vb (match i with | 0 => true | 1 => Rgg.roC l K2.toNat | _ => false)]) (fun i => [some (rF K2 (match i with | 0 => l | _ => Rgg.roF l K2.toNat))])
    (.ext 0, [vi K2, ps 0, vb false], [some (rF K2 (Rgg.roF l K2.toNat))])
    (fun i hi again => by
      refine (nl32_5 ..).trans ?_
      match i with
      | 0 => simp only [cond_true, decide_eq_true hf, decide_eq_true k1, decide_eq_true k5, decide_true, Bool.and_self, Bool.or_false]
      | 1 =>
        cases h : Rgg.roC l K2.toNat with
        | false => rw [h] at hi; exact absurd hi (by decide)
        | true => simp only [cond_true, decide_eq_true f3, decide_eq_true k1, decide_eq_true k5, decide_true, Bool.and_self, Bool.or_false, f1, f2]
      | i + 2 => cases h : Rgg.roC l K2.toNat <;> rw [h] at hi <;> simp only [cond_true, cond_false] at hi <;> omega)
    (fun again => by
      refine (nl32_5 ..).trans ?_
      cases h : Rgg.roC l K2.toNat <;> rfl)
  exact ⟨mm, hm.trans (by rw [leaf_val hv2])⟩)
theorem E4_ok : TabOK E4 := by
  have h := E3_ok
  have h := h.addLoop (g := 32) (lid := 5) (r := l32_5) fun b k H o k' H' hv => by refine LoopOK.tab ?_ ?_ ?_ ?_ (l32_5_run b k H o k' H' hv) <;> rfl
  exact h
theorem c32_run : ∀ args H v H', (c32 args H).val = some (v, H') → CallOK E4 32 args H v H' := c32_ok E4_ok (by
  intro K bags r hv
  refine (nf32 ..).trans ?_
  rw [leaf_val hv]
  unfold Rgg.lsL
  cases h : Rgg.opE K bags == 0 with
  | false => rw [bne, h]; rfl
  | true =>
    obtain ⟨k1, k5, _⟩ := Rgg.opE_zero h
    have hf := Rgg.opF_fam K bags
    rw [beq_iff_eq.1 h, decide_eq_true hf, decide_eq_true (Rgg.roF_len hf K.toNat), decide_eq_true k1, decide_eq_true k5, decide_eq_true (rfl : K = K)]
    rfl)
theorem c30_run : ∀ args H v H', (c30 args H).val = some (v, H') → CallOK E2 30 args H v H' := c30_ok E2_ok (by
  intro K k bags r hv
  refine (nf30 ..).trans ?_
  rw [leaf_val hv]
  unfold Rgg.lwL Rgg.lwE
  cases h : Rgg.opE K bags == 0 with
  | false =>
    rw [bne, h]
    simp only [cond_false, Bool.not_false, cond_true, h]
    rfl
  | true =>
    obtain ⟨k1, k5, _⟩ := Rgg.opE_zero h
    have hf := Rgg.opF_fam K bags
    simp only [cond_true]
    by_cases h0 : k < 0
    · rw [decide_eq_true h0, decide_eq_false (show ¬ 0 ≤ k by omega)]; rfl
    rw [decide_eq_false h0]
    by_cases hK : k ≥ K
    · rw [decide_eq_true hK, decide_eq_false (show ¬ k < K by omega), Bool.and_false]; rfl
    rw [decide_eq_false hK, decide_eq_true hf, decide_eq_true (Rgg.loF_len (Rgg.opF K bags) k.toNat 32), decide_eq_true (show 0 ≤ k by omega), decide_eq_true (show k < 5 by omega), decide_eq_true (show k < K by omega), decide_eq_true k1, decide_eq_true k5]
    rfl)
end Go.Ev.Rag
