/- Sets told apart with the same rest: tables and normal forms. -/
import Derived.Test.YtajhpbahjindkaaDoorRk
import Derived.Test.YtajhpbahjindkaaDoorRl
import Derived.Test.YtajhpbahjindkaaDoorRm
set_option linter.unusedVariables false
set_option linter.unusedSimpArgs false
namespace Rgg
open Go
def otF (l : List Bool) (q : Nat) : List Bool := (List.range 32).map fun n => decide (n < q) && !at_ l n
def cuL (K : Int) (bags : List ByteArray) : List ByteArray := bif opE K bags == 0 then wrt K (fun n => !(miss K (otF (opF K bags) (2 ^ K.toNat)) (dif (2 ^ K.toNat - 1) n)).isEmpty) else []
end Rgg
namespace Go.Ev.Rag
open Go Go.Ev
set_option maxRecDepth 1000000
set_option maxHeartbeats 0
set_option linter.unusedVariables false
theorem nl26 (again : Ag) (K q i al : Int) (l o : List Bool) : lpStep R3 26 7 0 (lpc R3 26 7) again [vi K, ps 0, ps 1, ps 2, vi q, vi i] [some (rF K l), some ⟨[vi al], true, 3, false, false, none⟩, some ⟨[ps 3], true, 68, false, true, none⟩, some (rF K o)] = (bif decide (i < q) then bif decide (0 ≤ i) then bif decide (i < (↑32 : Int)) then oM l[i.toNat]? fun x => bif decide (0 ≤ i) then bif decide (i < (↑32 : Int)) then oM o[i.toNat]? fun x_1 => again [vi K, .ps 0 0 0 0, .ps 1 0 0 0, .ps 2 0 0 0, vi q, vi (IntKind.i64.wrap (i + 1))] [some ⟨[vi K, .run .bool l], true, 89, false, false, none⟩, some ⟨[vi al], true, 3, false, false, none⟩, some { c := [.ps 3 0 0 0], vr := true, ty := 68, fz := false, loose := true : Row }, some ⟨[vi K, .run .bool (o.set i.toNat !x)], true, 89, false, false, none⟩] else none else none else none else none else some (.ext 0, [vi K, .ps 0 0 0 0, .ps 1 0 0 0, .ps 2 0 0 0, vi q, vi i], [some ⟨[vi K, .run .bool l], true, 89, false, false, none⟩, some ⟨[vi al], true, 3, false, false, none⟩, some ⟨[.ps 3 0 0 0], true, 68, false, true, none⟩, some ⟨[vi K, .run .bool o], true, 89, false, false, none⟩])) := by kernel_rfl
def l26_7t (K K2 K3 q al : Int) (l o : List Bool) : Tree (Out × List AV × Hp) := .br (fam l && decide (K2 = K) && decide (K3 = K) && decide (0 ≤ q) && decide (q ≤ 32) && decide (o = List.replicate 32 false)) (.leaf (.ext 0, [vi K, ps 0, ps 1, ps 2, vi q, vi q], [some (rF K l), some ⟨[vi al], true, 3, false, false, none⟩, some ⟨[ps 3], true, 68, false, true, none⟩, some (rF K (Rgg.otF l q.toNat))])) .fail
def l26_7 (base : Nat) (kv : List AV) (H : Hp) : Tree (Out × List AV × Hp) := match Nat.beq base 0, kv, H with
  | true, [(.sc (.int .i64 K)), (.ps 0 0 0 0), (.ps 1 0 0 0), (.ps 2 0 0 0), (.sc (.int .i64 q)), (.sc (.int .i64 0))], [some ⟨[.sc (.int .i64 K2), .run .bool l], true, 89, false, false, none⟩, some ⟨[(.sc (.int .i64 al))], true, 3, false, false, none⟩, some ⟨[(.ps 3 0 0 0)], true, 68, false, true, none⟩, some ⟨[.sc (.int .i64 K3), .run .bool o], true, 89, false, false, none⟩] => l26_7t K K2 K3 q al l o
  | _, _, _ => .fail
theorem l26_7_ok {T : Tab} (hT : TabOK T) (hlo : loopOf T.fn 26 7 = some (lpc T 26 7)) (h : ∀ (K K2 K3 q al : Int) (l o : List Bool) (r : Out × List AV × Hp), (l26_7t K K2 K3 q al l o).val = some r → ∃ mm, lpRun T 26 7 0 (lpc T 26 7) mm [vi K, ps 0, ps 1, ps 2, vi q, vi 0] [some (rF K2 l), some (⟨[vi al], true, 3, false, false, none⟩), some (⟨[ps 3], true, 68, false, true, none⟩), some (rF K3 o)] = some r) : ∀ base kv H o kv' H', (l26_7 base kv H).val = some (o, kv', H') → LoopOK T 26 7 base kv H o kv' H' := by
  intro base kv H o kv' H' hv
  unfold l26_7 at hv
  split at hv
  · rename_i hb
    obtain rfl := Nat.eq_of_beq_eq_true hb
    exact loop_ok hT hlo (h _ _ _ _ _ _ _ _ hv)
  · cases hv
noncomputable def B1 : Tab := (R3).addLoop 26 7 l26_7
theorem nf26 (K : Int) (bags : List ByteArray) : evBody B1 26 [vi K, lS bags] [] = (bif Rgg.opE K bags == 0 then bif decide (0 ≤ K) then bif decide ((Rgg.opF K bags).length = 32) && decide (K = K) && decide (K = K) && decide (0 ≤ IntKind.i64.wrap (IntKind.i64.wrap (IntKind.i64.wrap (1 * 2 ^ Min.min K.toNat 64) - 1) + 1)) && decide (IntKind.i64.wrap (IntKind.i64.wrap (IntKind.i64.wrap (1 * 2 ^ Min.min K.toNat 64) - 1) + 1) ≤ 32) && decide (List.replicate 32 false = List.replicate 32 false) then bif decide (32 = 32) && decide (1 ≤ K) && decide (K ≤ 5) && decide (0 ≤ IntKind.i64.wrap (IntKind.i64.wrap (1 * 2 ^ Min.min K.toNat 64) - 1)) && decide (IntKind.i64.wrap (IntKind.i64.wrap (1 * 2 ^ Min.min K.toNat 64) - 1) < 32) && decide (1 ≤ K) && decide (K ≤ 5) then some (.tuple [.os 0 0 0 (Rgg.wrt K fun n => !(Rgg.miss K (Rgg.otF (Rgg.opF K bags) (IntKind.i64.wrap (IntKind.i64.wrap (IntKind.i64.wrap (1 * 2 ^ Min.min K.toNat IntKind.i64.bits) - 1) + 1)).toNat) (Rgg.dif (IntKind.i64.wrap (IntKind.i64.wrap (1 * 2 ^ Min.min K.toNat IntKind.i64.bits) - 1)).toNat n)).isEmpty).length true false true, vi 0], [some ⟨[.run .str (Rgg.wrt K fun n => !(Rgg.miss K (Rgg.otF (Rgg.opF K bags) (IntKind.i64.wrap (IntKind.i64.wrap (IntKind.i64.wrap (1 * 2 ^ Min.min K.toNat IntKind.i64.bits) - 1) + 1)).toNat) (Rgg.dif (IntKind.i64.wrap (IntKind.i64.wrap (1 * 2 ^ Min.min K.toNat IntKind.i64.bits) - 1)).toNat n)).isEmpty)], false, Rgg.tyS (Rgg.wrt K fun n => !(Rgg.miss K (Rgg.otF (Rgg.opF K bags) (IntKind.i64.wrap (IntKind.i64.wrap (IntKind.i64.wrap (1 * 2 ^ Min.min K.toNat IntKind.i64.bits) - 1) + 1)).toNat) (Rgg.dif (IntKind.i64.wrap (IntKind.i64.wrap (1 * 2 ^ Min.min K.toNat IntKind.i64.bits) - 1)).toNat n)).isEmpty), false, false, none⟩]) else none else none else none else bif Rgg.opE K bags != 0 then some (.tuple [osW 0 0, vi (Rgg.opE K bags)], [some { c := [.run .str []], vr := false, ty := 0, fz := false, loose := false : Row }]) else bif decide (0 ≤ K) then none else none) := by kernel_rfl
def c26t (K : Int) (bags : List ByteArray) : Tree (AV × Hp) := .leaf (.tuple [osW 0 (Rgg.cuL K bags).length, vi (Rgg.opE K bags)], [some (rS (Rgg.cuL K bags))])
def c26 (args : List AV) (H : Hp) : Tree (AV × Hp) := match args, H with
  | [(.sc (.int .i64 K)), (.sl .str bags false)], [] => c26t K bags
  | _, _ => .fail
theorem c26_ok {T : Tab} (hT : TabOK T) (h : ∀ (K : Int) (bags : List ByteArray) (r : AV × Hp), (c26t K bags).val = some r → evBody T 26 [vi K, lS bags] [] = some r) : ∀ args H v H', (c26 args H).val = some (v, H') → CallOK T 26 args H v H' := by
  intro args H v H' hv
  unfold c26 at hv
  split at hv
  · exact evBody_sound hT (h _ _ _ hv)
  · cases hv
end Go.Ev.Rag
namespace Rgg
open Go
theorem otF_len (l : List Bool) (q : Nat) : (otF l q).length = 32 := by unfold otF; rw [List.length_map, List.length_range]
theorem otF_get (l : List Bool) (q n : Nat) : (otF l q)[n]? = if n < 32 then some (decide (n < q) && !at_ l n) else none := by
  by_cases h : n < 32
  · rw [if_pos h]
    unfold otF
    rw [List.getElem?_map, List.getElem?_range h]; rfl
  · rw [if_neg h, List.getElem?_eq_none (by rw [otF_len]; omega)]
theorem otF_zero (l : List Bool) : otF l 0 = List.replicate 32 false := by
  refine List.ext_getElem? fun n => ?_
  rw [otF_get, List.getElem?_replicate]
  by_cases h : n < 32
  · rw [if_pos h, if_pos h]; rfl
  · rw [if_neg h, if_neg h]
theorem otF_succ (l : List Bool) {i : Nat} (hi : i < 32) : otF l (i + 1) = (otF l i).set i (!at_ l i) := by
  refine List.ext_getElem? fun n => ?_
  rw [List.getElem?_set, otF_get, otF_get, otF_len]
  by_cases h : i = n
  · subst h; rw [if_pos rfl, if_pos hi, if_pos hi, decide_eq_true (show i < i + 1 by omega)]; rfl
  · rw [if_neg h]
    by_cases h2 : n < 32
    · rw [if_pos h2, if_pos h2, decide_eq_decide.2 (show n < i + 1 ↔ n < i by omega)]
    · rw [if_neg h2, if_neg h2]
end Rgg
namespace Go.Ev.Rag
open Go Go.Ev Go.Proofs
set_option maxRecDepth 1000000
set_option linter.unusedVariables false
set_option linter.unusedSimpArgs false
theorem l26_7_run : ∀ base kv H o kv' H', (l26_7 base kv H).val = some (o, kv', H') → LoopOK R3 26 7 base kv H o kv' H' := l26_7_ok R3_ok (by kernel_rfl) (by
  intro K K2 K3 q al l o r hv
  obtain ⟨hl, hv2⟩ := guard_val hv
  simp only [Bool.and_eq_true, decide_eq_true_eq] at hl
  obtain ⟨⟨⟨⟨⟨hf, rfl⟩, rfl⟩, q0⟩, q32⟩, rfl⟩ := hl
  have hf := fam_len hf
  obtain ⟨q, rfl⟩ := Int.eq_ofNat_of_zero_le q0
  rw [toNat_cast] at hv2
  rw [← Rgg.otF_zero l]
  obtain ⟨mm, hm⟩ := steps_of (T := R3) (fid := 26) (lid := 7) (base := 0) (c := lpc R3 26 7) q (fun i => [vi K3, ps 0, ps 1, ps 2, vi q, vi (i : Nat)]) (fun i => [some (rF K3 l), some ⟨[vi al], true, 3, false, false, none⟩, some ⟨[ps 3], true, 68, false, true, none⟩, some (rF K3 (Rgg.otF l i))])
    (.ext 0, [vi K3, ps 0, ps 1, ps 2, vi q, vi q], [some (rF K3 l), some ⟨[vi al], true, 3, false, false, none⟩, some ⟨[ps 3], true, 68, false, true, none⟩, some (rF K3 (Rgg.otF l q))])
    (fun i hi again => by
      have h1 := Rgg.otF_len l i
      refine (nl26 ..).trans ?_
      rw [Rgg.otF_succ l (show i < 32 by omega), wrap_succ (by omega)]
      simp only [dec_lt hi, dec_ge, cond_true, toNat_cast, decide_eq_true (show (i : Int) < ((32 : Nat) : Int) by omega), decide_eq_true (show (i : Int) < 32 by omega), Rgg.at_get (l := l) (i := i) (by omega), Rgg.at_get (l := Rgg.otF l i) (i := i) (by omega), oM])
    (fun again => by
      refine (nl26 ..).trans ?_
      simp only [dec_ll, cond_false])
  exact ⟨mm, hm.trans (by rw [leaf_val hv2])⟩)
theorem B1_ok : TabOK B1 := by
  have h := R3_ok
  have h := h.addLoop (g := 26) (lid := 7) (r := l26_7) fun b k H o k' H' hv => by refine LoopOK.tab ?_ ?_ ?_ ?_ (l26_7_run b k H o k' H' hv) <;> rfl
  exact h
theorem c26_run : ∀ args H v H', (c26 args H).val = some (v, H') → CallOK B1 26 args H v H' := c26_ok B1_ok (by
  intro K bags r hv
  refine (nf26 ..).trans ?_
  rw [leaf_val hv]
  unfold Rgg.cuL
  cases h : Rgg.opE K bags == 0 with
  | false => rw [bne, h]; rfl
  | true =>
    obtain ⟨k1, k5, _⟩ := Rgg.opE_zero h
    rw [beq_iff_eq.1 h, Rgg.opF_fam]
    have : K = 1 ∨ K = 2 ∨ K = 3 ∨ K = 4 ∨ K = 5 := by omega
    rcases this with rfl | rfl | rfl | rfl | rfl <;> rfl)
end Go.Ev.Rag
namespace Go.Ev.Rag
open Go Go.Ev Go.Proofs
set_option maxRecDepth 1000000
set_option linter.unusedVariables false
set_option linter.unusedSimpArgs false
end Go.Ev.Rag
