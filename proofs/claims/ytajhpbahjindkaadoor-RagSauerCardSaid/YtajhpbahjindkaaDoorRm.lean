/- Sets that are told apart: the reference's side, walked. -/
import Derived.Test.YtajhpbahjindkaaDoorRl
import Derived.Test.YtajhpbahjindkaaDoorRg
import Derived.Test.YtajhpbahjindkaaDoorRk
import Derived.Test.YtajhpbahjindkaaDoorRh
set_option linter.unusedVariables false
set_option linter.unusedSimpArgs false
namespace Rgg
open Go
end Rgg
namespace Go.Ev.Rag
open Go Go.Ev Go.Proofs
set_option maxRecDepth 1000000
set_option linter.unusedVariables false
set_option linter.unusedSimpArgs false
end Go.Ev.Rag
namespace Rgg
open Go
theorem sub_and : ∀ b, b < 32 → ∀ m, m < 32 → sub (b &&& m) m = true := by decide +kernel
theorem zero_in : ∀ k, k < 6 → 1 ≤ k → 0 ∈ ordS k := by decide
theorem sub_zero : ∀ n, n < 32 → sub n 0 = true → n = 0 := by decide
theorem zero_sub (m : Nat) : sub 0 m = true := by unfold sub; rw [Nat.zero_and]; rfl
theorem any_congr {l : List Nat} {p q : Nat → Bool} (h : ∀ b ∈ l, p b = q b) : l.any p = l.any q := by
  rw [Bool.eq_iff_iff, List.any_eq_true, List.any_eq_true]
  exact ⟨fun ⟨b, h1, h2⟩ => ⟨b, h1, by rw [← h b h1]; exact h2⟩, fun ⟨b, h1, h2⟩ => ⟨b, h1, by rw [h b h1]; exact h2⟩⟩
theorem ms_words {K : Int} (h1 : 1 ≤ K) (h5 : K ≤ 5) (l : List Bool) (m : Nat) : miss K l m = ((ordS K.toNat).filter fun n => sub n m && !at_ (tr l m) n).map word := srt_upTo h1 h5 _
theorem ap_empty {K : Int} {bags : List ByteArray} (h : (opE K bags == 0) = true) : (apL K bags).isEmpty = ((bags.length : Int) == 0) := by
  obtain ⟨k1, k5, _⟩ := opE_zero h
  obtain ⟨⟨_, hs⟩, hw⟩ := op_same h
  have h0 := zero_in K.toNat (by omega) (by omega)
  unfold apL
  rw [h, cond_true, srt_upTo k1 k5]
  cases bags with
  | nil =>
    rw [show (((([] : List ByteArray).length : Nat) : Int) == 0) = true from rfl, List.isEmpty_iff, List.map_eq_nil_iff, List.filter_eq_nil_iff]
    intro m hm
    have hm32 := ord_lt K.toNat (by omega) m hm
    rw [ms_words k1 k5, List.isEmpty_iff, List.map_eq_nil_iff, List.filter_eq_nil_iff]
    intro hc
    refine hc 0 h0 ?_
    have : at_ (tr (opF K []) m) 0 = false := by
      unfold tr
      rw [at_trF hm32 32 (Nat.le_refl _) 0 (by omega), List.any_eq_false]
      intro b hb
      rw [hs b (List.mem_range.1 hb)]
      exact fun h => by cases h
    rw [zero_sub, this]; rfl
  | cons x t =>
    rw [show ((((x :: t).length : Nat) : Int) == 0) = false from beq_false_of_ne (by simp; omega)]
    rw [Bool.eq_false_iff]
    intro he
    rw [List.isEmpty_iff, List.map_eq_nil_iff, List.filter_eq_nil_iff] at he
    refine he 0 h0 ?_
    rw [ms_words k1 k5, List.isEmpty_iff, List.map_eq_nil_iff, List.filter_eq_nil_iff]
    intro n hn
    have hn32 := ord_lt K.toNat (by omega) n hn
    cases hz : sub n 0 with
    | false => simp
    | true =>
      obtain rfl := sub_zero n hn32 hz
      obtain ⟨y, hy, _, hxy⟩ := hw x (by simp)
      have : at_ (tr (opF K (x :: t)) 0) 0 = true := by
        unfold tr
        rw [at_trF (by omega) 32 (Nat.le_refl _) 0 (by omega), List.any_eq_true]
        refine ⟨y, List.mem_range.2 hy, ?_⟩
        rw [hs y hy, has_mem.2 (by rw [← hxy]; simp), Nat.and_zero]; rfl
      rw [this]; simp
theorem mx_size : ∀ (l : List ByteArray) (m : ByteArray), (l.foldl mxP m).size = l.foldl (fun n x => max n x.size) m.size
  | [], _ => rfl
  | x :: l, m => by
    rw [List.foldl_cons, List.foldl_cons, mx_size l]
    congr 1
    unfold mxP
    by_cases h : m.size < x.size
    · rw [decide_eq_true h, cond_true]; omega
    · rw [decide_eq_false h, cond_false]; omega
theorem mxS_size (x : ByteArray) (t : List ByteArray) : (mxS (x :: t)).size = mxN (x :: t) := by
  unfold mxS mxN
  rw [List.drop_one, List.tail_cons, mx_size, List.foldl_cons, Nat.zero_max]; rfl
end Rgg
