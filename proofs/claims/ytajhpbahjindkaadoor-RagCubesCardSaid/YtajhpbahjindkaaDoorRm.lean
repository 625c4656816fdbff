/- Sets that are told apart: the reference's side, walked. -/
import Derived.Test.YtajhpbahjindkaaDoorRl
import Derived.Test.YtajhpbahjindkaaDoorRg
import Derived.Test.YtajhpbahjindkaaDoorRk
import Derived.Test.YtajhpbahjindkaaDoorRh
set_option linter.unusedVariables false
set_option linter.unusedSimpArgs false
namespace Rgg
open Go
theorem sets_szs {K : Int} (h1 : 1 ≤ K) (h5 : K ≤ 5) : ∀ x ∈ setsL K, x.size ≤ 5 := by
  intro x hx
  unfold setsL at hx
  obtain ⟨n, hn, rfl⟩ := List.mem_map.1 hx
  refine word_sz n ?_
  have : K = 1 ∨ K = 2 ∨ K = 3 ∨ K = 4 ∨ K = 5 := by omega
  rcases this with rfl | rfl | rfl | rfl | rfl <;> revert n <;> decide
theorem szs_of {l : List ByteArray} (h : ∀ x ∈ l, x.size ≤ 5) : szs l = true := List.all_eq_true.2 fun y hy => decide_eq_true (by have := h y hy; omega)
end Rgg
namespace Go.Ev.Rag
open Go Go.Ev Go.Proofs
set_option maxRecDepth 1000000
set_option linter.unusedVariables false
set_option linter.unusedSimpArgs false
theorem c69_run : ∀ args H v H', (c69 args H).val = some (v, H') → CallOK Q7 69 args H v H' := c69_ok Q7_ok (by
  intro K s r hv
  obtain ⟨hl, hv2⟩ := guard_val hv
  simp only [Bool.and_eq_true, decide_eq_true_eq] at hl
  obtain ⟨⟨k1, k5⟩, hs⟩ := hl
  have hK := Rgg.setsL_len k1 k5
  refine (nf69 ..).trans ?_
  rw [decide_eq_true k1, decide_eq_true k5, decide_eq_true hs, Rgg.szs_of (Rgg.sets_szs k1 k5), show sm (Rgg.setsL K) = true from decide_eq_true (by omega), leaf_val hv2]; rfl)
theorem U1_ok : TabOK U1 := by
  have h := Q7_ok
  have h := h.addCall (g := 69) (r := c69) fun a H v H' hv => by refine CallOK.tab ?_ ?_ (c69_run a H v H' hv) <;> rfl
  exact h
end Go.Ev.Rag
namespace Rgg
open Go
theorem pa_fin : ∀ k, k < 6 → ∀ n, n ∈ ordS k → ∀ m, m < 32 → ((ordS k).any fun b => b &&& m == n) = sub n m := by decide +kernel
theorem sub_zero : ∀ n, n < 32 → sub n 0 = true → n = 0 := by decide
theorem any_map (l : List Nat) (s x : ByteArray) : hasS ((l.map word).map fun b => cmS b s) x = l.any fun b => cmS (word b) s == x := by
  unfold hasS
  rw [List.map_map, List.any_map]; rfl
theorem any_congr {l : List Nat} {p q : Nat → Bool} (h : ∀ b ∈ l, p b = q b) : l.any p = l.any q := by
  rw [Bool.eq_iff_iff, List.any_eq_true, List.any_eq_true]
  exact ⟨fun ⟨b, h1, h2⟩ => ⟨b, h1, by rw [← h b h1]; exact h2⟩, fun ⟨b, h1, h2⟩ => ⟨b, h1, by rw [h b h1]; exact h2⟩⟩
theorem pa_words {K : Int} (h1 : 1 ≤ K) (h5 : K ≤ 5) {m : Nat} (hm : m < 32) : paR K (word m) = ((ordS K.toNat).filter fun n => sub n m).map word := by
  unfold paR trR ofS
  rw [filt_sets]
  congr 1
  refine List.filter_congr fun n hn => ?_
  have hn32 := ord_lt K.toNat (by omega) n hn
  unfold setsL
  rw [any_map, ← pa_fin K.toNat (by omega) n hn m hm]
  refine any_congr fun b hb => ?_
  have hb32 := ord_lt K.toNat (by omega) b hb
  rw [eq_of_beq (cm_word b hb32 m hm), word_inj _ (and_lt b hb32 m hm) n hn32]
  rw [Bool.eq_iff_iff, decide_eq_true_eq, beq_iff_eq]
theorem ms_words {K : Int} (h1 : 1 ≤ K) (h5 : K ≤ 5) (l : List Bool) (m : Nat) : miss K l m = ((ordS K.toNat).filter fun n => sub n m && !at_ (tr l m) n).map word := srt_upTo h1 h5 _
theorem len_split (S T : Nat → Bool) : ∀ (l : List Nat), (∀ n ∈ l, T n = true → S n = true) → (l.filter S).length = (l.filter T).length + (l.filter fun n => S n && !T n).length
  | [], _ => rfl
  | x :: l, h => by
    have ih := len_split S T l (fun n hn => h n (List.mem_cons_of_mem _ hn))
    have hx := h x (by simp)
    rw [List.filter_cons, List.filter_cons, List.filter_cons]
    cases hS : S x <;> cases hT : T x
    · simpa [hS, hT] using ih
    · rw [hS] at hx; exact absurd (hx hT) (by simp)
    · simp [hS, hT]; omega
    · simp [hS, hT]; omega
end Rgg
