/- Lowered bags: plain definitions. -/
import Derived.Test.YtajhpbahjindkaaDoorRo
import Derived.Test.YtajhpbahjindkaaDoorRq
set_option linter.unusedVariables false
set_option linter.unusedSimpArgs false
namespace Rgg
open Go
end Rgg
namespace Rgg
open Go
def wlS (K : Int) (l : List Bool) : List ByteArray := ((ordS K.toNat).filter fun n => at_ l n).map word
def Bth (K : Int) (l : List Bool) (p : List ByteArray) : Prop := Same l p ∧ ∀ x ∈ p, ∃ n, n < 32 ∧ n < 2 ^ K.toNat ∧ x = word n
theorem bth_wl {K : Int} (h1 : 1 ≤ K) (h5 : K ≤ 5) {l : List Bool} (hl : l.length = 32) (ht : ∀ n, n < 32 → at_ l n = true → n < 2 ^ K.toNat) : Bth K l (wlS K l) := by
  refine ⟨⟨hl, fun n hn => ?_⟩, fun x hx => ?_⟩
  · rw [Bool.eq_iff_iff, has_mem]
    unfold wlS
    rw [List.mem_map]
    constructor
    · intro h
      exact ⟨n, List.mem_filter.2 ⟨ord_all K.toNat (by omega) (by omega) n (ht n hn h), h⟩, rfl⟩
    · rintro ⟨m, hm, e⟩
      obtain ⟨hm1, hm2⟩ := List.mem_filter.1 hm
      have := word_inj n hn m (ord_lt K.toNat (by omega) m hm1)
      rw [e, beq_self_eq_true] at this
      rw [of_decide_eq_true this.symm]
      exact hm2
  · unfold wlS at hx
    rw [List.mem_map] at hx
    obtain ⟨m, hm, e⟩ := hx
    have hm1 := (List.mem_filter.1 hm).1
    exact ⟨m, ord_lt K.toNat (by omega) m hm1, ord_bnd K.toNat (by omega) m hm1, e.symm⟩
theorem at_ext {l m : List Bool} (h1 : l.length = 32) (h2 : m.length = 32) (h : ∀ n, n < 32 → at_ l n = at_ m n) : l = m := by
  refine List.ext_getElem (by omega) fun n hn hm => ?_
  have := h n (by omega)
  unfold at_ at this
  rw [List.getD_eq_getElem?_getD, List.getD_eq_getElem?_getD, List.getElem?_eq_getElem hn, List.getElem?_eq_getElem hm] at this
  exact this
end Rgg
