/- RagPajor: the law's body answers true. -/
import Derived.Test.YtajhpbahjindkaaDoorNi
import Derived.Test.YtajhpbahjindkaaDoorNj
import Derived.Test.YtajhpbahjindkaaDoorRk
import Derived.Test.YtajhpbahjindkaaDoorRi
set_option linter.unusedVariables false
set_option linter.unusedSimpArgs false
namespace Rgg
open Go
theorem ap_form {K : Int} {n : Nat} (h : Pl K n) : apL K (wdL n) = ((ordS K.toNat).filter fun s => shB (fB n) s).map word ∧ (apL K (wdL n)).length = ((List.range (2 ^ K.toNat)).filter fun s => shB (fB n) s).length := by
  have h5 := h.k5
  have e : apL K (wdL n) = wrt K fun s => (miss K (fB n) s).isEmpty := by
    unfold apL
    rw [h.opE, beq_self_eq_true, cond_true, h.opF]
  rw [e, len_ord h.k1 h.k5, srt_upTo h.k1 h.k5]
  constructor
  · congr 1
    exact List.filter_congr fun s hs => sh_miss h.k1 h.k5 (ord_bnd K.toNat (by omega) s hs)
  · exact congrArg List.length (List.filter_congr fun s hs => sh_miss h.k1 h.k5 (List.mem_range.1 hs))
theorem cu_form {K : Int} {n : Nat} (h : Pl K n) : cuL K (wdL n) = ((ordS K.toNat).filter fun s => cu2 n (2 ^ K.toNat) s (2 ^ K.toNat)).map word ∧ (cuL K (wdL n)).length = ((List.range (2 ^ K.toNat)).filter fun s => cu2 n (2 ^ K.toNat) s (2 ^ K.toNat)).length := by
  have h5 := h.k5
  have e : cuL K (wdL n) = wrt K fun s => !(miss K (otF (fB n) (2 ^ K.toNat)) (dif (2 ^ K.toNat - 1) s)).isEmpty := by
    unfold cuL
    rw [h.opE, beq_self_eq_true, cond_true, h.opF]
  have hh : ∀ s, s < 2 ^ K.toNat → (!(miss K (otF (fB n) (2 ^ K.toNat)) (dif (2 ^ K.toNat - 1) s)).isEmpty) = cu2 n (2 ^ K.toNat) s (2 ^ K.toNat) := fun s hs => by
    rw [sh_miss h.k1 h.k5 (full_bnd K.toNat (by omega) s hs), cu_iff (by omega) hs]
  rw [e, len_ord h.k1 h.k5, srt_upTo h.k1 h.k5]
  constructor
  · congr 1
    exact List.filter_congr fun s hs => hh s (ord_bnd K.toNat (by omega) s hs)
  · exact congrArg List.length (List.filter_congr fun s hs => hh s (List.mem_range.1 hs))
theorem ap_le {K : Int} {n : Nat} (h : Pl K n) : (apL K (wdL n)).length ≤ 32 := by
  rw [(ap_form h).2]
  exact Nat.le_trans (List.length_filter_le _ _) (by rw [List.length_range]; exact h.two)
theorem cu_le {K : Int} {n : Nat} (h : Pl K n) : (cuL K (wdL n)).length ≤ 32 := by
  rw [(cu_form h).2]
  exact Nat.le_trans (List.length_filter_le _ _) (by rw [List.length_range]; exact h.two)
end Rgg
namespace Go.Ev.Rag
open Go Go.Ev Go.Proofs
set_option maxRecDepth 1000000
set_option linter.unusedVariables false
set_option linter.unusedSimpArgs false
end Go.Ev.Rag
