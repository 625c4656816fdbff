/- The search of the burn chapter: what is asked. -/
import Derived.Test.YtpieoljeikpemaaDoorSf
import Derived.Test.YtpieoljeikpemaaDoorSp
set_option linter.unusedVariables false
set_option linter.unusedSimpArgs false
namespace Go.Ev.Burn
open Go Go.Ev
set_option maxRecDepth 1000000
set_option linter.unusedVariables false
theorem nf97 (size kind n : Int) (g : List Int) : evBody (S17 10) 97 [ps 0, vi size, vi kind] [some (rG n g)] = (bif decide (1 ≤ size) && decide (size < (↑10 : Int)) && decide (size ≤ 9) && decide (1 ≤ n) && decide (n ≤ 9) && decide (g.length = 81) && Brn.capOK 0 size then bif (Brn.putS n.toNat g (Brn.allN n) (kind == 2) size.toNat [] 0 0 []).snd.snd.isEmpty then some (.tuple [osW 1 0, .sc (.int .i64 (Brn.putS n.toNat g (Brn.allN n) (kind == 2) size.toNat [] 0 0 []).snd.fst)], [some ⟨[vi n, .run (.int .u64) g], true, 111, false, false, none⟩, some ⟨[.run (.int .i64) []], false, 0, false, false, none⟩]) else some (.tuple [.os 1 0 0 (Brn.putS n.toNat g (Brn.allN n) (kind == 2) size.toNat [] 0 0 []).snd.snd.length true false true, .sc (.int .i64 (Brn.putS n.toNat g (Brn.allN n) (kind == 2) size.toNat [] 0 0 []).snd.fst)], [some ⟨[vi n, .run (.int .u64) g], true, 111, false, false, none⟩, some ⟨[.run (.int .i64) (Brn.putS n.toNat g (Brn.allN n) (kind == 2) size.toNat [] 0 0 []).snd.snd], false, 3, false, false, none⟩]) else none) := by kernel_rfl
def c97t (size kind n : Int) (g : List Int) : Tree (AV × Hp) := .br (decide (1 ≤ size) && decide (size ≤ 9) && decide (1 ≤ n) && decide (n ≤ 9) && decide (g.length = 81)) (.leaf (.tuple [osW 1 (Brn.srch n g (kind == 2) size).2.length, vi (Brn.srch n g (kind == 2) size).1], [some (rG n g), some (rI (Brn.srch n g (kind == 2) size).2)])) .fail
def c97 (args : List AV) (H : Hp) : Tree (AV × Hp) := match args, H with
  | [(.ps 0 0 0 0), (.sc (.int .i64 size)), (.sc (.int .i64 kind))], [some ⟨[.sc (.int .i64 n), .run (.int .u64) g], true, 111, false, false, none⟩] => c97t size kind n g
  | _, _ => .fail
theorem c97_ok {T : Tab} (hT : TabOK T) (h : ∀ (size kind n : Int) (g : List Int) (r : AV × Hp), (c97t size kind n g).val = some r → evBody T 97 [ps 0, vi size, vi kind] [some (rG n g)] = some r) : ∀ args H v H', (c97 args H).val = some (v, H') → CallOK T 97 args H v H' := by
  intro args H v H' hv
  unfold c97 at hv
  split at hv
  · exact evBody_sound hT (h _ _ _ _ _ hv)
  · cases hv
noncomputable def S19 : Tab := (S17 10).addCall 97 c97
noncomputable def R0x : Tab := S19
noncomputable def S20 : Tab := R0x
noncomputable def S21 : Tab := S20
noncomputable def S22 : Tab := S21
end Go.Ev.Burn
namespace Go.Ev.Burn
open Go Go.Ev
set_option maxRecDepth 1000000
set_option linter.unusedVariables false
set_option linter.unusedSimpArgs false
theorem pow9_le {l : Nat} (h : l ≤ 9) : 9 ^ l ≤ 387420489 := Nat.le_trans (Nat.pow_le_pow_right (by omega) h) (by decide)
theorem capS {size : Int} (h1 : 1 ≤ size) (h9 : size ≤ 9) : Brn.capOK 0 size = true := by
  unfold Brn.capOK
  have := pow9_le (l := size.toNat) (by omega)
  rw [decide_eq_true (by omega), decide_eq_true (by omega)]
  rfl
theorem c97_run : ∀ args H v H', (c97 args H).val = some (v, H') → CallOK (S17 10) 97 args H v H' := c97_ok (S17_ok 10) (by
  intro size kind n g r hv
  obtain ⟨hl, hv⟩ := guard_val hv
  simp only [Bool.and_eq_true, decide_eq_true_eq] at hl
  obtain ⟨⟨⟨⟨a1, a2⟩, a3⟩, a4⟩, a5⟩ := hl
  rw [leaf_val hv, nf97]
  simp only [decide_eq_true a1, decide_eq_true a2, decide_eq_true a3, decide_eq_true a4, decide_eq_true a5, decide_eq_true (show size < 10 by omega), capS a1 a2, Bool.and_self, cond_true]
  unfold Brn.srch
  generalize (Brn.putS n.toNat g (Brn.allN n) (kind == 2) size.toNat [] 0 0 []).2 = s
  obtain ⟨c, f⟩ := s
  cases f <;> rfl)
theorem S19_ok : TabOK S19 := (S17_ok 10).addCall fun a H v H' hv => by refine CallOK.tab ?_ ?_ (c97_run a H v H' hv) <;> rfl
end Go.Ev.Burn
namespace Go.Ev.Burn
open Go Go.Ev
set_option maxRecDepth 1000000
set_option linter.unusedVariables false
set_option linter.unusedSimpArgs false
theorem R0x_ok : TabOK R0x := S19_ok
theorem S20_ok : TabOK S20 := by
  have h := R0x_ok
  exact h
theorem place_nil (n : Int) (ws : Ws) : Brn.openErr n ws [] = Brn.chk n ws := by
  rw [Brn.openErr_eq]
  unfold Brn.placeErr
  cases h : Brn.chk n ws == 0 with
  | true => simp at h; simp [h]
  | false => rfl
theorem S21_ok : TabOK S21 := by
  have h := S20_ok
  exact h
theorem S22_ok : TabOK S22 := by
  have h := S21_ok
  exact h
end Go.Ev.Burn
