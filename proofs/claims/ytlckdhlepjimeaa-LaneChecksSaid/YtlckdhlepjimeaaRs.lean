/- A loop whose states are known by the number of its rounds. -/
import Derived.Test.YtlckdhlepjimeaaEvE
import Derived.OpenShut
set_option linter.unusedVariables false
set_option linter.unusedSimpArgs false
namespace Go.Ev
open Go
theorem steps_of {T : Tab} {fid lid base : Nat} {c : Code} (n : Nat) (S : Nat → List AV) (SH : Nat → Hp) (E : Out × List AV × Hp)
    (h : ∀ i, i < n → ∀ again : List AV → Hp → Option (Out × List AV × Hp), lpStep T fid lid base c again (S i) (SH i) = again (S (i + 1)) (SH (i + 1)))
    (he : ∀ again : List AV → Hp → Option (Out × List AV × Hp), lpStep T fid lid base c again (S n) (SH n) = some E) : ∃ m, lpRun T fid lid base c m (S 0) (SH 0) = some E :=
  lpRun_of (fun i : Nat => i ≤ n) S SH (fun _ => E) (fun i => n - i) (fun i hi again => by
    rcases Nat.lt_or_ge i n with hl | hl
    · exact .inr ⟨i + 1, hl, by omega, rfl, h i hl again⟩
    · obtain rfl : i = n := Nat.le_antisymm hi hl
      exact .inl (he again)) 0 (Nat.zero_le _)
end Go.Ev
namespace Go.Ev
open Go Go.RowKit Go.ChangeShapes Go.WideShapes
set_option linter.unusedVariables false
section
variable {H : Type} {enc : TypeId × Value → H} {P : Program} {W : World} {base : Nat} {sp : Nat → Bool} {held : Bool}
end
end Go.Ev
namespace Go.Ev
open Go Go.RowKit Go.ChangeShapes
set_option linter.unusedVariables false
set_option linter.unusedSimpArgs false
section read
variable {H : Type} {enc : TypeId × Value → H} {P : Program} {W : World} {base : Nat} {sp : Nat → Bool} {held : Bool} {fuel : Nat}
theorem list_upto {α : Type} {p : Nat → α → Prop} : ∀ n, (∀ i, i < n → ∃ y, p i y) → ∃ l : List α, l.length = n ∧ ∀ i y, l[i]? = some y → p i y
  | 0, _ => ⟨[], rfl, fun i y h => by simp at h⟩
  | n + 1, h => by
    obtain ⟨l, hl, hp⟩ := list_upto n fun i hi => h i (by omega)
    obtain ⟨y, hy⟩ := h n (by omega)
    refine ⟨l ++ [y], by simp [hl], fun i z hz => ?_⟩
    rcases Nat.lt_or_ge i n with hi | hi
    · rw [List.getElem?_append_left (by omega)] at hz
      exact hp i z hz
    · rw [List.getElem?_append_right (by omega), hl] at hz
      rcases Nat.eq_or_lt_of_le hi with rfl | hi
      · rw [Nat.sub_self] at hz
        cases hz
        exact hy
      · rw [List.getElem?_eq_none (by simp; omega)] at hz
        cases hz
theorem read_slice {t e : TypeId} {q : ET} {cs : List Value} {x : DataW H × List MemPlace} (ht : P.underlying t = some (.slice e)) (hz : P.cellsOf e = 1) (hq : q.size = 1)
    (hel : ∀ (fuel : Nat) (cs : List Value) (x : DataW H × List MemPlace), DataW.trod enc P W base sp held fuel e cs = some x → ∃ u, ∃ y : q.T, cs = [u] ∧ ∀ (F : CellF) (o : Nat), F o = some u → ElR (allOld W) W q y F o)
    (h : DataW.trod enc P W base sp held fuel t cs = some x) : ∃ u, ∃ l : List q.T, cs = [u] ∧ ∀ L, Rel P (allOld W) W (.sl q l false) L u := by
  rcases DataW.trod_slice ht h with ⟨rfl, _⟩ | ⟨a, len, cap, elems, rest, n, rfl, rfl, _, _, hlen, _, helm, hget, _, _⟩
  · exact ⟨_, [], rfl, fun L => ⟨none, 0, rfl, Nat.le_refl _, (fun h => by cases h), fun h => absurd rfl h⟩⟩
  · rw [hz] at hget
    have hcell : ∀ i, i < len → ∃ y : q.T, ∃ u, W.cell? (a.add (i * 1)) = some u ∧ ∀ (F : CellF) (o : Nat), F o = some u → ElR (allOld W) W q y F o := by
      intro i hi
      have h1 := hget i hi
      rw [List.getElem?_eq_getElem (by omega), Option.bind_eq_some_iff] at h1
      obtain ⟨c, h2, h3⟩ := h1
      obtain ⟨v, rfl, h4⟩ := cells_1 h2
      obtain ⟨u, y, hu, hy⟩ := hel _ _ _ h3
      cases hu
      exact ⟨y, v, h4, hy⟩
    obtain ⟨l, hl, hp⟩ := list_upto len hcell
    refine ⟨_, l, rfl, fun L => ⟨some a, cap, by rw [hl], by omega, (fun h => by cases h), fun hne => ?_⟩⟩
    have hpos : 0 < len := by have := List.length_pos_iff.2 hne; omega
    obtain ⟨y0, u0, h0, _⟩ := hcell 0 hpos
    obtain ⟨ha, hb⟩ := spot_none h0
    have hs : a.spot = none := congrArg Addr.spot ha
    obtain ⟨b, o, s⟩ := a
    simp only at hs
    subst hs
    refine ⟨b, o, rfl, fun i y hy => ?_, fun i _ => hb⟩
    obtain ⟨u, hu, hf⟩ := hp i y hy
    rw [add_eq rfl, Nat.mul_one] at hu
    rw [hq, Nat.mul_one]
    exact hf _ _ hu
theorem sl_sl0 {S : Stab} {w : World} {k : IntKind} {l : List Int} {u : Value} (h : SlR S w (.int k) l false u) : SlR0 S w (.int k) l false u := h
theorem read_lists {t e i : TypeId} {k : IntKind} {cs : List Value} {x : DataW H × List MemPlace} (ht : P.underlying t = some (.slice e)) (he : P.underlying e = some (.slice i)) (hi : P.underlying i = some (.int k)) (hz : P.cellsOf e = 1) (hzi : P.cellsOf i = 1)
    (h : DataW.trod enc P W base sp held fuel t cs = some x) : ∃ u, ∃ l : List (List Int), cs = [u] ∧ ∀ L, Rel P (allOld W) W (.sl (.ilist k) l false) L u :=
  read_slice (q := .ilist k) ht hz rfl (fun fuel cs x hx => by
    obtain ⟨u, l, hu, hr, _⟩ := read_ints he hi hzi hx
    exact ⟨u, l, hu, fun F o hF => ⟨u, hF, sl_sl0 (by simpa only [Rel] using hr noLoc)⟩⟩) h
end read
end Go.Ev
