/- The reference's bags: walked. -/
import Derived.Test.YtajhpbahjindkaaDoorRe
import Derived.Test.YtajhpbahjindkaaDoorRf
set_option linter.unusedVariables false
set_option linter.unusedSimpArgs false
namespace Rgg
open Go
instance : LawfulBEq ByteArray where
  eq_of_beq {a b} h := by
    apply ByteArray.ext
    cases a; cases b
    exact eq_of_beq h
  rfl {a} := by
    cases a with
    | mk d => exact beq_self_eq_true d
end Rgg
namespace Go.Ev
open Go
theorem found_of {T : Tab} {fid lid base : Nat} {c : Code} {β : Type} (l : List β) (P : β → Bool) (S : Int → List AV) (H : Hp) (R : Nat → Out × List AV × Hp) (E : Out × List AV × Hp)
    (h : ∀ (i : Nat) x, l[i]? = some x → i < l.length → ∀ again : List AV → Hp → Option (Out × List AV × Hp), lpStep T fid lid base c again (S i) H = bif P x then some (R i) else again (S ((i + 1 : Nat) : Int)) H)
    (he : ∀ again : List AV → Hp → Option (Out × List AV × Hp), lpStep T fid lid base c again (S (l.length : Nat)) H = some E) :
    ∃ m, lpRun T fid lid base c m (S 0) H = some (bif l.any P then R (l.findIdx P) else E) := by
  obtain ⟨m, hm⟩ := pick_of (T := T) (fid := fid) (lid := lid) (base := base) (c := c) l (fun i x => bif P x then .inl i else .inr ()) S H R E 0
    (fun i x hx hlt again => by
      rw [h i x hx hlt again]
      cases P x <;> rfl) he
  refine ⟨m, hm.trans (congrArg some ?_)⟩
  have main : ∀ (l : List β) (i : Nat), foldX (fun i (_ : Unit) x => (bif P x then .inl i else .inr () : Sum Nat Unit)) i l () = bif l.any P then .inl (i + l.findIdx P) else .inr () := by
    intro l
    induction l with
    | nil => intro i; rfl
    | cons x l ih =>
      intro i
      simp only [foldX, List.any_cons, List.findIdx_cons]
      cases P x with
      | true => rfl
      | false =>
        simp only [cond_false, Bool.false_or]
        rw [ih (i + 1)]
        cases l.any P with
        | true => simp only [cond_true]; congr 1; omega
        | false => rfl
  rw [main l 0]
  cases l.any P with
  | true => simp only [cond_true, Erx.sL, Erx.sG, Nat.zero_add]
  | false => rfl
end Go.Ev
namespace Go.Ev.Rag
open Go Go.Ev Go.Proofs
set_option maxRecDepth 1000000
set_option linter.unusedVariables false
set_option linter.unusedSimpArgs false
end Go.Ev.Rag
namespace Go.Ev.Rag
open Go Go.Ev Go.Proofs
set_option maxRecDepth 1000000
set_option linter.unusedVariables false
set_option linter.unusedSimpArgs false
end Go.Ev.Rag
namespace Rgg
open Go
end Rgg
namespace Go.Ev.Rag
open Go Go.Ev Go.Proofs
set_option maxRecDepth 1000000
set_option linter.unusedVariables false
set_option linter.unusedSimpArgs false
end Go.Ev.Rag
