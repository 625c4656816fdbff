/- The sort of strings, worked out by insertion; tables that are carried out with some entries given. -/
import Derived.Test.YtajhpbahjindkaaDoorEvF
import Derived.Test.YtajhpbahjindkaaDoorRc
import Derived.Test.YtajhpbahjindkaaDoorEvE
set_option linter.unusedVariables false
set_option linter.unusedSimpArgs false
namespace Go.Ev
open Go
set_option linter.unusedVariables false
def leB : List UInt8 → List UInt8 → Bool
  | [], _ => true
  | _ :: _, [] => false
  | a :: l, b :: m => match Nat.blt a.toNat b.toNat with
    | true => true
    | false => match Nat.blt b.toNat a.toNat with
      | true => false
      | false => leB l m
theorem leB_eq : ∀ (x y : List UInt8), leB x y = decide (x ≤ y)
  | [], y => by rw [leB, decide_eq_true (List.nil_le y)]
  | a :: l, [] => by
    rw [leB, decide_eq_false]
    exact fun h => by simp at h
  | a :: l, b :: m => by
    have ih := leB_eq l m
    rw [leB]
    rw [decide_eq_decide.2 (List.cons_le_cons_iff (a := a) (b := b) (l₁ := l) (l₂ := m))]
    by_cases h1 : a.toNat < b.toNat
    · rw [show Nat.blt a.toNat b.toNat = true by simp [Nat.blt_eq, h1]]
      symm
      exact decide_eq_true (Or.inl (UInt8.lt_iff_toNat_lt.2 h1))
    · rw [show Nat.blt a.toNat b.toNat = false from Bool.eq_false_iff.2 (fun h => h1 (by simpa [Nat.blt_eq] using h))]
      by_cases h2 : b.toNat < a.toNat
      · rw [show Nat.blt b.toNat a.toNat = true by simp [Nat.blt_eq, h2]]
        symm
        refine decide_eq_false ?_
        rintro (h | ⟨rfl, h⟩)
        · exact h1 (UInt8.lt_iff_toNat_lt.1 h)
        · omega
      · rw [show Nat.blt b.toNat a.toNat = false from Bool.eq_false_iff.2 (fun h => h2 (by simpa [Nat.blt_eq] using h))]
        have : a = b := UInt8.toNat_inj.1 (by omega)
        subst this
        show leB l m = _
        rw [ih]
        refine decide_eq_decide.2 ⟨fun h => Or.inr ⟨rfl, h⟩, ?_⟩
        rintro (h | ⟨_, h⟩)
        · exact absurd (UInt8.lt_iff_toNat_lt.1 h) (by omega)
        · exact h
def insZ (x : List UInt8) : List (List UInt8) → List (List UInt8)
  | [] => [x]
  | y :: l => match leB x y with
    | true => x :: y :: l
    | false => y :: insZ x l
def isZ : List (List UInt8) → List (List UInt8)
  | [] => []
  | x :: l => insZ x (isZ l)
def isS (l : List ByteArray) : List ByteArray := (isZ (l.map fun b => b.data.toList)).map fun z => ⟨z.toArray⟩
theorem insZ_perm (x : List UInt8) : ∀ l, (insZ x l).Perm (x :: l)
  | [] => List.Perm.refl _
  | y :: l => by
    rw [insZ]
    cases leB x y with
    | true => exact List.Perm.refl _
    | false => exact ((insZ_perm x l).cons y).trans (List.Perm.swap _ _ _)
theorem isZ_perm : ∀ l, (isZ l).Perm l
  | [] => List.Perm.refl _
  | x :: l => (insZ_perm x _).trans ((isZ_perm l).cons x)
theorem insZ_sorted (x : List UInt8) : ∀ l : List (List UInt8), l.Pairwise (· ≤ ·) → (insZ x l).Pairwise (· ≤ ·)
  | [], _ => List.pairwise_singleton _ _
  | y :: l, h => by
    rw [insZ]
    cases hx : leB x y with
    | true =>
      rw [leB_eq, decide_eq_true_eq] at hx
      refine List.pairwise_cons.2 ⟨fun z hz => ?_, h⟩
      rcases List.mem_cons.1 hz with rfl | hz
      · exact hx
      · exact List.le_trans hx ((List.pairwise_cons.1 h).1 z hz)
    | false =>
      rw [leB_eq, decide_eq_false_iff_not] at hx
      have hy : y ≤ x := (List.le_total x y).resolve_left hx
      refine List.pairwise_cons.2 ⟨fun z hz => ?_, insZ_sorted x l (List.pairwise_cons.1 h).2⟩
      rcases List.mem_cons.1 ((insZ_perm x l).mem_iff.1 hz) with rfl | hz
      · exact hy
      · exact (List.pairwise_cons.1 h).1 z hz
theorem isZ_sorted : ∀ l : List (List UInt8), (isZ l).Pairwise (· ≤ ·)
  | [] => List.Pairwise.nil
  | x :: l => insZ_sorted x _ (isZ_sorted l)
theorem sort_uniq {a b : List (List UInt8)} (h1 : a.Pairwise (· ≤ ·)) (h2 : b.Pairwise (· ≤ ·)) (h : a.Perm b) : a = b :=
  h.eq_of_pairwise (le := (· ≤ ·)) (fun _ _ _ _ h1 h2 => List.le_antisymm h1 h2) h1 h2
theorem msort_sorted (l : List (List UInt8)) : (l.mergeSort fun x y => decide (x ≤ y)).Pairwise (· ≤ ·) := by
  have h := List.pairwise_mergeSort (le := fun x y : List UInt8 => decide (x ≤ y)) (fun a b c h1 h2 => decide_eq_true (List.le_trans (of_decide_eq_true h1) (of_decide_eq_true h2))) (fun a b => by
    rcases List.le_total a b with h | h
    · simp [h]
    · simp [h]) l
  exact h.imp fun h => of_decide_eq_true h
theorem srtS_is (l : List ByteArray) : srtS l = isS l := by
  unfold srtS isS srtZ
  rw [sort_uniq (msort_sorted _) (isZ_sorted _) ((List.mergeSort_perm _ _).trans (isZ_perm _).symm)]
def carriedE (B : Tab) (rounds : Nat) : Nat → Tab
  | 0 => { B with loopT := fun _ _ _ _ _ => .fail }
  | n + 1 => { B with
      callR := fun f args H => fList (fAV 6) args fun args => fHp H fun H => match (B.callR f args H).val with
        | some (v, H) => fAV 6 v fun v => fHp H fun H => .leaf (v, H)
        | none => match evBody (carriedE B rounds n) f args H with
          | some (v, H) => fAV 6 v fun v => fHp H fun H => .leaf (v, H)
          | none => .fail
      loopT := fun fid lid base kv H => match loopOf B.fn fid lid with
        | some c => match lpForced (carriedE B rounds n) fid lid base c rounds kv H with
          | some (o, kv, H) => fList (fAV 6) kv fun kv => fHp H fun H => .leaf (o, kv, H)
          | none => .fail
        | none => .fail }
theorem carriedE_ok {B : Tab} (hB : TabOK B) (rounds : Nat) : ∀ n, TabOK (carriedE B rounds n) ∧ (carriedE B rounds n).P = B.P ∧ (carriedE B rounds n).glob = B.glob ∧ (carriedE B rounds n).fn = B.fn ∧ (carriedE B rounds n).keep = B.keep
  | 0 => ⟨⟨fun f a H v H' hv => CallOK.tab (T := B) (by rfl) (by rfl) (hB.calls f a H v H' hv), fun f l b k H o k' H' hv => (by cases hv), hB.fns, hB.mixed⟩, rfl, rfl, rfl, rfl⟩
  | n + 1 => by
    obtain ⟨ih, e1, e2, e3, e4⟩ := carriedE_ok hB rounds n
    refine ⟨⟨fun f args H v H' hv => ?_, fun fid lid base kv H o kv' H' hv => ?_, hB.fns, hB.mixed⟩, rfl, rfl, rfl, rfl⟩
    · simp only [carriedE] at hv
      rw [fList_eq (fun x k => fAV_eq 6 x k), fHp_eq] at hv
      split at hv
      · rename_i v0 H0 hb
        rw [fAV_eq, fHp_eq] at hv
        simp only [Tree.val, Option.some.injEq, Prod.mk.injEq] at hv
        obtain ⟨rfl, rfl⟩ := hv
        exact CallOK.tab (T := B) (by rfl) (by rfl) (hB.calls _ _ _ _ _ hb)
      · split at hv
        · rename_i v0 H0 hb
          rw [fAV_eq, fHp_eq] at hv
          simp only [Tree.val, Option.some.injEq, Prod.mk.injEq] at hv
          obtain ⟨rfl, rfl⟩ := hv
          exact (evBody_sound ih hb).tab e1.symm e2.symm
        · cases hv
    · simp only [carriedE] at hv
      split at hv
      · rename_i c hc
        split at hv
        · rename_i o0 kv0 H0 hb
          rw [fList_eq (fun x k => fAV_eq 6 x k), fHp_eq] at hv
          simp only [Tree.val, Option.some.injEq, Prod.mk.injEq] at hv
          obtain ⟨rfl, rfl, rfl⟩ := hv
          rw [lpForced_eq] at hb
          exact (lpRun_sound ih (by rw [e3]; exact hc) rounds kv H _ _ _ hb).tab e1.symm e2.symm e3.symm e4.symm
        · cases hv
      · cases hv
end Go.Ev
namespace Go.Ev.Rag
open Go Go.Ev Go.Proofs
set_option maxRecDepth 1000000
set_option linter.unusedVariables false
def c84k (args : List AV) (H : Hp) : Tree (AV × Hp) := match args, H with
  | [.os 0 0 0 k true false true], [some ⟨[.run .str l], false, ty, false, false, none⟩] => .br (decide (k = l.length) && sm l && decide (ty = Rgg.tyS l)) (.leaf (.tuple [], [some (rS (isS l))])) .fail
  | _, _ => .fail
theorem c84k_eq : c84k = c84 := by
  funext args H
  unfold c84k c84
  split
  · simp only [srtS_is]
  · rename_i h
    split
    · exact absurd rfl (h _ _ _ rfl)
    · rfl
def refL (f : FuncId) : List Nat := match f with
  | 79 => [0]
  | _ => refR f
noncomputable def TB0 : Tab := (T0.addCall 72 c72).addCall 84 c84k
theorem TB0_ok : TabOK TB0 := (T0_ok.addCall c72_run).addCall (by
  rw [c84k_eq]
  intro args H v H' hv
  exact CallOK.tab (by rfl) (by rfl) (c84_run args H v H' hv))
noncomputable def TB : Tab := { TB0 with refm := refL, lay := true }
theorem TB_ok : TabOK TB := ⟨fun f a H v H' hv => CallOK.tab (T := TB0) (by rfl) (by rfl) (TB0_ok.calls f a H v H' hv), fun f l b k H o k' H' hv => LoopOK.tab (T := TB0) (by rfl) (by rfl) (by rfl) (by rfl) (TB0_ok.loops f l b k H o k' H' hv), TB0_ok.fns, TB0_ok.mixed⟩
noncomputable def TE : Tab := carriedE TB 40 12
theorem TE_ok : TabOK TE := (carriedE_ok TB_ok 40 12).1
end Go.Ev.Rag
