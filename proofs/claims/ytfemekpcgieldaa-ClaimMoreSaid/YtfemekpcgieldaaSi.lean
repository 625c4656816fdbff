import Derived.Test.YtfemekpcgieldaaSg
set_option linter.unusedVariables false
set_option linter.unusedSimpArgs false
namespace Clm
def delR (l : List Int) (n i : Nat) : List Int := (l.take n).eraseIdx i ++ 0 :: l.drop n
theorem take_len {α : Type} (P Q : List α) : (P ++ Q).take P.length = P := by simp
theorem drop_len {α : Type} (P Q : List α) : (P ++ Q).drop P.length = Q := by simp
theorem del_parts {l : List Int} {n i : Nat} (hi : i < n) (hn : n ≤ l.length) : ∃ P a Q B, l = P ++ a :: (Q ++ B) ∧ P.length = i ∧ P.length + Q.length + 1 = n := by
  refine ⟨l.take i, l[i], (l.drop (i + 1)).take (n - (i + 1)), (l.drop (i + 1)).drop (n - (i + 1)), ?_, by simp; omega, by simp; omega⟩
  rw [List.take_append_drop]
  simp
theorem del_eq {l x R : List Int} {n i : Nat} (hi : i < n) (hn : n ≤ l.length) (hx : x = (l.drop (i + 1)).take (n - (i + 1))) (hR : R = l.take i ++ x.take x.length ++ l.drop (i + x.length)) :
   x.length = n - (i + 1) ∧ R.length = l.length ∧ R.take (n - 1) ++ [0] ++ R.drop (n - 1 + 1) = delR l n i := by
  obtain ⟨P, a, Q, B, rfl, rfl, rfl⟩ := del_parts hi hn
  have e1 : x = Q := by
    rw [hx, show P.length + Q.length + 1 - (P.length + 1) = Q.length by omega, show P ++ a :: (Q ++ B) = (P ++ [a]) ++ (Q ++ B) by simp, show P.length + 1 = (P ++ [a]).length by simp, drop_len, take_len]
  subst e1
  have e2 : R.length = P.length + (x.length + 1 + B.length) := by
    rw [hR, take_len, List.take_length]
    simp
    omega
  have e3 : ∃ c, R = (P ++ x) ++ c :: B := by
    rw [hR, take_len, List.take_length]
    cases x with
    | nil => exact ⟨a, by simp⟩
    | cons y x =>
      obtain ⟨z, hz⟩ : ∃ z, (P ++ a :: ((y :: x) ++ B)).drop (P.length + (y :: x).length) = z :: B := by
        have e : ∃ D z, a :: (y :: x) = D ++ [z] ∧ D.length = (y :: x).length := ⟨(a :: y :: x).dropLast, (a :: y :: x).getLast (by simp), (List.dropLast_concat_getLast (by simp)).symm, by simp⟩
        obtain ⟨D, z, h1, h2⟩ := e
        refine ⟨z, ?_⟩
        rw [show P ++ a :: ((y :: x) ++ B) = (P ++ D) ++ z :: B by rw [← List.cons_append, h1]; simp, show P.length + (y :: x).length = (P ++ D).length by simp [h2], drop_len]
      exact ⟨z, by rw [hz]⟩
  obtain ⟨c, e3⟩ := e3
  refine ⟨by omega, by rw [e2]; simp; omega, ?_⟩
  unfold delR
  rw [e3, show P.length + x.length + 1 - 1 = (P ++ x).length by simp, take_len, show (P ++ x) ++ c :: B = ((P ++ x) ++ [c]) ++ B by simp, show (P ++ x).length + 1 = ((P ++ x) ++ [c]).length by simp only [List.length_append, List.length_singleton], drop_len,
    show P ++ a :: (x ++ B) = (P ++ a :: x) ++ B by simp, show P.length + x.length + 1 = (P ++ a :: x).length by simp [Nat.add_assoc], take_len, drop_len]
  have : (P ++ a :: x).eraseIdx P.length = P ++ x := by rw [List.eraseIdx_append_of_length_le (Nat.le_refl _)]; simp
  rw [this]
  simp
end Clm
namespace Clm
open Go
set_option linter.unusedVariables false
def moK (bs : List Int) (n i : Nat) : Nat := ((at0 bs i).tmod ((n - i : Nat) : Int)).toNat
def moS (bs : List Int) (n : Nat) : Nat → List Int × List Int
  | 0 => ((List.range n).map Int.ofNat, [])
  | i + 1 => (delR (moS bs n i).1 (n - i) (moK bs n i), (moS bs n i).2 ++ [at0 (moS bs n i).1 (moK bs n i)])
def moO (bs : List Int) (n : Nat) : List Int := (moS bs n n).2
theorem moK_lt {bs : List Int} (hb : ∀ x ∈ bs, 0 ≤ x) {n i : Nat} (hi : i < n) : moK bs n i < n - i ∧ (at0 bs i).tmod ((n - i : Nat) : Int) = (moK bs n i : Nat) := by
  unfold moK
  have h0 : 0 ≤ at0 bs i := by
    unfold at0
    rw [List.getD_eq_getElem?_getD]
    cases hx : bs[(i : Int).toNat]? with
    | none => simp
    | some x => exact hb x (List.mem_of_getElem? hx)
  have := tmod_in h0 (show 0 < ((n - i : Nat) : Int) by omega)
  omega
theorem delR_len {l : List Int} {n i : Nat} (hi : i < n) (hn : n ≤ l.length) : (delR l n i).length = l.length := by
  unfold delR
  rw [List.length_append, List.length_eraseIdx_of_lt (by rw [List.length_take]; omega), List.length_take, List.length_cons, List.length_drop]
  omega
theorem delR_take {l : List Int} {n i : Nat} (hi : i < n) (hn : n ≤ l.length) : (delR l n i).take (n - 1) = (l.take n).eraseIdx i := by
  unfold delR
  have e : ((l.take n).eraseIdx i).length = n - 1 := by rw [List.length_eraseIdx_of_lt (by rw [List.length_take]; omega), List.length_take]; omega
  rw [← e, take_len]
theorem mo_inv {bs : List Int} (hb : ∀ x ∈ bs, 0 ≤ x) (n : Nat) : ∀ i, i ≤ n → (moS bs n i).1.length = n ∧ (moS bs n i).2.length = i ∧ ((moS bs n i).2 ++ (moS bs n i).1.take (n - i)).Perm ((List.range n).map Int.ofNat)
  | 0, _ => ⟨by simp [moS], rfl, by simp only [moS, List.nil_append, Nat.sub_zero]; rw [List.take_of_length_le (by simp)]⟩
  | i + 1, hi => by
    obtain ⟨h1, h2, h3⟩ := mo_inv hb n i (by omega)
    have hk := (moK_lt hb (n := n) (i := i) (by omega)).1
    refine ⟨?_, ?_, ?_⟩
    · show (delR (moS bs n i).1 (n - i) (moK bs n i)).length = n
      rw [delR_len hk (by omega), h1]
    · show ((moS bs n i).2 ++ [_]).length = i + 1
      rw [List.length_append, h2]; rfl
    · show (((moS bs n i).2 ++ [at0 (moS bs n i).1 (moK bs n i)]) ++ (delR (moS bs n i).1 (n - i) (moK bs n i)).take (n - (i + 1))).Perm _
      rw [show n - (i + 1) = n - i - 1 by omega, delR_take hk (by omega), List.append_assoc]
      refine List.Perm.trans (List.Perm.append_left _ ?_) h3
      have hkl : moK bs n i < ((moS bs n i).1.take (n - i)).length := by rw [List.length_take]; omega
      have e : at0 (moS bs n i).1 (moK bs n i) = ((moS bs n i).1.take (n - i))[moK bs n i] := by
        rw [List.getElem_take, at0_lt]
      rw [e]
      generalize (moS bs n i).1.take (n - i) = A at hkl
      rw [List.eraseIdx_eq_take_drop_succ]
      have e3 : A = A.take (moK bs n i) ++ A[moK bs n i] :: A.drop (moK bs n i + 1) := by simp
      conv => rhs; rw [e3]
      rw [List.singleton_append]
      exact List.perm_middle.symm
theorem mo_perm {bs : List Int} (hb : ∀ x ∈ bs, 0 ≤ x) (n : Nat) : (moO bs n).Perm ((List.range n).map Int.ofNat) := by
  have := (mo_inv hb n n (Nat.le_refl _)).2.2
  rw [Nat.sub_self, List.take_zero, List.append_nil] at this
  exact this
theorem ordE_perm {w : Int} {cs od : List Int} (h : OkW w cs) (ho : od.Perm ((List.range cs.length).map Int.ofNat)) : ordE w cs od = 0 := by
  have hl : od.length = cs.length := by rw [ho.length_eq]; simp
  have hnd : od.Nodup := ho.nodup_iff.2 (List.Pairwise.map _ (fun a b h e => h (Int.ofNat.inj e)) List.nodup_range)
  unfold ordE
  rw [ok_iff h, decide_eq_true hl]
  simp only [beq_self_eq_true, cond_true]
  have key : ∀ (l : List Int) (i : Nat), od = od.take i ++ l → i + l.length = od.length → Ev.foldX (rF cs.length od) i l () = .inr () := by
    intro l
    induction l with
    | nil => intro i _ _; rfl
    | cons x l ih =>
      intro i h1 h2
      have hi : (od.take i).length = i := by rw [List.length_take]; simp at h2; omega
      have hgi : od[i]? = some x := by
        conv => lhs; rw [h1]
        rw [List.getElem?_append_right (by omega), hi, Nat.sub_self]; rfl
      have hx : 0 ≤ x ∧ x < cs.length := by
        obtain ⟨y, hy, rfl⟩ := List.mem_map.1 (ho.mem_iff.1 (List.mem_of_getElem? hgi))
        have := List.mem_range.1 hy
        exact ⟨Int.natCast_nonneg y, Int.ofNat_lt.2 this⟩
      have e1 : inR x 0 ((cs.length : Int) - 1) = true := inR_iff.2 (by omega)
      have e2 : has (od.take i) x = false := by
        rw [Bool.eq_false_iff]
        intro hh
        rw [h1, List.nodup_append] at hnd
        exact hnd.2.2 _ (has_iff.1 hh) _ (by simp) rfl
      have hf : rF cs.length od i () x = .inr () := by unfold rF; rw [e1, e2]; rfl
      simp only [Ev.foldX, hf]
      exact ih (i + 1) (by rw [take_succ' hgi, List.append_assoc]; exact h1) (by simp at h2; omega)
  have : rX cs.length od = .inr () := key od 0 (by simp) (by simp)
  rw [this]; rfl
theorem ord_div {w : Int} {cs od : List Int} (h : OkW w cs) (ho : od.Perm ((List.range cs.length).map Int.ofNat)) : Div w cs (ordV w cs od) ∧ ordV w cs od = inOrd w cs od := by
  have e : ordV w cs od = inOrd w cs od := by unfold ordV; rw [ordE_perm h ho]; rfl
  rw [e]
  refine ⟨⟨inOrd_len w cs od, okG_at (inOrd_len w cs od) fun i hi => ?_, inOrd_sum h ho⟩, rfl⟩
  have g := inOrd_get (w := w) h.lo h.nn hi ho
  have e : at0 (inOrd w cs od) i = 120 * val w cs (sumAt cs (pre od i)) i := g
  rw [e]
  have := h.nn i
  unfold val
  omega
theorem more_ord {w v : Int} {cs od : List Int} (h : OkW w cs) (k : OkW v cs) (hwv : w ≤ v) (ho : od.Perm ((List.range cs.length).map Int.ofNat)) {i : Nat} (hi : i < cs.length) : at0 (ordV w cs od) i ≤ at0 (ordV v cs od) i := by
  rw [(ord_div h ho).2, (ord_div k ho).2]
  have e1 : at0 (inOrd w cs od) i = 120 * val w cs (sumAt cs (pre od i)) i := inOrd_get (w := w) h.lo h.nn hi ho
  have e2 : at0 (inOrd v cs od) i = 120 * val v cs (sumAt cs (pre od i)) i := inOrd_get (w := v) k.lo k.nn hi ho
  rw [e1, e2]
  unfold val
  omega
theorem more_avg {w v : Int} {cs : List Int} (h : OkW w cs) (k : OkW v cs) (hwv : w ≤ v) {i : Nat} (hi : i < cs.length) : at0 (avgV w cs) i ≤ at0 (avgV v cs) i := by
  rw [(avg_div h).2, (avg_div k).2, avgL_at hi, avgL_at hi]
  exact avg_mono h.len hwv hi
theorem half_rule {w : Int} {cs : List Int} (h : OkW w cs) (hs : 2 * w = sumI cs) {i : Nat} (hi : i < cs.length) : at0 (divV w cs) i = 60 * at0 cs i := by
  rcases div_cases h with ⟨h1, e⟩ | ⟨h1, e⟩
  · rw [e]; exact half_at h hs hi
  · omega
theorem half_avg {w : Int} {cs : List Int} (h : OkW w cs) (hs : 2 * w = sumI cs) {i : Nat} (hi : i < cs.length) : at0 (avgV w cs) i = 60 * at0 cs i := by
  have := avg_both h hi
  rw [show sumI cs - w = w by omega] at this
  omega
def moreB (cs l m : List Int) : Bool := decide (l.length = cs.length) && decide (m.length = cs.length) && (List.range cs.length).all fun (i : Nat) => decide (at0 l i ≤ at0 m i)
def halfB (cs l : List Int) : Bool := decide (l.length = cs.length) && (List.range cs.length).all fun (i : Nat) => at0 l i == 60 * at0 cs i
end Clm
