import Derived.Test.YtfemekpcgieldaaSg
import Derived.Test.YtfemekpcgieldaaSb
set_option linter.unusedVariables false
set_option linter.unusedSimpArgs false
namespace Clm
def delR (l : List Int) (n i : Nat) : List Int := (l.take n).eraseIdx i ++ 0 :: l.drop n
theorem take_len {α : Type} (P Q : List α) : (P ++ Q).take P.length = P := by simp
theorem drop_len {α : Type} (P Q : List α) : (P ++ Q).drop P.length = Q := by simp
theorem del_parts {l : List Int} {n i : Nat} (hi : i < n) (hn : n ≤ l.length) : ∃ P a Q B, l = P ++ a :: (Q ++ B) ∧ P.length = i ∧ P.length + Q.length + 1 = n := by
  refine ⟨l.take i, l[i], (l.drop (i + 1)).take (n - (i + 1)), (l.drop (i + 1)).drop (n - (i + 1)), ?_, by simp; omega, by simp; omega⟩
  rw [List.take_append_drop]
  simp
theorem del_eq {l x R : List Int} {n i : Nat} (hi : i < n) (hn : n ≤ l.length) (hx : x = (l.drop (i + 1)).take (n - (i + 1))) (hR : R = l.take i ++ x.take x.length ++ l.drop (i + x.length)) :
   x.length = n - (i + 1) ∧ R.length = l.length ∧ R.take (n - 1) ++ [0] ++ R.drop (n - 1 + 1) = delR l n i := by
  obtain ⟨P, a, Q, B, rfl, rfl, rfl⟩ := del_parts hi hn
  have e1 : x = Q := by
    rw [hx, show P.length + Q.length + 1 - (P.length + 1) = Q.length by omega, show P ++ a :: (Q ++ B) = (P ++ [a]) ++ (Q ++ B) by simp, show P.length + 1 = (P ++ [a]).length by simp, drop_len, take_len]
  subst e1
  have e2 : R.length = P.length + (x.length + 1 + B.length) := by
    rw [hR, take_len, List.take_length]
    simp
    omega
  have e3 : ∃ c, R = (P ++ x) ++ c :: B := by
    rw [hR, take_len, List.take_length]
    cases x with
    | nil => exact ⟨a, by simp⟩
    | cons y x =>
      obtain ⟨z, hz⟩ : ∃ z, (P ++ a :: ((y :: x) ++ B)).drop (P.length + (y :: x).length) = z :: B := by
        have e : ∃ D z, a :: (y :: x) = D ++ [z] ∧ D.length = (y :: x).length := ⟨(a :: y :: x).dropLast, (a :: y :: x).getLast (by simp), (List.dropLast_concat_getLast (by simp)).symm, by simp⟩
        obtain ⟨D, z, h1, h2⟩ := e
        refine ⟨z, ?_⟩
        rw [show P ++ a :: ((y :: x) ++ B) = (P ++ D) ++ z :: B by rw [← List.cons_append, h1]; simp, show P.length + (y :: x).length = (P ++ D).length by simp [h2], drop_len]
      exact ⟨z, by rw [hz]⟩
  obtain ⟨c, e3⟩ := e3
  refine ⟨by omega, by rw [e2]; simp; omega, ?_⟩
  unfold delR
  rw [e3, show P.length + x.length + 1 - 1 = (P ++ x).length by simp, take_len, show (P ++ x) ++ c :: B = ((P ++ x) ++ [c]) ++ B by simp, show (P ++ x).length + 1 = ((P ++ x) ++ [c]).length by simp only [List.length_append, List.length_singleton], drop_len,
    show P ++ a :: (x ++ B) = (P ++ a :: x) ++ B by simp, show P.length + x.length + 1 = (P ++ a :: x).length by simp [Nat.add_assoc], take_len, drop_len]
  have : (P ++ a :: x).eraseIdx P.length = P ++ x := by rw [List.eraseIdx_append_of_length_le (Nat.le_refl _)]; simp
  rw [this]
  simp
end Clm
namespace Clm
open Go
set_option linter.unusedVariables false
def moK (bs : List Int) (n i : Nat) : Nat := ((at0 bs i).tmod ((n - i : Nat) : Int)).toNat
def moS (bs : List Int) (n : Nat) : Nat → List Int × List Int
  | 0 => ((List.range n).map Int.ofNat, [])
  | i + 1 => (delR (moS bs n i).1 (n - i) (moK bs n i), (moS bs n i).2 ++ [at0 (moS bs n i).1 (moK bs n i)])
def moO (bs : List Int) (n : Nat) : List Int := (moS bs n n).2
theorem moK_lt {bs : List Int} (hb : ∀ x ∈ bs, 0 ≤ x) {n i : Nat} (hi : i < n) : moK bs n i < n - i ∧ (at0 bs i).tmod ((n - i : Nat) : Int) = (moK bs n i : Nat) := by
  unfold moK
  have h0 : 0 ≤ at0 bs i := by
    unfold at0
    rw [List.getD_eq_getElem?_getD]
    cases hx : bs[(i : Int).toNat]? with
    | none => simp
    | some x => exact hb x (List.mem_of_getElem? hx)
  have := tmod_in h0 (show 0 < ((n - i : Nat) : Int) by omega)
  omega
theorem delR_len {l : List Int} {n i : Nat} (hi : i < n) (hn : n ≤ l.length) : (delR l n i).length = l.length := by
  unfold delR
  rw [List.length_append, List.length_eraseIdx_of_lt (by rw [List.length_take]; omega), List.length_take, List.length_cons, List.length_drop]
  omega
theorem delR_take {l : List Int} {n i : Nat} (hi : i < n) (hn : n ≤ l.length) : (delR l n i).take (n - 1) = (l.take n).eraseIdx i := by
  unfold delR
  have e : ((l.take n).eraseIdx i).length = n - 1 := by rw [List.length_eraseIdx_of_lt (by rw [List.length_take]; omega), List.length_take]; omega
  rw [← e, take_len]
theorem mo_inv {bs : List Int} (hb : ∀ x ∈ bs, 0 ≤ x) (n : Nat) : ∀ i, i ≤ n → (moS bs n i).1.length = n ∧ (moS bs n i).2.length = i ∧ ((moS bs n i).2 ++ (moS bs n i).1.take (n - i)).Perm ((List.range n).map Int.ofNat)
  | 0, _ => ⟨by simp [moS], rfl, by simp only [moS, List.nil_append, Nat.sub_zero]; rw [List.take_of_length_le (by simp)]⟩
  | i + 1, hi => by
    obtain ⟨h1, h2, h3⟩ := mo_inv hb n i (by omega)
    have hk := (moK_lt hb (n := n) (i := i) (by omega)).1
    refine ⟨?_, ?_, ?_⟩
    · show (delR (moS bs n i).1 (n - i) (moK bs n i)).length = n
      rw [delR_len hk (by omega), h1]
    · show ((moS bs n i).2 ++ [_]).length = i + 1
      rw [List.length_append, h2]; rfl
    · show (((moS bs n i).2 ++ [at0 (moS bs n i).1 (moK bs n i)]) ++ (delR (moS bs n i).1 (n - i) (moK bs n i)).take (n - (i + 1))).Perm _
      rw [show n - (i + 1) = n - i - 1 by omega, delR_take hk (by omega), List.append_assoc]
      refine List.Perm.trans (List.Perm.append_left _ ?_) h3
      have hkl : moK bs n i < ((moS bs n i).1.take (n - i)).length := by rw [List.length_take]; omega
      have e : at0 (moS bs n i).1 (moK bs n i) = ((moS bs n i).1.take (n - i))[moK bs n i] := by
        rw [List.getElem_take, at0_lt]
      rw [e]
      generalize (moS bs n i).1.take (n - i) = A at hkl
      rw [List.eraseIdx_eq_take_drop_succ]
      have e3 : A = A.take (moK bs n i) ++ A[moK bs n i] :: A.drop (moK bs n i + 1) := by simp
      conv => rhs; rw [e3]
      rw [List.singleton_append]
      exact List.perm_middle.symm
theorem mo_perm {bs : List Int} (hb : ∀ x ∈ bs, 0 ≤ x) (n : Nat) : (moO bs n).Perm ((List.range n).map Int.ofNat) := by
  have := (mo_inv hb n n (Nat.le_refl _)).2.2
  rw [Nat.sub_self, List.take_zero, List.append_nil] at this
  exact this
theorem ordE_perm {w : Int} {cs od : List Int} (h : OkW w cs) (ho : od.Perm ((List.range cs.length).map Int.ofNat)) : ordE w cs od = 0 := by
  have hl : od.length = cs.length := by rw [ho.length_eq]; simp
  have hnd : od.Nodup := ho.nodup_iff.2 (List.Pairwise.map _ (fun a b h e => h (Int.ofNat.inj e)) List.nodup_range)
  unfold ordE
  rw [ok_iff h, decide_eq_true hl]
  simp only [beq_self_eq_true, cond_true]
  have key : ∀ (l : List Int) (i : Nat), od = od.take i ++ l → i + l.length = od.length → Ev.foldX (rF cs.length od) i l () = .inr () := by
    intro l
    induction l with
    | nil => intro i _ _; rfl
    | cons x l ih =>
      intro i h1 h2
      have hi : (od.take i).length = i := by rw [List.length_take]; simp at h2; omega
      have hgi : od[i]? = some x := by
        conv => lhs; rw [h1]
        rw [List.getElem?_append_right (by omega), hi, Nat.sub_self]; rfl
      have hx : 0 ≤ x ∧ x < cs.length := by
        obtain ⟨y, hy, rfl⟩ := List.mem_map.1 (ho.mem_iff.1 (List.mem_of_getElem? hgi))
        have := List.mem_range.1 hy
        exact ⟨Int.natCast_nonneg y, Int.ofNat_lt.2 this⟩
      have e1 : inR x 0 ((cs.length : Int) - 1) = true := inR_iff.2 (by omega)
      have e2 : has (od.take i) x = false := by
        rw [Bool.eq_false_iff]
        intro hh
        rw [h1, List.nodup_append] at hnd
        exact hnd.2.2 _ (has_iff.1 hh) _ (by simp) rfl
      have hf : rF cs.length od i () x = .inr () := by unfold rF; rw [e1, e2]; rfl
      simp only [Ev.foldX, hf]
      exact ih (i + 1) (by rw [take_succ' hgi, List.append_assoc]; exact h1) (by simp at h2; omega)
  have : rX cs.length od = .inr () := key od 0 (by simp) (by simp)
  rw [this]; rfl
theorem ord_div {w : Int} {cs od : List Int} (h : OkW w cs) (ho : od.Perm ((List.range cs.length).map Int.ofNat)) : Div w cs (ordV w cs od) ∧ ordV w cs od = inOrd w cs od := by
  have e : ordV w cs od = inOrd w cs od := by unfold ordV; rw [ordE_perm h ho]; rfl
  rw [e]
  refine ⟨⟨inOrd_len w cs od, okG_at (inOrd_len w cs od) fun i hi => ?_, inOrd_sum h ho⟩, rfl⟩
  have g := inOrd_get (w := w) h.lo h.nn hi ho
  have e : at0 (inOrd w cs od) i = 120 * val w cs (sumAt cs (pre od i)) i := g
  rw [e]
  have := h.nn i
  unfold val
  omega
theorem more_ord {w v : Int} {cs od : List Int} (h : OkW w cs) (k : OkW v cs) (hwv : w ≤ v) (ho : od.Perm ((List.range cs.length).map Int.ofNat)) {i : Nat} (hi : i < cs.length) : at0 (ordV w cs od) i ≤ at0 (ordV v cs od) i := by
  rw [(ord_div h ho).2, (ord_div k ho).2]
  have e1 : at0 (inOrd w cs od) i = 120 * val w cs (sumAt cs (pre od i)) i := inOrd_get (w := w) h.lo h.nn hi ho
  have e2 : at0 (inOrd v cs od) i = 120 * val v cs (sumAt cs (pre od i)) i := inOrd_get (w := v) k.lo k.nn hi ho
  rw [e1, e2]
  unfold val
  omega
theorem more_avg {w v : Int} {cs : List Int} (h : OkW w cs) (k : OkW v cs) (hwv : w ≤ v) {i : Nat} (hi : i < cs.length) : at0 (avgV w cs) i ≤ at0 (avgV v cs) i := by
  rw [(avg_div h).2, (avg_div k).2, avgL_at hi, avgL_at hi]
  exact avg_mono h.len hwv hi
theorem half_rule {w : Int} {cs : List Int} (h : OkW w cs) (hs : 2 * w = sumI cs) {i : Nat} (hi : i < cs.length) : at0 (divV w cs) i = 60 * at0 cs i := by
  rcases div_cases h with ⟨h1, e⟩ | ⟨h1, e⟩
  · rw [e]; exact half_at h hs hi
  · omega
theorem half_avg {w : Int} {cs : List Int} (h : OkW w cs) (hs : 2 * w = sumI cs) {i : Nat} (hi : i < cs.length) : at0 (avgV w cs) i = 60 * at0 cs i := by
  have := avg_both h hi
  rw [show sumI cs - w = w by omega] at this
  omega
def moreB (cs l m : List Int) : Bool := decide (l.length = cs.length) && decide (m.length = cs.length) && (List.range cs.length).all fun (i : Nat) => decide (at0 l i ≤ at0 m i)
def halfB (cs l : List Int) : Bool := decide (l.length = cs.length) && (List.range cs.length).all fun (i : Nat) => at0 l i == 60 * at0 cs i
end Clm
namespace Clm
open Go
set_option linter.unusedVariables false
def idxI (l : List Int) (v : Int) : Int := bif has l v then (l.findIdx fun x => x == v : Nat) else -1
def qTot (w : Int) (cs : List Int) (os : List (List Int)) (tot : List Int) : List Int := (List.range cs.length).map fun (k : Nat) => at0 tot k + sumI (os.map fun o => at0 (inOrd w cs o) k)
def qS (w : Int) (cs o : List Int) (i : Nat) : List Int × Int := (o.take i).foldl (inStep cs) (List.replicate cs.length 0, w)
def qAdd (tot wt : List Int) : List Int := (List.range tot.length).map fun (k : Nat) => at0 tot k + at0 wt k
def totB (n : Nat) (tot : List Int) (many : Int) : Bool := decide (tot.length = n) && decide (0 ≤ many) && decide (many ≤ 1000000) && tot.all fun x => decide (0 ≤ x) && decide (x ≤ many * 120000)
def preB (n : Nat) (b : List Int) : Bool := decide (b.length ≤ n) && decide b.Nodup && b.all fun x => decide (0 ≤ x) && decide (x < n)
theorem range_ext {n : Nat} {f g : Nat → Int} (h : ∀ k, k < n → f k = g k) : (List.range n).map f = (List.range n).map g := List.map_congr_left fun k hk => h k (List.mem_range.1 hk)
theorem at_range {n k : Nat} (f : Nat → Int) (h : k < n) : at0 ((List.range n).map f) k = f k := by
  rw [at0_lt (by simpa using h)]; simp
theorem qTot_len (w : Int) (cs : List Int) (os : List (List Int)) (tot : List Int) : (qTot w cs os tot).length = cs.length := by simp [qTot]
theorem qTot_at {w : Int} {cs : List Int} {os : List (List Int)} {tot : List Int} {k : Nat} (h : k < cs.length) : at0 (qTot w cs os tot) k = at0 tot k + sumI (os.map fun o => at0 (inOrd w cs o) k) := at_range _ h
theorem qTot_nil {w : Int} {cs tot : List Int} (h : tot.length = cs.length) : qTot w cs [] tot = tot := by
  refine list_at (by rw [qTot_len, h]) fun k hk => ?_
  rw [qTot_len] at hk
  rw [qTot_at hk]
  simp [sumI_nil]
theorem qTot_app (w : Int) (cs : List Int) (a b : List (List Int)) (tot : List Int) : qTot w cs (a ++ b) tot = qTot w cs b (qTot w cs a tot) := by
  refine list_at (by rw [qTot_len, qTot_len]) fun k hk => ?_
  rw [qTot_len] at hk
  rw [qTot_at hk, qTot_at hk, qTot_at hk, List.map_append, sumI_append]
  omega
theorem qTot_one {w : Int} {cs o tot : List Int} (h : tot.length = cs.length) : qTot w cs [o] tot = qAdd tot (inOrd w cs o) := by
  unfold qTot qAdd
  rw [h]
  refine range_ext fun k hk => ?_
  simp [sumI_cons, sumI_nil]
theorem preB_get {n : Nat} {b : List Int} (h : preB n b = true) : b.length ≤ n ∧ b.Nodup ∧ ∀ x ∈ b, 0 ≤ x ∧ x < n := by
  unfold preB at h
  simpa only [Bool.and_eq_true, decide_eq_true_eq, List.all_eq_true, and_assoc] using h
theorem preB_of {n : Nat} {b : List Int} (h1 : b.length ≤ n) (h2 : b.Nodup) (h3 : ∀ x ∈ b, 0 ≤ x ∧ x < n) : preB n b = true := by
  unfold preB
  simp only [Bool.and_eq_true, decide_eq_true_eq, List.all_eq_true]
  exact ⟨⟨h1, h2⟩, h3⟩
theorem preB_snoc {n p : Nat} {b : List Int} (h : preB n b = true) (hl : b.length < n) (hp : p < n) (hh : has b (p : Int) = false) : preB n (b ++ [(p : Int)]) = true := by
  obtain ⟨h1, h2, h3⟩ := preB_get h
  refine preB_of (by rw [List.length_append, List.length_singleton]; omega) ?_ fun x hx => ?_
  · rw [List.nodup_append]
    refine ⟨h2, by simp, fun a ha c hc e => ?_⟩
    rw [List.mem_singleton] at hc
    subst hc; subst e
    rw [has_iff.2 ha] at hh; cases hh
  · rcases List.mem_append.1 hx with hx | hx
    · exact h3 x hx
    · rw [List.mem_singleton] at hx; omega
theorem preB_perm {n : Nat} {b : List Int} (h : preB n b = true) (hl : b.length = n) : b.Perm ((List.range n).map Int.ofNat) := by
  obtain ⟨h1, h2, h3⟩ := preB_get h
  have hsub : b.Subset ((List.range n).map Int.ofNat) := fun x hx => by
    have := h3 x hx
    exact List.mem_map.2 ⟨x.toNat, List.mem_range.2 (by omega), by simp; omega⟩
  have hnd : ((List.range n).map Int.ofNat).Nodup := List.Pairwise.map _ (fun a b h e => h (Int.ofNat.inj e)) List.nodup_range
  refine (List.perm_ext_iff_of_nodup h2 hnd).2 fun x => ⟨fun hx => hsub hx, fun hx => ?_⟩
  by_cases hm : x ∈ b
  · exact hm
  · exfalso
    have := List.Nodup.length_le_of_subset (l₁ := x :: b) (l₂ := (List.range n).map Int.ofNat) (List.nodup_cons.2 ⟨hm, h2⟩) (fun y hy => by
      rcases List.mem_cons.1 hy with rfl | hy
      · exact hx
      · exact hsub hy)
    simp at this
    omega
theorem in_bd {w : Int} {cs o : List Int} (h : OkW w cs) (ho : o.Perm ((List.range cs.length).map Int.ofNat)) {k : Nat} (hk : k < cs.length) : 0 ≤ at0 (inOrd w cs o) k ∧ at0 (inOrd w cs o) k ≤ 120000 := by
  have e : at0 (inOrd w cs o) k = 120 * val w cs (sumAt cs (pre o k)) k := inOrd_get (w := w) h.lo h.nn hk ho
  have := h.nn k
  have := h.rg hk
  rw [e]
  unfold val
  omega
theorem sum_bd {os : List (List Int)} {f : List Int → Int} (h : ∀ o ∈ os, 0 ≤ f o ∧ f o ≤ 120000) : 0 ≤ sumI (os.map f) ∧ sumI (os.map f) ≤ (os.length : Int) * 120000 := by
  induction os with
  | nil => simp [sumI_nil]
  | cons o os ih =>
    rw [List.map_cons, sumI_cons, List.length_cons]
    have := h o (by simp)
    have := ih fun x hx => h x (by simp [hx])
    omega
theorem totB_get {n : Nat} {tot : List Int} {many : Int} (h : totB n tot many = true) : tot.length = n ∧ 0 ≤ many ∧ many ≤ 1000000 ∧ ∀ x ∈ tot, 0 ≤ x ∧ x ≤ many * 120000 := by
  unfold totB at h
  simpa only [Bool.and_eq_true, decide_eq_true_eq, List.all_eq_true, and_assoc] using h
theorem totB_next {w : Int} {cs tot : List Int} {many : Int} {os : List (List Int)} (h : OkW w cs) (ht : totB cs.length tot many = true) (hp : ∀ o ∈ os, o.Perm ((List.range cs.length).map Int.ofNat)) (hm : many + os.length ≤ 1000000) : totB cs.length (qTot w cs os tot) (many + os.length) = true := by
  obtain ⟨h1, h2, h3, h4⟩ := totB_get ht
  unfold totB
  rw [qTot_len]
  simp only [Bool.and_eq_true, decide_eq_true_eq, List.all_eq_true]
  refine ⟨⟨⟨trivial, by omega⟩, hm⟩, fun x hx => ?_⟩
  obtain ⟨k, hk, rfl⟩ := mem_at hx
  rw [qTot_len] at hk
  rw [qTot_at hk]
  have a := h4 _ (at_mem (l := tot) (i := k) (by omega))
  have b := sum_bd (os := os) (f := fun o => at0 (inOrd w cs o) k) fun o ho => in_bd h (hp o ho) hk
  omega
theorem ordI_perm {n : Nat} : ∀ (m : Nat) (b : List Int), preB n b = true → b.length + m = n → ∀ o ∈ ordI n m b, o.Perm ((List.range n).map Int.ofNat)
  | 0, b, h, hl, o, ho => by
    have : o = b := by simpa [ordI] using ho
    subst this
    exact preB_perm h (by omega)
  | m + 1, b, h, hl, o, ho => by
    unfold ordI at ho
    rw [List.mem_flatMap] at ho
    obtain ⟨x, hx, ho⟩ := ho
    have hx := List.mem_range.1 hx
    cases hh : has b (x : Int) with
    | true => rw [hh] at ho; simp at ho
    | false =>
      rw [hh] at ho
      exact ordI_perm m _ (preB_snoc h (by omega) hx hh) (by rw [List.length_append, List.length_singleton]; omega) o ho
theorem ordP_perm {n p : Nat} {b : List Int} (h : preB n b = true) (hl : b.length < n) (hp : p ≤ n) : ∀ o ∈ ordP n b p, o.Perm ((List.range n).map Int.ofNat) := fun o ho => by
  unfold ordP at ho
  rw [List.mem_flatMap] at ho
  obtain ⟨x, hx, ho⟩ := ho
  have hx := List.mem_range.1 hx
  cases hh : has b (x : Int) with
  | true => rw [hh] at ho; simp at ho
  | false =>
    rw [hh] at ho
    exact ordI_perm _ _ (preB_snoc h hl (by omega) hh) (by rw [List.length_append, List.length_singleton]; omega) o ho
theorem ordP_mono (n : Nat) (b : List Int) {p q : Nat} (h : p ≤ q) : (ordP n b p).length ≤ (ordP n b q).length := by
  induction q with
  | zero =>
    have : p = 0 := by omega
    rw [this]
    exact Nat.le_refl _
  | succ q ih =>
    rcases Nat.lt_or_ge p (q + 1) with hlt | hge
    · have := ih (by omega)
      rw [ordP_succ, List.length_append]; omega
    · obtain rfl : p = q + 1 := by omega
      exact Nat.le_refl _
theorem qS_succ {w : Int} {cs o : List Int} {i : Nat} {x : Int} (h : o[i]? = some x) : qS w cs o (i + 1) = inStep cs (qS w cs o i) x := by
  unfold qS
  rw [take_succ' h, List.foldl_append]; rfl
theorem qS_len (w : Int) (cs o : List Int) (i : Nat) : (qS w cs o i).1.length = cs.length := by unfold qS; rw [inStep_len]; simp
theorem qS_left {w : Int} {cs o : List Int} (h : OkW w cs) (i : Nat) : 0 ≤ (qS w cs o i).2 ∧ (qS w cs o i).2 ≤ 5000 := by
  unfold qS
  have hs : 0 ≤ sumAt cs (o.take i) := by
    unfold sumAt
    have : ∀ l : List Int, 0 ≤ sumI (l.map (at0 cs)) := fun l => by
      induction l with
      | nil => simp [sumI_nil]
      | cons y l ih => rw [List.map_cons, sumI_cons]; have := h.nn y; omega
    exact this _
  rw [in_left h.nn (o.take i) _ h.lo]
  have hb : sumI cs ≤ 5000 := by
    have := sumI_bd (l := cs) (B := 1000) (by omega) fun x hx => by have := h.rng x hx; omega
    have := h.len
    omega
  have := h.hi
  have := h.lo
  simp only
  omega
theorem qS_zero {w : Int} {cs o : List Int} {i x : Nat} (hnd : o.Nodup) (h : o[i]? = some (x : Int)) (hp : ∀ y ∈ o, 0 ≤ y) (hx : x < cs.length) : at0 (qS w cs o i).1 x = 0 := by
  have hi : i < o.length := by
    rcases Nat.lt_or_ge i o.length with h' | h'
    · exact h'
    · rw [List.getElem?_eq_none h'] at h; cases h
  have hn : (x : Int) ∉ o.take i := fun hm => by
    have e : o = o.take i ++ (x : Int) :: o.drop (i + 1) := by
      have : o[i] = (x : Int) := by rw [List.getElem?_eq_getElem hi] at h; exact Option.some.inj h
      rw [← this]; simp
    rw [e, List.nodup_append] at hnd
    exact hnd.2.2 _ hm _ (by simp) rfl
  have := in_keep (cs := cs) (k := x) (o.take i) (List.replicate cs.length 0, w) fun y hy e => hn (by
    have := hp y (List.mem_of_mem_take hy)
    rw [show (x : Int) = y by omega]; exact hy)
  unfold at0 qS
  rw [Int.toNat_natCast, this, List.getD_eq_getElem?_getD, List.getElem?_replicate]
  simp [hx]
theorem qAdd_len (tot wt : List Int) : (qAdd tot wt).length = tot.length := by simp [qAdd]
theorem qAdd_at {tot wt : List Int} {k : Nat} (h : k < tot.length) : at0 (qAdd tot wt) k = at0 tot k + at0 wt k := at_range _ h
theorem qAdd_set {tot wt : List Int} {x : Nat} {v : Int} (hl : wt.length = tot.length) (hx : x < tot.length) (h0 : at0 wt x = 0) : (qAdd tot wt).set x (at0 (qAdd tot wt) x + v) = qAdd tot (wt.set x v) := by
  refine list_at (by rw [List.length_set, qAdd_len, qAdd_len]) fun k hk => ?_
  rw [List.length_set, qAdd_len] at hk
  rw [at0_set (by rw [qAdd_len]; exact hx), qAdd_at (wt := wt.set x v) hk, at0_set (by omega)]
  by_cases e : k = x
  · subst e
    rw [if_pos rfl, if_pos rfl, qAdd_at hk, h0]
    omega
  · rw [if_neg e, if_neg e, qAdd_at hk]
theorem qAdd_zero {tot : List Int} {n : Nat} : qAdd tot (List.replicate n 0) = tot := by
  refine list_at (qAdd_len _ _) fun k hk => ?_
  rw [qAdd_len] at hk
  rw [qAdd_at hk]
  unfold at0
  rw [List.getD_eq_getElem?_getD (l := List.replicate n 0), List.getElem?_replicate]
  split <;> simp
theorem qTot_all {w : Int} {cs : List Int} (h : OkW w cs) {k : Nat} (hk : k < cs.length) : ((orders cs.length).length : Int) * at0 (avgV w cs) k = at0 (qTot w cs (orders cs.length) (List.replicate cs.length 0)) k := by
  rw [qTot_at hk, (avg_div h).2, avgL_at hk, orders_len h.len]
  have e := (avg_eq (w := w) h.lo h.nn h.len hk).2
  have e0 : at0 (List.replicate cs.length (0 : Int)) k = 0 := by
    unfold at0
    rw [List.getD_eq_getElem?_getD, List.getElem?_replicate]
    split <;> simp
  rw [← e, e0]
  unfold totO
  rw [Int.zero_add]
  rfl
end Clm
