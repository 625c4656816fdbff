/- What the functions of the claim chapter come to: plain definitions. -/
import Derived.Test.YtfemekpcgieldaaEvE
set_option linter.unusedVariables false
set_option linter.unusedSimpArgs false
namespace Clm
open Go
set_option linter.unusedVariables false
def inR (n lo hi : Int) : Bool := decide (lo ≤ n) && decide (n ≤ hi)
def sumI (l : List Int) : Int := l.foldl (· + ·) 0
def sb (l : List Int) : Bool := l.all fun x => decide (-1000000000 ≤ x) && decide (x ≤ 1000000000)
def okC (cs : List Int) : Bool := cs.all fun c => inR c 1 1000
def chk (w : Int) (cs : List Int) : Int := bif cs.length == 0 then 4 else bif decide (5 < cs.length) then 3 else bif okC cs then (bif inR w 0 (sumI cs) then 0 else 1) else 1
def chkX (l : List Int) : Sum (Nat × Int) Int := Ev.foldX (fun i s c => bif inR c 1 1000 then .inr (s + c) else .inl (i, s)) 0 l 0
def xI {α β : Type} : Sum (Nat × α) β → Int
  | .inl x => x.1
  | .inr _ => 0
def xS {α : Type} : Sum (Nat × α) α → α
  | .inl x => x.2
  | .inr s => s
def times (n : Int) (l : List Int) : List Int := l.map fun x => n * x
def pad5 (l : List Int) : List Int := l ++ List.replicate (5 - l.length) 0
def lessL (a b : List Int) : List Int := (a.zip b).map fun x => x.1 - x.2
def reach (L : Int) (bs : List Int) : Int := sumI (bs.map fun b => min L b)
def lev (total : Int) (bs : List Int) : Nat := (List.range 200001).findIdx fun (L : Nat) => decide (total ≤ reach (L : Int) bs)
def capped (total : Int) (bs : List Int) : List Int := bs.map fun b => min (lev total bs : Int) b
def bub (l : List Int) : Nat → List Int
  | 0 => l
  | j + 1 => bif decide (l.getD (j + 1) 0 < l.getD j 0) then bub ((l.set (j + 1) (l.getD j 0)).set j (l.getD (j + 1) 0)) j else l
def bubI (l : List Int) : Nat → Nat
  | 0 => 0
  | j + 1 => bif decide (l.getD (j + 1) 0 < l.getD j 0) then bubI ((l.set (j + 1) (l.getD j 0)).set j (l.getD (j + 1) 0)) j else j + 1
def levX (n : Nat) (sorted : List Int) (total : Int) : Sum (Nat × Int) Int :=
  Ev.foldX (fun i t _ => bif decide (t.tdiv ((n : Int) - i) ≤ sorted.getD i 0) then .inl (i, t) else .inr (t - sorted.getD i 0)) 0 (List.range n) total
def same (n : Nat) (sorted : List Int) (total : Int) : Int := (xS (levX n sorted total)).tdiv ((n : Int) - xI (levX n sorted total))
def stops {α β : Type} : Sum α β → Bool
  | .inl _ => true
  | .inr _ => false
def badI (l : List Int) : Nat := l.findIdx fun c => !inR c 1 1000
def isortK (r : Nat) (l : List Int) : List Int := (List.range r).foldl (fun l i => bub l (i + 1)) l
def sm1 (x : Int) : Bool := decide (-1000000000000 ≤ x) && decide (x ≤ 1000000000000)
def sm3 (a b c : Int) : Bool := sm1 a && sm1 b && sm1 c
def gar (w a b : Int) : Int × Int :=
  bif decide (w ≤ min a b) then (w, w) else bif decide (w ≤ max a b) then (bif decide (a < b) then (min a b, 2 * w - min a b) else (2 * w - min a b, min a b)) else (2 * a - (a + b - w), 2 * b - (a + b - w))
def pairV (w a b : Int) : Int := 2 * max 0 (w - b) + w - max 0 (w - b) - max 0 (w - a)
def isort (n : Nat) (l : List Int) : List Int := isortK (n - 1) l
def len64 (x : Int) : Int := bif decide (x ≤ 0) then 0 else bif decide (x ≤ 1) then 1 else bif decide (x ≤ 3) then 2 else 3
def lenOK (l : List Int) (k : Nat) : Bool := decide (l.length = k)
def capN (n : Nat) (L : Int) (bs : List Int) : List Int := (bs.take n).map (fun b => min L b) ++ List.replicate (5 - n) 0
def levA (n : Int) (bs : List Int) (t : Int) : List Int := capN n.toNat (same n.toNat (isort n.toNat bs) t) bs
def levG (n : Int) (bs : List Int) (t : Int) : Bool := decide (1 ≤ n) && decide (n ≤ 5) && decide (bs.length = 5) && sb bs && sb (isort n.toNat bs) && decide ((isort n.toNat bs).length = 5) && sm1 t && stops (levX n.toNat (isort n.toNat bs) t)
def divV (w : Int) (cs : List Int) : List Int := bif chk w cs == 0 then (bif decide (2 * w ≤ sumI cs) then capped (120 * w) (times 60 cs) else lessL (times 120 cs) (capped (120 * (sumI cs - w)) (times 60 cs))) else []
def gainV (w : Int) (cs : List Int) : List Int := bif chk w cs == 0 then capped (120 * w) (times 120 cs) else []
def lossV (w : Int) (cs : List Int) : List Int := bif chk w cs == 0 then lessL (times 120 cs) (capped (120 * (sumI cs - w)) (times 120 cs)) else []
end Clm
namespace Clm
open Go
set_option linter.unusedVariables false
theorem sb_get {l : List Int} (h : sb l = true) {x : Int} (hx : x ∈ l) : -1000000000 ≤ x ∧ x ≤ 1000000000 := by
  unfold sb at h
  rw [List.all_eq_true] at h
  simpa using h x hx
theorem foldl_add (l : List Int) : ∀ s : Int, l.foldl (· + ·) s = s + sumI l := by
  unfold sumI
  induction l with
  | nil => intro s; simp
  | cons x l ih => intro s; rw [List.foldl_cons, List.foldl_cons, ih (s + x), ih (0 + x)]; omega
theorem sumI_nil : sumI [] = 0 := rfl
theorem sumI_cons (x : Int) (l : List Int) : sumI (x :: l) = x + sumI l := by
  show (x :: l).foldl (· + ·) 0 = _
  rw [List.foldl_cons, foldl_add]; omega
theorem sumI_append (a b : List Int) : sumI (a ++ b) = sumI a + sumI b := by
  show (a ++ b).foldl (· + ·) 0 = _
  rw [List.foldl_append, foldl_add]; rfl
theorem take_succ' {α : Type} {l : List α} {i : Nat} {x : α} (h : l[i]? = some x) : l.take (i + 1) = l.take i ++ [x] := by
  rw [List.take_add_one, h]; rfl
theorem sumI_take {l : List Int} {i : Nat} {x : Int} (h : l[i]? = some x) : sumI (l.take (i + 1)) = sumI (l.take i) + x := by
  rw [take_succ' h, sumI_append, sumI_cons, sumI_nil]; omega
theorem sumI_bd {l : List Int} {B : Int} (hB : 0 ≤ B) (h : ∀ x ∈ l, -B ≤ x ∧ x ≤ B) : -((l.length : Int) * B) ≤ sumI l ∧ sumI l ≤ (l.length : Int) * B := by
  induction l with
  | nil => simp [sumI_nil]
  | cons x l ih =>
    have h1 := ih fun y hy => h y (by simp [hy])
    have h2 := h x (by simp)
    rw [sumI_cons, List.length_cons, Int.natCast_add, Int.add_mul]
    omega
theorem sb_take {l : List Int} (h : sb l = true) (hl : l.length ≤ 100000) (i : Nat) : -100000000000000 ≤ sumI (l.take i) ∧ sumI (l.take i) ≤ 100000000000000 := by
  have := sumI_bd (l := l.take i) (B := 1000000000) (by omega) (fun x hx => sb_get h (List.mem_of_mem_take hx))
  have h2 : (l.take i).length ≤ l.length := List.length_take_le' _ _
  have h3 : ((l.take i).length : Int) * 1000000000 ≤ 100000 * 1000000000 := by omega
  omega
theorem map_take {l : List Int} {i : Nat} {x : Int} (f : Int → Int) (h : l[i]? = some x) : (l.take (i + 1)).map f = (l.take i).map f ++ [f x] := by
  rw [take_succ' h, List.map_append]; rfl
theorem pad_set {l : List Int} {i : Nat} {x : Int} (h : l[i]? = some x) (h5 : i < 5) (n : Int) : (pad5 (times n (l.take i))).set i (n * x) = pad5 (times n (l.take (i + 1))) := by
  have hi : i < l.length := by
    rcases Nat.lt_or_ge i l.length with h' | h'
    · exact h'
    · rw [List.getElem?_eq_none h'] at h; cases h
  unfold pad5 times
  rw [map_take _ h]
  have e1 : ((l.take i).map fun x => n * x).length = i := by simp; omega
  rw [List.set_append_right _ _ (by rw [e1]; exact Nat.le_refl _), e1, Nat.sub_self, List.length_append, e1, List.length_singleton, List.append_assoc]
  rw [show 5 - i = (5 - (i + 1)) + 1 by omega, List.replicate_succ]
  rfl
theorem mn' (L x : Int) : (if x < L then x else L) = min L x := by rw [Int.min_def]; split <;> split <;> omega
theorem mx' (a b : Int) : (if a > b then a else b) = max b a := by rw [Int.max_def]; split <;> split <;> omega
end Clm
namespace Clm
open Go
set_option linter.unusedVariables false
def insRev (x : Int) : List Int → List Int
  | [] => [x]
  | a :: r => bif decide (x < a) then a :: insRev x r else x :: a :: r
theorem insRev_len (x : Int) : ∀ r, (insRev x r).length = r.length + 1
  | [] => rfl
  | a :: r => by
    unfold insRev
    cases decide (x < a)
    · simp
    · simp [insRev_len x r]
theorem insRev_perm (x : Int) : ∀ r, (insRev x r).Perm (x :: r)
  | [] => .refl _
  | a :: r => by
    unfold insRev
    cases decide (x < a)
    · exact .refl _
    · exact ((insRev_perm x r).cons a).trans (.swap x a r)
theorem insRev_desc (x : Int) : ∀ r, r.Pairwise (fun a b => b ≤ a) → (insRev x r).Pairwise (fun a b => b ≤ a)
  | [], _ => by simp [insRev]
  | a :: r, h => by
    rw [List.pairwise_cons] at h
    unfold insRev
    cases hc : decide (x < a) with
    | false =>
      have hc := of_decide_eq_false hc
      simp only [cond_false]
      rw [List.pairwise_cons, List.pairwise_cons]
      refine ⟨fun b hb => ?_, h⟩
      rcases List.mem_cons.1 hb with rfl | hb
      · omega
      · have := h.1 b hb; omega
    | true =>
      have hc := of_decide_eq_true hc
      simp only [cond_true]
      rw [List.pairwise_cons]
      refine ⟨fun b hb => ?_, insRev_desc x r h.2⟩
      rcases List.mem_cons.1 ((insRev_perm x r).mem_iff.1 hb) with rfl | hb
      · omega
      · exact h.1 b hb
theorem getD_app {A B : List Int} {x : Int} {j : Nat} (h : A.length = j) : (A ++ x :: B).getD j 0 = x := by
  rw [List.getD_eq_getElem?_getD, List.getElem?_append_right (by omega), h, Nat.sub_self]; rfl
theorem bub_ins (x : Int) : ∀ (r B : List Int), bub (r.reverse ++ x :: B) r.length = (insRev x r).reverse ++ B
  | [], B => rfl
  | a :: r, B => by
    have e0 : (a :: r).reverse ++ x :: B = r.reverse ++ a :: x :: B := by simp
    have hl : r.reverse.length = r.length := List.length_reverse
    have g0 : (r.reverse ++ a :: x :: B).getD r.length 0 = a := getD_app hl
    have g1 : (r.reverse ++ a :: x :: B).getD (r.length + 1) 0 = x := by
      rw [show r.reverse ++ a :: x :: B = (r.reverse ++ [a]) ++ x :: B by simp]
      exact getD_app (by simp)
    rw [e0]
    show bub (r.reverse ++ a :: x :: B) (r.length + 1) = _
    unfold bub insRev
    rw [g0, g1]
    cases decide (x < a) with
    | false => simp
    | true =>
      simp only [cond_true]
      have e1 : ((r.reverse ++ a :: x :: B).set (r.length + 1) a).set r.length x = r.reverse ++ x :: a :: B := by
        rw [List.set_append_right _ _ (by omega), List.set_append_right _ _ (by omega), hl, Nat.sub_self, show r.length + 1 - r.length = 1 by omega]
        rfl
      rw [e1, bub_ins x r (a :: B)]
      simp
def insAll (x0 : Int) (xs : List Int) : List Int := xs.foldl (fun r x => insRev x r) [x0]
theorem insAll_snoc (x0 x : Int) (xs : List Int) : insAll x0 (xs ++ [x]) = insRev x (insAll x0 xs) := by simp [insAll]
theorem snoc_of {α : Type} {l : List α} {m : Nat} (h : l.length = m + 1) : ∃ l' x, l = l' ++ [x] ∧ l'.length = m := by
  have hne : l ≠ [] := by rintro rfl; simp at h
  exact ⟨l.dropLast, l.getLast hne, (List.dropLast_concat_getLast hne).symm, by rw [List.length_dropLast]; omega⟩
theorem insAll_len (x0 : Int) : ∀ (m : Nat) (xs : List Int), xs.length = m → (insAll x0 xs).length = m + 1
  | 0, xs, h => by rw [List.length_eq_zero_iff] at h; subst h; rfl
  | m + 1, xs, h => by
    obtain ⟨xs', x, rfl, h'⟩ := snoc_of h
    rw [insAll_snoc, insRev_len, insAll_len x0 m xs' h']
theorem insAll_perm (x0 : Int) : ∀ (m : Nat) (xs : List Int), xs.length = m → (insAll x0 xs).Perm (x0 :: xs)
  | 0, xs, h => by rw [List.length_eq_zero_iff] at h; subst h; exact .refl _
  | m + 1, xs, h => by
    obtain ⟨xs', x, rfl, h'⟩ := snoc_of h
    rw [insAll_snoc]
    refine (insRev_perm _ _).trans (((insAll_perm x0 m xs' h').cons x).trans ?_)
    exact (List.perm_append_comm (l₁ := [x]) (l₂ := x0 :: xs'))
theorem insAll_desc (x0 : Int) : ∀ (m : Nat) (xs : List Int), xs.length = m → (insAll x0 xs).Pairwise (fun a b => b ≤ a)
  | 0, xs, h => by rw [List.length_eq_zero_iff] at h; subst h; simp [insAll]
  | m + 1, xs, h => by
    obtain ⟨xs', x, rfl, h'⟩ := snoc_of h
    rw [insAll_snoc]
    exact insRev_desc _ _ (insAll_desc x0 m xs' h')
theorem isortK_ins (x0 : Int) : ∀ (m : Nat) (xs B : List Int), xs.length = m → isortK m (x0 :: xs ++ B) = (insAll x0 xs).reverse ++ B
  | 0, xs, B, h => by rw [List.length_eq_zero_iff] at h; subst h; rfl
  | m + 1, xs, B, h => by
    obtain ⟨xs', x, rfl, h'⟩ := snoc_of h
    unfold isortK
    rw [List.range_succ, List.foldl_append, List.foldl_cons, List.foldl_nil]
    have ih := isortK_ins x0 m xs' (x :: B) h'
    unfold isortK at ih
    rw [show x0 :: (xs' ++ [x]) ++ B = x0 :: xs' ++ x :: B by simp, ih, insAll_snoc]
    have := bub_ins x (insAll x0 xs') B
    rwa [insAll_len x0 m xs' h'] at this
def sorted (l : List Int) : List Int := match l with
  | [] => []
  | x0 :: xs => (insAll x0 xs).reverse
theorem isort_app (l B : List Int) (h : l ≠ []) : isort l.length (l ++ B) = sorted l ++ B := by
  cases l with
  | nil => exact absurd rfl h
  | cons x xs => exact isortK_ins x xs.length xs B rfl
theorem sorted_perm (l : List Int) : (sorted l).Perm l := by
  cases l with
  | nil => exact .refl _
  | cons x xs => exact (List.reverse_perm _).trans (insAll_perm x xs.length xs rfl)
theorem sorted_asc (l : List Int) : (sorted l).Pairwise (· ≤ ·) := by
  cases l with
  | nil => exact .nil
  | cons x xs => exact List.pairwise_reverse.2 (insAll_desc x xs.length xs rfl)
theorem sorted_len (l : List Int) : (sorted l).length = l.length := (sorted_perm l).length_eq
theorem sumI_perm {a b : List Int} (h : a.Perm b) : sumI a = sumI b := by
  induction h with
  | nil => rfl
  | cons x _ ih => rw [sumI_cons, sumI_cons, ih]
  | swap x y l => rw [sumI_cons, sumI_cons, sumI_cons, sumI_cons]; omega
  | trans _ _ h1 h2 => exact h1.trans h2
theorem reach_perm {a b : List Int} (h : a.Perm b) (L : Int) : reach L a = reach L b := sumI_perm (h.map _)
theorem reach_cons (L x : Int) (l : List Int) : reach L (x :: l) = min L x + reach L l := by unfold reach; rw [List.map_cons, sumI_cons]
theorem reach_nil (L : Int) : reach L [] = 0 := rfl
theorem reach_mono {L L' : Int} (h : L ≤ L') : ∀ l, reach L l ≤ reach L' l
  | [] => Int.le_refl _
  | x :: l => by rw [reach_cons, reach_cons]; have := reach_mono h l; omega
theorem reach_lt {L L' : Int} (h : L < L') : ∀ l, (∃ x ∈ l, L' ≤ x) → reach L l < reach L' l
  | [], ⟨x, hx, _⟩ => by cases hx
  | y :: l, ⟨x, hx, hL⟩ => by
    rw [reach_cons, reach_cons]
    rcases List.mem_cons.1 hx with rfl | hx
    · have := reach_mono (Int.le_of_lt h) l; omega
    · have := reach_lt h l ⟨x, hx, hL⟩; omega
theorem reach_all {L : Int} : ∀ l : List Int, (∀ x ∈ l, L ≤ x) → reach L l = (l.length : Int) * L
  | [], _ => by simp [reach_nil]
  | x :: l, h => by
    rw [reach_cons, reach_all l fun y hy => h y (by simp [hy]), List.length_cons, Int.natCast_add, Int.add_mul]
    have := h x (by simp)
    omega
theorem reach_top {L : Int} : ∀ l : List Int, (∀ x ∈ l, x ≤ L) → reach L l = sumI l
  | [], _ => rfl
  | x :: l, h => by
    rw [reach_cons, reach_top l fun y hy => h y (by simp [hy]), sumI_cons]
    have := h x (by simp)
    omega
def levS : List Int → Int → Option Int
  | [], _ => none
  | s :: S, t => bif decide (t.tdiv ((S.length : Int) + 1) ≤ s) then some (t.tdiv ((S.length : Int) + 1)) else levS S (t - s)
theorem div60 {t : Int} (h0 : 0 ≤ t) (h : (60 : Int) ∣ t) {k : Nat} (h1 : k < 5) : t.tdiv ((k : Int) + 1) * ((k : Int) + 1) = t := by
  refine Int.tdiv_mul_cancel (Int.dvd_trans ?_ h)
  match k, h1 with
  | 0, _ => decide
  | 1, _ => decide
  | 2, _ => decide
  | 3, _ => decide
  | 4, _ => decide
theorem levS_spec : ∀ (S : List Int) (t : Int), S.Pairwise (· ≤ ·) → (∀ x ∈ S, 0 ≤ x ∧ (60 : Int) ∣ x) → S ≠ [] → S.length ≤ 5 → 0 ≤ t → (60 : Int) ∣ t → t ≤ sumI S →
    ∃ L, levS S t = some L ∧ 0 ≤ L ∧ reach L S = t ∧ (∃ x ∈ S, L ≤ x) ∧ t ≤ L * (S.length : Int)
  | [], t, _, _, h, _, _, _, _ => absurd rfl h
  | s :: S, t, hp, hx, _, hl, h0, hd, hs => by
    rw [List.pairwise_cons] at hp
    rw [List.length_cons] at hl
    have hq := div60 h0 hd (k := S.length) (by omega)
    have hn : (((s :: S).length : Nat) : Int) = (S.length : Int) + 1 := by rw [List.length_cons]; rfl
    unfold levS
    generalize hL : t.tdiv ((S.length : Int) + 1) = L0 at hq
    have hL0 : 0 ≤ L0 := by
      rw [← hL]; exact Int.tdiv_nonneg h0 (by omega)
    cases hc : decide (L0 ≤ s) with
    | true =>
      have hc := of_decide_eq_true hc
      refine ⟨L0, rfl, hL0, ?_, ⟨s, by simp, hc⟩, ?_⟩
      · rw [reach_all _ (fun y hy => by
          rcases List.mem_cons.1 hy with rfl | hy
          · exact hc
          · have := hp.1 y hy; omega), hn, Int.mul_comm]
        exact hq
      · rw [hn]; omega
    | false =>
      have hc := of_decide_eq_false hc
      simp only [cond_false]
      have hxs := hx s (by simp)
      rw [sumI_cons] at hs
      have hS : S ≠ [] := by
        rintro rfl
        simp [sumI_nil] at hs hq
        omega
      have hmul : L0 * ((S.length : Int) + 1) = L0 * (S.length : Int) + L0 := by rw [Int.mul_add, Int.mul_one]
      have hpos : 0 ≤ L0 * (S.length : Int) := Int.mul_nonneg hL0 (by omega)
      obtain ⟨L, h1, h2, h3, h4, h5⟩ := levS_spec S (t - s) hp.2 (fun y hy => hx y (by simp [hy])) hS (by omega) (by omega) (Int.dvd_sub hd hxs.2) (by omega)
      have hSl : 0 < S.length := List.length_pos_iff.2 hS
      have hge : L0 ≤ L := by
        by_cases hh : L0 ≤ L
        · exact hh
        · exfalso
          have : L * (S.length : Int) ≤ L0 * (S.length : Int) := Int.mul_le_mul_of_nonneg_right (by omega) (by omega)
          omega
      refine ⟨L, h1, h2, ?_, ?_, ?_⟩
      · rw [reach_cons, h3]; omega
      · obtain ⟨x, hx, hxL⟩ := h4; exact ⟨x, by simp [hx], hxL⟩
      · rw [hn, Int.mul_add, Int.mul_one]
        have : L0 * (S.length : Int) ≤ L * (S.length : Int) := Int.mul_le_mul_of_nonneg_right hge (by omega)
        omega
theorem lev_of {t L : Int} {bs : List Int} (h0 : 0 ≤ L) (h1 : L ≤ 200000) (h2 : reach L bs = t) (h3 : ∃ x ∈ bs, L ≤ x) : (lev t bs : Int) = L := by
  obtain ⟨n, rfl⟩ := Int.eq_ofNat_of_zero_le h0
  unfold lev
  have hp : decide (t ≤ reach (n : Int) bs) = true := decide_eq_true (by omega)
  have hlt : (List.range 200001).findIdx (fun (L : Nat) => decide (t ≤ reach (L : Int) bs)) < (List.range 200001).length := List.findIdx_lt_length_of_exists ⟨n, List.mem_range.2 (by omega), hp⟩
  have hat := List.findIdx_getElem (w := hlt)
  rw [List.getElem_range] at hat
  have hat := of_decide_eq_true hat
  have hle : (List.range 200001).findIdx (fun (L : Nat) => decide (t ≤ reach (L : Int) bs)) ≤ n := by
    refine Nat.le_of_not_lt fun hh => ?_
    have := List.not_of_lt_findIdx hh
    rw [List.getElem_range] at this
    rw [hp] at this; cases this
  by_cases he : (List.range 200001).findIdx (fun (L : Nat) => decide (t ≤ reach (L : Int) bs)) = n
  · rw [he]
  · have := reach_lt (L := (((List.range 200001).findIdx (fun (L : Nat) => decide (t ≤ reach (L : Int) bs)) : Nat) : Int)) (L' := (n : Int)) (by omega) bs h3
    omega
theorem levX_S (n : Nat) (so : List Int) (hn : n ≤ so.length) : ∀ (xs : List Nat) (i : Nat) (t L : Int), i + xs.length = n → levS ((so.drop i).take xs.length) t = some L →
    ∃ j t', Ev.foldX (fun i t (_ : Nat) => bif decide (t.tdiv ((n : Int) - (i : Nat)) ≤ so.getD i 0) then Sum.inl ((i : Nat), t) else Sum.inr (t - so.getD i 0)) i xs t = .inl (j, t') ∧ t'.tdiv ((n : Int) - (j : Nat)) = L
  | [], i, t, L, h, hl => by simp [levS] at hl
  | x :: xs, i, t, L, h, hl => by
    rw [List.length_cons] at h hl
    have hi : i < so.length := by omega
    rw [List.drop_eq_getElem_cons hi, List.take_succ_cons] at hl
    unfold levS at hl
    have hg : so.getD i 0 = so[i] := by rw [List.getD_eq_getElem?_getD, List.getElem?_eq_getElem hi]; rfl
    have hlen : (((so.drop (i + 1)).take xs.length).length : Int) + 1 = (n : Int) - (i : Nat) := by
      rw [List.length_take, List.length_drop]; omega
    rw [hlen] at hl
    simp only [Ev.foldX, hg]
    cases hc : decide (t.tdiv ((n : Int) - (i : Nat)) ≤ so[i]) with
    | true =>
      rw [hc] at hl
      simp only [cond_true, Option.some.injEq] at hl ⊢
      exact ⟨i, t, rfl, hl⟩
    | false =>
      rw [hc] at hl
      simp only [cond_false] at hl ⊢
      exact levX_S n so hn xs (i + 1) _ L (by omega) hl
theorem sb_of {l : List Int} (h : ∀ x ∈ l, 0 ≤ x ∧ x ≤ 1000000000) : sb l = true := by
  unfold sb
  rw [List.all_eq_true]
  intro x hx
  have := h x hx
  simp only [Bool.and_eq_true, decide_eq_true_eq]
  omega
theorem pad_mem {l : List Int} {x : Int} (h : x ∈ pad5 l) : x ∈ l ∨ x = 0 := by
  unfold pad5 at h
  rcases List.mem_append.1 h with h | h
  · exact .inl h
  · exact .inr (List.mem_replicate.1 h).2
theorem lev_eq {bs : List Int} {t : Int} (h0 : bs ≠ []) (h5 : bs.length ≤ 5) (hb : ∀ x ∈ bs, 0 ≤ x ∧ x ≤ 120000 ∧ (60 : Int) ∣ x) (ht : 0 ≤ t) (hd : (60 : Int) ∣ t) (hs : t ≤ sumI bs) :
    levG bs.length (pad5 bs) t = true ∧ levA bs.length (pad5 bs) t = pad5 (capped t bs) ∧ reach (lev t bs : Nat) bs = t ∧ (∃ x ∈ bs, (lev t bs : Int) ≤ x) ∧ (lev t bs : Int) ≤ 120000 := by
  have hl := List.length_pos_iff.2 h0
  have hso : isort bs.length (pad5 bs) = sorted bs ++ List.replicate (5 - bs.length) 0 := isort_app bs _ h0
  have hsl : (isort bs.length (pad5 bs)).length = 5 := by rw [hso]; simp [sorted_len]; omega
  have hms : ∀ x ∈ isort bs.length (pad5 bs), 0 ≤ x ∧ x ≤ 1000000000 := fun x hx => by
    rw [hso] at hx
    rcases List.mem_append.1 hx with hx | hx
    · have := hb x ((sorted_perm bs).mem_iff.1 hx); omega
    · have := (List.mem_replicate.1 hx).2; omega
  have htk : ((isort bs.length (pad5 bs)).drop 0).take (List.range bs.length).length = sorted bs := by
    rw [List.drop_zero, List.length_range, hso]
    exact List.take_left' (sorted_len bs)
  have hp := sorted_perm bs
  obtain ⟨L, e1, e2, e3, e4, e5⟩ := levS_spec (sorted bs) t (sorted_asc bs) (fun x hx => ⟨(hb x (hp.mem_iff.1 hx)).1, (hb x (hp.mem_iff.1 hx)).2.2⟩) (fun h => by have := sorted_len bs; rw [h] at this; simp at this; omega)
    (by rw [sorted_len]; exact h5) ht hd (by rw [sumI_perm hp]; exact hs)
  rw [reach_perm hp] at e3
  have e4' : ∃ x ∈ bs, L ≤ x := by obtain ⟨x, hx, hL⟩ := e4; exact ⟨x, hp.mem_iff.1 hx, hL⟩
  have hL : L ≤ 120000 := by obtain ⟨x, hx, h⟩ := e4'; have := hb x hx; omega
  have hlev := lev_of e2 (by omega) e3 e4'
  obtain ⟨j, t', f1, f2⟩ := levX_S bs.length (isort bs.length (pad5 bs)) (by omega) (List.range bs.length) 0 t L (by simp) (by rw [htk]; exact e1)
  have hX : levX bs.length (isort bs.length (pad5 bs)) t = .inl (j, t') := f1
  have hsame : same bs.length (isort bs.length (pad5 bs)) t = L := by
    unfold same; rw [hX]; exact f2
  have hsum : sumI bs ≤ 600000 := by
    have := sumI_bd (l := bs) (B := 120000) (by omega) (fun x hx => by have := hb x hx; omega)
    omega
  have hpm : ∀ x ∈ pad5 bs, 0 ≤ x ∧ x ≤ 1000000000 := fun x hx => by
    rcases pad_mem hx with h | h
    · have := hb x h; omega
    · omega
  refine ⟨?_, ?_, by rw [hlev]; exact e3, by rw [hlev]; exact e4', by omega⟩
  · unfold levG
    rw [Int.toNat_natCast, hX, hsl, decide_eq_true (show (1 : Int) ≤ (bs.length : Int) by omega), decide_eq_true (show (bs.length : Int) ≤ 5 by omega), decide_eq_true (show (pad5 bs).length = 5 by simp [pad5]; omega),
      sb_of hpm, sb_of hms, show sm1 t = true by unfold sm1; rw [decide_eq_true (by omega), decide_eq_true (by omega)]; rfl]
    rfl
  · unfold levA capN capped
    rw [Int.toNat_natCast, hsame, hlev]
    unfold pad5
    rw [List.take_left' rfl, List.length_map]
end Clm
namespace Clm
open Go
set_option linter.unusedVariables false
structure OkW (w : Int) (cs : List Int) : Prop where
  ne : cs ≠ []
  len : cs.length ≤ 5
  rng : ∀ x ∈ cs, 1 ≤ x ∧ x ≤ 1000
  lo : 0 ≤ w
  hi : w ≤ sumI cs
theorem ok_of {w : Int} {cs : List Int} (h : chk w cs = 0) : OkW w cs := by
  unfold chk at h
  cases h0 : cs.length == 0 with
  | true => rw [h0] at h; cases h
  | false =>
    rw [h0] at h
    cases h5 : decide (5 < cs.length) with
    | true => rw [h5] at h; cases h
    | false =>
      rw [h5] at h
      cases hc : okC cs with
      | false => rw [hc] at h; cases h
      | true =>
        rw [hc] at h
        cases hr : inR w 0 (sumI cs) with
        | false => rw [hr] at h; cases h
        | true =>
          unfold inR at hr
          unfold okC at hc
          rw [List.all_eq_true] at hc
          simp only [Bool.and_eq_true, decide_eq_true_eq] at hr
          refine ⟨(fun e => by subst e; cases h0), by have := of_decide_eq_false h5; omega, fun x hx => ?_, hr.1, hr.2⟩
          have := hc x hx
          unfold inR at this
          simpa using this
theorem ok_iff {w : Int} {cs : List Int} (h : OkW w cs) : chk w cs = 0 := by
  have h0 : (cs.length == 0) = false := by have := List.length_pos_iff.2 h.ne; rw [beq_eq_false_iff_ne]; omega
  have hc : okC cs = true := by
    unfold okC inR
    rw [List.all_eq_true]
    intro x hx
    have := h.rng x hx
    simp; omega
  unfold chk
  rw [h0, decide_eq_false (show ¬ 5 < cs.length by have := h.len; omega), hc]
  unfold inR
  rw [decide_eq_true h.lo, decide_eq_true h.hi]
  rfl
theorem sum_times (n : Int) : ∀ l : List Int, sumI (times n l) = n * sumI l
  | [] => by simp [times, sumI_nil]
  | x :: l => by
    show sumI (n * x :: times n l) = _
    rw [sumI_cons, sum_times n l, sumI_cons, Int.mul_add]
theorem times_len (n : Int) (l : List Int) : (times n l).length = l.length := by simp [times]
theorem OkW.sum {w : Int} {cs : List Int} (h : OkW w cs) : sumI cs ≤ 5000 := by
  have := sumI_bd (l := cs) (B := 1000) (by omega) (fun x hx => by have := h.rng x hx; omega)
  have := h.len
  omega
theorem OkW.times_in {w : Int} {cs : List Int} (h : OkW w cs) {n : Int} (hn : n = 60 ∨ n = 120) : ∀ x ∈ times n cs, 0 ≤ x ∧ x ≤ 120000 ∧ (60 : Int) ∣ x := by
  intro x hx
  obtain ⟨y, hy, rfl⟩ := List.mem_map.1 hx
  have := h.rng y hy
  rcases hn with rfl | rfl
  · exact ⟨by omega, by omega, ⟨y, rfl⟩⟩
  · exact ⟨by omega, by omega, ⟨2 * y, by omega⟩⟩
theorem OkW.times_ne {w : Int} {cs : List Int} (h : OkW w cs) (n : Int) : times n cs ≠ [] := fun e => h.ne (by
  have := times_len n cs
  rw [e] at this
  exact List.length_eq_zero_iff.1 this.symm)
theorem capped_len (t : Int) (bs : List Int) : (capped t bs).length = bs.length := by simp [capped]
structure LevOk (n : Nat) (bs : List Int) (t : Int) : Prop where
  g : levG n (pad5 bs) t = true
  a : levA n (pad5 bs) t = pad5 (capped t bs)
  len : (levA n (pad5 bs) t).length = 5
  tk : (levA n (pad5 bs) t).take n = capped t bs
  top : t ≤ reach 200000 bs
  small : ∀ x ∈ capped t bs, 0 ≤ x ∧ x ≤ 120000
  sum : sumI (capped t bs) = t
  wr : -1000000 ≤ t ∧ t ≤ 1000000
theorem OkW.lev {w : Int} {cs : List Int} (h : OkW w cs) {n t : Int} (hn : n = 60 ∨ n = 120) (h0 : 0 ≤ t) (hd : (60 : Int) ∣ t) (hs : t ≤ n * sumI cs) : LevOk cs.length (times n cs) t := by
  have hl := times_len n cs
  have h5 := h.len
  have hin := h.times_in hn
  have hsum := h.sum
  have hsum0 : sumI (times n cs) = n * sumI cs := sum_times n cs
  have hbig : n * sumI cs ≤ 600000 := by rcases hn with rfl | rfl <;> omega
  have e := lev_eq (bs := times n cs) (t := t) (h.times_ne n) (by omega) hin h0 hd (by omega)
  rw [hl] at e
  obtain ⟨e1, e2, e3, e4, e5⟩ := e
  have hcl := capped_len t (times n cs)
  refine ⟨e1, e2, by rw [e2]; simp [pad5, hcl, hl]; omega, ?_, ?_, ?_, e3, by omega⟩
  · rw [e2]; unfold pad5; exact List.take_left' (by omega)
  · rw [reach_top _ (fun x hx => by have := hin x hx; omega)]; omega
  · intro x hx
    obtain ⟨y, hy, rfl⟩ := List.mem_map.1 hx
    have := hin y hy
    have : (0 : Int) ≤ (Clm.lev t (times n cs) : Nat) := by omega
    omega
theorem lessL_len {a b : List Int} (h : b.length = a.length) : (lessL a b).length = a.length := by simp [lessL, h]
theorem lessL_pad {a b : List Int} (h : b.length = a.length) : (lessL (pad5 a) (pad5 b)).take a.length = lessL a b := by
  unfold lessL pad5
  rw [← List.map_take, List.zip_append h.symm]
  rw [List.take_left' (by simp [h])]
end Clm
namespace Clm
open Go
set_option linter.unusedVariables false
def okG (cs gs : List Int) : Bool := (gs.zip cs).all fun x => inR x.1 0 (120 * x.2)
def badG (cs gs : List Int) : Nat := (gs.zip cs).findIdx fun x => !inR x.1 0 (120 * x.2)
def validV (w : Int) (cs gs : List Int) : Int := bif chk w cs == 0 then (bif decide (gs.length = cs.length) then (bif okG cs gs then (bif sumI gs == 120 * w then 0 else 17) else 1) else 5) else chk w cs
def at0 (l : List Int) (i : Int) : Int := l.getD i.toNat 0
def apartV (cs gs : List Int) (i j : Int) : Bool := (gar (at0 gs i + at0 gs j) (120 * at0 cs i) (120 * at0 cs j)).1 != 2 * at0 gs i
def oneV (cs gs : List Int) (i j : Int) : Bool := 2 * at0 gs i == pairV (at0 gs i + at0 gs j) (120 * at0 cs i) (120 * at0 cs j)
def jOf (cs gs : List Int) (i : Nat) : Nat := (List.range cs.length).findIdx fun (j : Nat) => decide (i < j) && apartV cs gs i j
def iOf (cs gs : List Int) : Nat := (List.range cs.length).findIdx fun (i : Nat) => decide (jOf cs gs i < cs.length)
def foundV (cs gs : List Int) : Bool := decide (iOf cs gs < cs.length)
def why1 (w : Int) (cs gs : List Int) : Int := bif validV w cs gs == 0 then (bif foundV cs gs then (iOf cs gs : Nat) else 0) else 0
def why2 (w : Int) (cs gs : List Int) : Int := bif validV w cs gs == 0 then (bif foundV cs gs then (jOf cs gs (iOf cs gs) : Nat) else 0) else 0
def whyE (w : Int) (cs gs : List Int) : Int := bif validV w cs gs == 0 then (bif foundV cs gs then 0 else 13) else validV w cs gs
def provV (w : Int) (cs gs : List Int) (i j : Int) : Int := bif validV w cs gs == 0 then (bif !inR i 0 ((cs.length : Int) - 1) || !inR j 0 ((cs.length : Int) - 1) then 2 else bif i == j then 6 else bif apartV cs gs i j then 0 else 14) else validV w cs gs
def two1 (w a b : Int) : Int := bif chk w [a, b] == 0 then (pairV (120 * w) (120 * a) (120 * b)).tdiv 2 else 0
def two2 (w a b : Int) : Int := bif chk w [a, b] == 0 then 120 * w - (pairV (120 * w) (120 * a) (120 * b)).tdiv 2 else 0
theorem gar_pair (w a b : Int) : (gar w a b).1 = pairV w a b := by
  unfold gar pairV
  cases h1 : decide (w ≤ min a b) with
  | true => have := of_decide_eq_true h1; simp only [cond_true]; omega
  | false =>
    have := of_decide_eq_false h1
    cases h2 : decide (w ≤ max a b) with
    | true =>
      have := of_decide_eq_true h2
      cases h3 : decide (a < b) with
      | true => have := of_decide_eq_true h3; simp only [cond_true, cond_false]; omega
      | false => have := of_decide_eq_false h3; simp only [cond_true, cond_false]; omega
    | false => have := of_decide_eq_false h2; simp only [cond_false]; omega
theorem gar_sum (w a b : Int) : (gar w a b).1 + (gar w a b).2 = 2 * w := by
  unfold gar
  cases decide (w ≤ min a b) with
  | true => simp only [cond_true]; omega
  | false =>
    cases decide (w ≤ max a b) with
    | true => cases decide (a < b) <;> simp only [cond_true, cond_false] <;> omega
    | false => simp only [cond_false]; omega
theorem one_apart (cs gs : List Int) (i j : Int) : oneV cs gs i j = !apartV cs gs i j := by
  unfold oneV apartV
  rw [gar_pair, bne, Bool.not_not, Bool.eq_iff_iff, beq_iff_eq, beq_iff_eq]
  exact ⟨Eq.symm, Eq.symm⟩
theorem gar_even (w a b : Int) : ∃ p q, (gar (120 * w) (120 * a) (120 * b)).1 = 120 * p ∧ (gar (120 * w) (120 * a) (120 * b)).2 = 120 * q := by
  have h1 : min (120 * a) (120 * b) = 120 * min a b := by omega
  unfold gar
  rw [h1]
  cases decide (120 * w ≤ 120 * min a b) with
  | true => exact ⟨w, w, rfl, rfl⟩
  | false =>
    cases decide (120 * w ≤ max (120 * a) (120 * b)) with
    | true =>
      cases decide (120 * a < 120 * b) with
      | true => exact ⟨min a b, 2 * w - min a b, rfl, by simp only [cond_true, cond_false]; omega⟩
      | false => exact ⟨2 * w - min a b, min a b, by simp only [cond_true, cond_false]; omega, rfl⟩
    | false => exact ⟨2 * a - (a + b - w), 2 * b - (a + b - w), by simp only [cond_false]; omega, by simp only [cond_false]; omega⟩
theorem tdiv120 (p : Int) : (120 * p).tdiv 2 = 60 * p := by
  rw [show 120 * p = 2 * (60 * p) by omega]
  exact Int.mul_tdiv_cancel_left _ (by decide)
theorem two_eq (w a b : Int) : (gar (120 * w) (120 * a) (120 * b)).1.tdiv 2 = (pairV (120 * w) (120 * a) (120 * b)).tdiv 2 ∧ (gar (120 * w) (120 * a) (120 * b)).2.tdiv 2 = 120 * w - (pairV (120 * w) (120 * a) (120 * b)).tdiv 2 := by
  obtain ⟨p, q, h1, h2⟩ := gar_even w a b
  have hs := gar_sum (120 * w) (120 * a) (120 * b)
  rw [← gar_pair, h1, h2, tdiv120, tdiv120]
  rw [h1, h2] at hs
  exact ⟨rfl, by omega⟩
end Clm
