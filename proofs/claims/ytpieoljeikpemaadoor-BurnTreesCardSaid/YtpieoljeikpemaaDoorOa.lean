/- The heaps of the burn chapter's laws by numbers: plain definitions. -/
import Derived.Test.YtpieoljeikpemaaDoorSh
import Derived.Test.YtpieoljeikpemaaDoorSp
set_option linter.unusedVariables false
set_option linter.unusedSimpArgs false
namespace Brn
open Go
def z81 : List Int := List.replicate 81 0
def at9 (l : List Int) (i k : Nat) : Int := l.getD (k + i * 9) 0
def set9 (l : List Int) (i k : Nat) (v : Int) : List Int := l.set (k + i * 9) v
def f0row (i : Nat) (l : List Int) : List Int := (List.range 9).foldl (fun l k => bif decide (i = k) then l else set9 l i k 100) l
def f0 (l : List Int) : List Int := (List.range 9).foldl (fun l i => f0row i l) l
def fWay (l : List Int) (w : Int × Int) : List Int := set9 (set9 l w.1.toNat w.2.toNat 1) w.2.toNat w.1.toNat 1
def fIJ (k i : Nat) (l : List Int) (j : Nat) : List Int := set9 l i j (min (at9 l i j) (at9 l i k + at9 l k j))
def fI (k : Nat) (l : List Int) (i : Nat) : List Int := (List.range 9).foldl (fIJ k i) l
def fK (l : List Int) (k : Nat) : List Int := (List.range 9).foldl (fI k) l
def dist9 (ws : W) : List Int := (List.range 9).foldl fK (ws.foldl fWay (f0 z81))
def smallF (l : List Int) : Bool := l.all fun x => decide (0 ≤ x) && decide (x ≤ 100)
def distN (n : Int) (ws : W) : List Int := bif decide (n = 0) then [] else dist9 ws
structure Sk where
  places : Int
  back : List Int
  more : List Int
  extra : Int
structure Sk.Fit (s : Sk) : Prop where
  p : 0 ≤ s.places ∧ s.places < 256
  b : s.back.length = 9 ∧ ∀ x ∈ s.back, 0 ≤ x ∧ x < 256
  m : s.more.length = 8 ∧ ∀ x ∈ s.more, 0 ≤ x ∧ x < 256
  x : 0 ≤ s.extra ∧ s.extra < 256
def u8s (l : List Int) : Bool := l.all fun x => decide (0 ≤ x) && decide (x < 256)
def backW (b : List Int) (n : Int) : W := (List.range (n.toNat - 1)).map fun (i : Nat) => ((b.getD (i + 1) 0).tmod ((i + 1 : Nat) : Int), ((i + 1 : Nat) : Int))
def wayAt (ws : W) (a b : Int) : Int := ((ws.findIdx fun w => [w.1, w.2] == [a, b] : Nat) : Int)
def moreW (n : Int) (ws : W) (x : Int × Int) : W :=
  bif x.1.tmod n != x.2.tmod n && !way ws (min (x.1.tmod n) (x.2.tmod n)) (max (x.1.tmod n) (x.2.tmod n)) then ws ++ [(min (x.1.tmod n) (x.2.tmod n), max (x.1.tmod n) (x.2.tmod n))] else ws
def skN (s : Sk) (most : Int) : Int := 1 + s.places.tmod most
def skMo (m : List Int) (x : Int) : W := (Ev.pairUp 4 m).take (x.tmod 5).toNat
def skW (s : Sk) (most : Int) : W := (skMo s.more s.extra).foldl (moreW (skN s most)) (backW s.back (skN s most))
def p8s (l : W) : Bool := l.all fun x => decide (0 ≤ x.1) && decide (x.1 < 256) && decide (0 ≤ x.2) && decide (x.2 < 256)
def enD (d : List Int) (fs : List Int) (p : Nat) : Bool := (List.range fs.length).any fun (i : Nat) => decide (at9 d p (fs.getD i 0).toNat ≤ (fs.length : Int) - 1 - i)
def enoughD (n : Int) (d : List Int) (fs : List Int) : Bool := (List.range n.toNat).all (enD d fs)
def in9 (fs : List Int) : Bool := fs.all fun x => decide (0 ≤ x) && decide (x < 9)
end Brn
namespace Brn
open Go
set_option linter.unusedVariables false
theorem set9_len (l : List Int) (i k : Nat) (v : Int) : (set9 l i k v).length = l.length := by simp [set9]
theorem fold_len {β : Type} (f : List Int → β → List Int) (h : ∀ l x, (f l x).length = l.length) : ∀ (xs : List β) (l : List Int), (xs.foldl f l).length = l.length
  | [], _ => rfl
  | x :: xs, l => by rw [List.foldl_cons, fold_len f h xs, h]
theorem f0row_len (i : Nat) (l : List Int) : (f0row i l).length = l.length := fold_len _ (fun l k => by cases decide (i = k) <;> simp [set9_len]) _ _
theorem f0_len (l : List Int) : (f0 l).length = l.length := fold_len _ (fun l i => f0row_len i l) _ _
theorem fWay_len (l : List Int) (w : Int × Int) : (fWay l w).length = l.length := by unfold fWay; rw [set9_len, set9_len]
theorem fIJ_len (k i : Nat) (l : List Int) (j : Nat) : (fIJ k i l j).length = l.length := by unfold fIJ; rw [set9_len]
theorem fI_len (k : Nat) (l : List Int) (i : Nat) : (fI k l i).length = l.length := fold_len _ (fun l j => fIJ_len k i l j) _ _
theorem fK_len (l : List Int) (k : Nat) : (fK l k).length = l.length := fold_len _ (fun l i => fI_len k l i) _ _
theorem ways_len (ws : W) (l : List Int) : (ws.foldl fWay l).length = l.length := fold_len _ (fun l w => fWay_len l w) _ _
theorem dist9_len (ws : W) : (dist9 ws).length = 81 := by
  unfold dist9
  rw [fold_len _ (fun l k => fK_len l k), ways_len, f0_len]; simp [z81]
theorem small_iff {l : List Int} : smallF l = true ↔ ∀ x ∈ l, 0 ≤ x ∧ x ≤ 100 := by
  unfold smallF
  rw [List.all_eq_true]
  simp
theorem small_set {l : List Int} (h : smallF l = true) (i k : Nat) {v : Int} (h0 : 0 ≤ v) (h1 : v ≤ 100) : smallF (set9 l i k v) = true := by
  rw [small_iff] at *
  intro x hx
  rcases List.mem_or_eq_of_mem_set hx with hx | rfl
  · exact h x hx
  · exact ⟨h0, h1⟩
theorem small_get {l : List Int} (h : smallF l = true) (i : Nat) : 0 ≤ l.getD i 0 ∧ l.getD i 0 ≤ 100 := by
  rw [small_iff] at h
  rw [List.getD_eq_getElem?_getD]
  cases hx : l[i]? with
  | none => simp
  | some x => exact h x (List.mem_of_getElem? hx)
theorem small_fold {β : Type} (f : List Int → β → List Int) (h : ∀ l x, smallF l = true → smallF (f l x) = true) : ∀ (xs : List β) (l : List Int), smallF l = true → smallF (xs.foldl f l) = true
  | [], _, hl => hl
  | x :: xs, l, hl => by rw [List.foldl_cons]; exact small_fold f h xs _ (h l x hl)
theorem small_fIJ (k i : Nat) (l : List Int) (j : Nat) (h : smallF l = true) : smallF (fIJ k i l j) = true := by
  unfold fIJ at9
  have a := small_get h (j + i * 9)
  have b := small_get h (k + i * 9)
  have c := small_get h (j + k * 9)
  exact small_set h i j (by omega) (by omega)
theorem small_fI (k : Nat) (l : List Int) (i : Nat) (h : smallF l = true) : smallF (fI k l i) = true := small_fold _ (fun l j h => small_fIJ k i l j h) _ _ h
theorem small_fK (l : List Int) (k : Nat) (h : smallF l = true) : smallF (fK l k) = true := small_fold _ (fun l i h => small_fI k l i h) _ _ h
theorem small_f0row (i : Nat) (l : List Int) (h : smallF l = true) : smallF (f0row i l) = true := small_fold _ (fun l k h => by
  cases decide (i = k) with
  | true => exact h
  | false => exact small_set h i k (by omega) (by omega)) _ _ h
theorem small_f0 (l : List Int) (h : smallF l = true) : smallF (f0 l) = true := small_fold _ (fun l i h => small_f0row i l h) _ _ h
theorem small_ways (ws : W) (l : List Int) (h : smallF l = true) : smallF (ws.foldl fWay l) = true := small_fold _ (fun l w h => small_set (small_set h _ _ (by omega) (by omega)) _ _ (by omega) (by omega)) _ _ h
theorem small_init (ws : W) : smallF (ws.foldl fWay (f0 z81)) = true := small_ways ws _ (small_f0 _ (by decide))
end Brn
namespace Brn
open Go
set_option linter.unusedVariables false
theorem tmod_in {a b : Int} (ha : 0 ≤ a) (hb : 0 < b) : 0 ≤ a.tmod b ∧ a.tmod b < b := by
  rw [Int.tmod_eq_emod_of_nonneg ha]
  exact ⟨Int.emod_nonneg _ (by omega), Int.emod_lt_of_pos _ hb⟩
theorem getD_nn {b : List Int} (hb : ∀ x ∈ b, 0 ≤ x) (i : Nat) : 0 ≤ b.getD i 0 := by
  rw [List.getD_eq_getElem?_getD]
  cases hx : b[i]? with
  | none => simp
  | some x => exact hb x (List.mem_of_getElem? hx)
theorem back_good {b : List Int} (hb : ∀ x ∈ b, 0 ≤ x) {n : Int} (h1 : 1 ≤ n) : ∀ w ∈ backW b n, good n w := by
  intro w hw
  unfold backW at hw
  rw [List.mem_map] at hw
  obtain ⟨i, hi, rfl⟩ := hw
  have hi := List.mem_range.1 hi
  have := tmod_in (getD_nn hb (i + 1)) (show (0 : Int) < ((i + 1 : Nat) : Int) by omega)
  exact ⟨this.1, this.2, by simp only; omega⟩
theorem back_len (b : List Int) (n : Int) : (backW b n).length = n.toNat - 1 := by simp [backW]
theorem more_good {n : Int} (h1 : 1 ≤ n) {ws : W} {x : Int × Int} (hx : 0 ≤ x.1 ∧ 0 ≤ x.2) (h : ∀ w ∈ ws, good n w) : ∀ w ∈ moreW n ws x, good n w := by
  intro w hw
  unfold moreW at hw
  cases hc : (x.1.tmod n != x.2.tmod n && !way ws (min (x.1.tmod n) (x.2.tmod n)) (max (x.1.tmod n) (x.2.tmod n))) with
  | false => rw [hc] at hw; exact h w hw
  | true =>
    rw [hc] at hw
    rcases List.mem_append.1 hw with hw | hw
    · exact h w hw
    · rw [List.mem_singleton] at hw
      subst hw
      have a := tmod_in hx.1 (show 0 < n by omega)
      have b := tmod_in hx.2 (show 0 < n by omega)
      rw [Bool.and_eq_true, bne_iff_ne] at hc
      have := hc.1
      exact ⟨by simp only; omega, by simp only; omega, by simp only; omega⟩
theorem more_len (n : Int) (ws : W) (x : Int × Int) : (moreW n ws x).length ≤ ws.length + 1 := by
  unfold moreW
  cases (x.1.tmod n != x.2.tmod n && !way ws (min (x.1.tmod n) (x.2.tmod n)) (max (x.1.tmod n) (x.2.tmod n))) <;> simp
theorem fold_more_len (n : Int) : ∀ (mo ws : W), (mo.foldl (moreW n) ws).length ≤ ws.length + mo.length
  | [], ws => by simp
  | x :: mo, ws => by
    rw [List.foldl_cons, List.length_cons]
    have := fold_more_len n mo (moreW n ws x)
    have := more_len n ws x
    omega
theorem fold_more_good {n : Int} (h1 : 1 ≤ n) : ∀ (mo ws : W), (∀ x ∈ mo, 0 ≤ x.1 ∧ 0 ≤ x.2) → (∀ w ∈ ws, good n w) → ∀ w ∈ mo.foldl (moreW n) ws, good n w
  | [], ws, _, h => h
  | x :: mo, ws, hx, h => by
    rw [List.foldl_cons]
    exact fold_more_good h1 mo _ (fun y hy => hx y (by simp [hy])) (more_good h1 (hx x (by simp)) h)
theorem mo_in {m : List Int} (hm : u8s m = true) (x : Int) : p8s (skMo m x) = true ∧ (skMo m x).length ≤ 4 := by
  have hg : ∀ i, 0 ≤ m.getD i 0 ∧ m.getD i 0 < 256 := fun i => by
    rw [List.getD_eq_getElem?_getD]
    cases hx : m[i]? with
    | none => simp
    | some y =>
      unfold u8s at hm
      rw [List.all_eq_true] at hm
      simpa using hm y (List.mem_of_getElem? hx)
  constructor
  · unfold p8s
    rw [List.all_eq_true]
    intro p hp
    unfold skMo Ev.pairUp at hp
    have hp := List.mem_of_mem_take hp
    rw [List.mem_map] at hp
    obtain ⟨i, _, rfl⟩ := hp
    have a := hg (i * 2)
    have b := hg (i * 2 + 1)
    simp only [Bool.and_eq_true, decide_eq_true_eq]
    omega
  · unfold skMo
    rw [List.length_take]
    simp [Ev.pairUp]; omega
end Brn
namespace Brn
open Go
set_option linter.unusedVariables false
section walks
variable {adj : Nat → Nat → Bool}
def Wk (adj : Nat → Nat → Bool) : Nat → Nat → Nat → Prop
  | 0, i, j => i = j
  | m + 1, i, j => ∃ q, adj i q = true ∧ Wk adj m q j
theorem Wk_trans : ∀ {a b i k j : Nat}, Wk adj a i k → Wk adj b k j → Wk adj (a + b) i j
  | 0, b, i, k, j, h1, h2 => by simp only [Wk] at h1; subst h1; rwa [Nat.zero_add]
  | a + 1, b, i, k, j, ⟨q, h1, h2⟩, h3 => by
    rw [show a + 1 + b = (a + b) + 1 by omega]
    exact ⟨q, h1, Wk_trans h2 h3⟩
def WK (adj : Nat → Nat → Bool) (K : Nat) : Nat → Nat → Nat → Prop
  | 0, i, j => i = j
  | 1, i, j => adj i j = true
  | m + 2, i, j => ∃ q, q < K ∧ adj i q = true ∧ WK adj K (m + 1) q j
theorem WK_split (K : Nat) : ∀ {m i j : Nat}, WK adj (K + 1) m i j → WK adj K m i j ∨ ∃ a b, a + b ≤ m ∧ WK adj K a i K ∧ WK adj K b K j
  | 0, i, j, h => .inl h
  | 1, i, j, h => .inl h
  | m + 2, i, j, ⟨q, hq, h1, h2⟩ => by
    rcases WK_split K h2 with h3 | ⟨a, b, h3, h4, h5⟩
    · by_cases hqK : q < K
      · exact .inl ⟨q, hqK, h1, h3⟩
      · obtain rfl : q = K := by omega
        exact .inr ⟨1, m + 1, by omega, h1, h3⟩
    · by_cases hqK : q < K
      · cases a with
        | zero => simp only [WK] at h4; omega
        | succ a => exact .inr ⟨a + 2, b, by omega, ⟨q, hqK, h1, h4⟩, h5⟩
      · obtain rfl : q = K := by omega
        exact .inr ⟨1, b, by omega, h1, h5⟩
theorem WK_of {K : Nat} (hK : ∀ a b, adj a b = true → b < K) : ∀ {m i j : Nat}, Wk adj m i j → WK adj K m i j
  | 0, i, j, h => h
  | 1, i, j, ⟨q, h1, h2⟩ => by simp only [Wk] at h2; subst h2; exact h1
  | m + 2, i, j, ⟨q, h1, h2⟩ => ⟨q, hK _ _ h1, h1, WK_of hK h2⟩
theorem R_of_Wk {n : Nat} (hn : ∀ a b, adj a b = true → b < n) : ∀ {m i j : Nat}, Wk adj m i j → R adj n m i j = true
  | 0, i, j, h => R_zero.2 h
  | m + 1, i, j, ⟨q, h1, h2⟩ => R_succ.2 (.inr ⟨q, hn _ _ h1, h1, R_of_Wk hn h2⟩)
theorem Wk_of_R {n : Nat} : ∀ {k i j : Nat}, R adj n k i j = true → ∃ m, m ≤ k ∧ Wk adj m i j
  | 0, i, j, h => ⟨0, Nat.le_refl _, R_zero.1 h⟩
  | k + 1, i, j, h => by
    rcases R_succ.1 h with h | ⟨q, _, h1, h2⟩
    · obtain ⟨m, a, b⟩ := Wk_of_R h
      exact ⟨m, by omega, b⟩
    · obtain ⟨m, a, b⟩ := Wk_of_R h2
      exact ⟨m + 1, by omega, q, h1, b⟩
end walks
/-! rounds -/
theorem at_set {l : List Int} (hl : l.length = 81) {i k x y : Nat} (hi : i < 9) (hk : k < 9) (hx : x < 9) (hy : y < 9) (v : Int) : at9 (set9 l i k v) x y = if x = i ∧ y = k then v else at9 l x y := by
  unfold at9 set9
  rw [getD_set _ _ _ _ (by omega)]
  by_cases h : x = i ∧ y = k
  · rw [if_pos h, if_pos (by rw [h.1, h.2])]
  · rw [if_neg h, if_neg (by omega)]
def le9 (a b : List Int) : Prop := a.length = 81 ∧ ∀ x y, x < 9 → y < 9 → at9 a x y ≤ at9 b x y
theorem le9_trans {a b c : List Int} (h1 : le9 a b) (h2 : le9 b c) : le9 a c := ⟨h1.1, fun x y hx hy => Int.le_trans (h1.2 x y hx hy) (h2.2 x y hx hy)⟩
theorem fold_le {f : List Int → Nat → List Int} (hf : ∀ l, l.length = 81 → ∀ x, x < 9 → le9 (f l x) l) : ∀ (xs : List Nat) (l : List Int), (∀ x ∈ xs, x < 9) → l.length = 81 → le9 (xs.foldl f l) l
  | [], l, _, hl => ⟨hl, fun _ _ _ _ => Int.le_refl _⟩
  | x :: xs, l, h, hl => by
    have h1 := hf l hl x (h x (by simp))
    exact le9_trans (fold_le hf xs _ (fun y hy => h y (by simp [hy])) h1.1) h1
theorem fold_hit {f : List Int → Nat → List Int} (hf : ∀ l, l.length = 81 → ∀ x, x < 9 → le9 (f l x) l) {Q : List Int → Prop} (hQ : ∀ a b, le9 a b → Q b → Q a) {l0 : List Int} {y : Nat}
    (hy : ∀ l, le9 l l0 → Q (f l y)) : ∀ (xs : List Nat) (l : List Int), (∀ x ∈ xs, x < 9) → y ∈ xs → le9 l l0 → Q (xs.foldl f l)
  | [], l, _, h, _ => by cases h
  | x :: xs, l, h, hm, hl => by
    rcases List.mem_cons.1 hm with rfl | hm
    · have h1 := hy l hl
      have h2 := (hf l hl.1 y (h y (by simp))).1
      exact hQ _ _ (fold_le hf xs _ (fun z hz => h z (by simp [hz])) h2) h1
    · exact fold_hit hf hQ hy xs _ (fun z hz => h z (by simp [hz])) hm (le9_trans (hf l hl.1 x (h x (by simp))) hl)
theorem fIJ_le {k i : Nat} (hk : k < 9) (hi : i < 9) (l : List Int) (hl : l.length = 81) (j : Nat) (hj : j < 9) : le9 (fIJ k i l j) l := by
  refine ⟨by rw [fIJ_len]; exact hl, fun x y hx hy => ?_⟩
  unfold fIJ
  rw [at_set hl hi hj hx hy]
  split
  · rename_i h; rw [h.1, h.2]; omega
  · exact Int.le_refl _
theorem fI_le {k : Nat} (hk : k < 9) (l : List Int) (hl : l.length = 81) (i : Nat) (hi : i < 9) : le9 (fI k l i) l :=
  fold_le (fun l hl j hj => fIJ_le hk hi l hl j hj) _ l (fun x hx => List.mem_range.1 hx) hl
theorem fK_le {k : Nat} (hk : k < 9) (l : List Int) (hl : l.length = 81) : le9 (fK l k) l :=
  fold_le (fun l hl i hi => fI_le hk l hl i hi) _ l (fun x hx => List.mem_range.1 hx) hl
theorem fK_sum {k i j : Nat} (hk : k < 9) (hi : i < 9) (hj : j < 9) (l : List Int) (hl : l.length = 81) : at9 (fK l k) i j ≤ at9 l i k + at9 l k j := by
  have hQ : ∀ a b : List Int, le9 a b → at9 b i j ≤ at9 l i k + at9 l k j → at9 a i j ≤ at9 l i k + at9 l k j := fun a b h1 h2 => Int.le_trans (h1.2 i j hi hj) h2
  refine fold_hit (f := fI k) (fun l hl i hi => fI_le hk l hl i hi) (Q := fun s => at9 s i j ≤ at9 l i k + at9 l k j) hQ (l0 := l) (y := i) (fun s hs => ?_) _ l (fun x hx => List.mem_range.1 hx) (List.mem_range.2 hi) ⟨hl, fun _ _ _ _ => Int.le_refl _⟩
  refine fold_hit (f := fIJ k i) (fun l hl j hj => fIJ_le hk hi l hl j hj) (Q := fun s => at9 s i j ≤ at9 l i k + at9 l k j) hQ (l0 := l) (y := j) (fun s hs => ?_) _ s (fun x hx => List.mem_range.1 hx) (List.mem_range.2 hj) hs
  unfold fIJ
  rw [at_set hs.1 hi hj hi hj, if_pos ⟨rfl, rfl⟩]
  have a := hs.2 i k hi hk
  have b := hs.2 k j hk hj
  omega
section far
variable {adj : Nat → Nat → Bool}
def LB (adj : Nat → Nat → Bool) (l : List Int) : Prop := ∀ i j, i < 9 → j < 9 → 0 ≤ at9 l i j ∧ (at9 l i j < 100 → Wk adj (at9 l i j).toNat i j)
def UB (adj : Nat → Nat → Bool) (K : Nat) (l : List Int) : Prop := ∀ i j m, i < 9 → j < 9 → WK adj K m i j → at9 l i j ≤ (m : Int)
theorem LB_fIJ {l : List Int} (hl : l.length = 81) (h : LB adj l) {k i j : Nat} (hk : k < 9) (hi : i < 9) (hj : j < 9) : LB adj (fIJ k i l j) := by
  intro x y hx hy
  unfold fIJ
  rw [at_set hl hi hj hx hy]
  split
  · rename_i he
    obtain ⟨rfl, rfl⟩ := he
    have a := h x y hi hj
    have b := h x k hi hk
    have c := h k y hk hj
    refine ⟨by omega, fun hlt => ?_⟩
    by_cases hc : at9 l x y ≤ at9 l x k + at9 l k y
    · rw [Int.min_eq_left hc] at hlt ⊢
      exact a.2 hlt
    · rw [Int.min_eq_right (by omega)] at hlt ⊢
      rw [show (at9 l x k + at9 l k y).toNat = (at9 l x k).toNat + (at9 l k y).toNat by omega]
      exact Wk_trans (b.2 (by omega)) (c.2 (by omega))
  · exact h x y hx hy
theorem LB_fold {f : List Int → Nat → List Int} (hf : ∀ l, l.length = 81 → ∀ x, x < 9 → LB adj l → LB adj (f l x)) (hlen : ∀ l x, (f l x).length = l.length) : ∀ (xs : List Nat) (l : List Int), (∀ x ∈ xs, x < 9) → l.length = 81 → LB adj l → LB adj (xs.foldl f l)
  | [], _, _, _, h => h
  | x :: xs, l, hx, hl, h => LB_fold hf hlen xs _ (fun y hy => hx y (by simp [hy])) (by rw [hlen]; exact hl) (hf l hl x (hx x (by simp)) h)
theorem LB_fK {l : List Int} (hl : l.length = 81) (h : LB adj l) {k : Nat} (hk : k < 9) : LB adj (fK l k) :=
  LB_fold (fun l hl i hi h => LB_fold (fun l hl j hj h => LB_fIJ hl h hk hi hj) (fun l j => fIJ_len k i l j) _ l (fun x hx => List.mem_range.1 hx) hl h) (fun l i => fI_len k l i) _ l (fun x hx => List.mem_range.1 hx) hl h
theorem UB_fK {l : List Int} (hl : l.length = 81) {K : Nat} (hK : K < 9) (h : UB adj K l) : UB adj (K + 1) (fK l K) := by
  intro i j m hi hj hw
  rcases WK_split K hw with hw | ⟨a, b, hab, h1, h2⟩
  · exact Int.le_trans ((fK_le hK l hl).2 i j hi hj) (h i j m hi hj hw)
  · have e1 := h i K a hi hK h1
    have e2 := h K j b hK hj h2
    have e3 := fK_sum hK hi hj l hl
    omega
theorem fw_ok {l : List Int} (hl : l.length = 81) (h1 : LB adj l) (h2 : UB adj 0 l) : ∀ m, m ≤ 9 → ((List.range m).foldl fK l).length = 81 ∧ LB adj ((List.range m).foldl fK l) ∧ UB adj m ((List.range m).foldl fK l)
  | 0, _ => ⟨hl, h1, h2⟩
  | m + 1, hm => by
    obtain ⟨a, b, c⟩ := fw_ok hl h1 h2 m (by omega)
    rw [List.range_succ, List.foldl_append]
    simp only [List.foldl_cons, List.foldl_nil]
    exact ⟨by rw [fK_len]; exact a, LB_fK a b (by omega), UB_fK a (by omega) c⟩
end far
theorem f0_at : ∀ i, i < 9 → ∀ j, j < 9 → at9 (f0 z81) i j = if i = j then 0 else 100 := by decide +kernel
theorem init_at {n : Int} (hn : n ≤ 9) : ∀ (ws before : W) (l : List Int), l.length = 81 → (∀ w ∈ before ++ ws, good n w) → (∀ i j, i < 9 → j < 9 → at9 l i j = if adjB before i j then 1 else if i = j then 0 else 100) →
    ∀ i j, i < 9 → j < 9 → at9 (ws.foldl fWay l) i j = if adjB (before ++ ws) i j then 1 else if i = j then 0 else 100
  | [], before, l, hl, hg, h => by simpa using h
  | w :: ws, before, l, hl, hg, h => by
    intro i j hi hj
    rw [List.foldl_cons]
    have hw := hg w (by simp)
    obtain ⟨a, b⟩ := w
    obtain ⟨w0, w1, w2⟩ := hw
    simp only at w0 w1 w2
    obtain ⟨a, rfl⟩ := Int.eq_ofNat_of_zero_le w0
    obtain ⟨b, rfl⟩ := Int.eq_ofNat_of_zero_le (show 0 ≤ b by omega)
    have := init_at hn ws (before ++ [((a : Int), (b : Int))]) (fWay l ((a : Int), (b : Int))) (by rw [fWay_len]; exact hl) (fun w hw => hg w (by simpa using hw)) (fun x y hx hy => by
      have ha : a < 9 := by omega
      have hb : b < 9 := by omega
      unfold fWay
      simp only [Int.toNat_natCast]
      rw [at_set (by rw [set9_len]; exact hl) hb ha hx hy, at_set hl ha hb hx hy, h x y hx hy]
      unfold adjB
      rw [way_snoc, way_snoc]
      simp only
      by_cases c1 : x = b ∧ y = a
      · rw [if_pos c1, c1.1, c1.2]; simp
      · rw [if_neg c1]
        by_cases c2 : x = a ∧ y = b
        · rw [if_pos c2, c2.1, c2.2]; simp
        · rw [if_neg c2]
          have e1 : ([((a : Nat) : Int), ((b : Nat) : Int)] == [((x : Nat) : Int), ((y : Nat) : Int)]) = false := by
            simp; omega
          have e2 : ([((a : Nat) : Int), ((b : Nat) : Int)] == [((y : Nat) : Int), ((x : Nat) : Int)]) = false := by
            simp; omega
          rw [e1, e2, Bool.or_false, Bool.or_false]) i j hi hj
    simpa using this
variable {n : Int} {ws : W}
theorem dist_far (h : Ok n ws) {i j : Nat} (hi : (i : Int) < n) (hj : (j : Int) < n) : at9 (dist9 ws) i j = (farN n ws i j : Int) := by
  have hhi := h.hi
  have hg := h.good
  have hlt : ∀ a b, adjB ws a b = true → b < n.toNat := fun a b hab => by
    have h0 := h.lo
    obtain ⟨n', rfl⟩ := Int.eq_ofNat_of_zero_le (show 0 ≤ n by omega)
    exact (adj_lt hg hab).2
  have hinit := init_at hhi ws [] (f0 z81) (by rw [f0_len]; simp [z81]) (by simpa using hg) (fun i j hi hj => by rw [f0_at i hi j hj]; rfl)
  simp only [List.nil_append] at hinit
  have hlb : LB (adjB ws) (ws.foldl fWay (f0 z81)) := fun i j hi hj => by
    rw [hinit i j hi hj]
    split
    · rename_i ha
      exact ⟨by omega, fun _ => ⟨j, ha, rfl⟩⟩
    · split
      · rename_i he
        exact ⟨by omega, fun _ => he⟩
      · exact ⟨by omega, fun hh => absurd hh (by omega)⟩
  have hub : UB (adjB ws) 0 (ws.foldl fWay (f0 z81)) := fun i j m hi hj hw => by
    rw [hinit i j hi hj]
    match m, hw with
    | 0, hw =>
      simp only [WK] at hw
      subst hw
      split
      · rename_i ha
        exfalso
        unfold adjB at ha
        rcases Bool.or_eq_true _ _ ▸ ha with ha | ha <;> (have := way_good hg ha; omega)
      · simp
    | 1, hw => simp only [WK] at hw; rw [if_pos hw]; exact Int.le_refl _
    | m + 2, ⟨q, hq, _⟩ => omega
  obtain ⟨_, a, b⟩ := fw_ok (by rw [ways_len, f0_len]; simp [z81]) hlb hub 9 (Nat.le_refl _)
  change LB (adjB ws) (dist9 ws) at a
  change UB (adjB ws) 9 (dist9 ws) at b
  have hf := (h.far hi hj).2
  have hr : R (adjB ws) n.toNat (farN n ws i j) i j = true := by
    have := far_lt h hi hj (farN n ws i j)
    rw [← this]; exact decide_eq_true (by omega)
  obtain ⟨m, hm, hw⟩ := Wk_of_R hr
  have h1 := b i j m (by omega) (by omega) (WK_of (fun a b hab => by have := hlt a b hab; omega) hw)
  have h2 := a i j (by omega) (by omega)
  generalize at9 (dist9 ws) i j = v at h1 h2 ⊢
  generalize hu : farN n ws i j = u at hf hm hr ⊢
  have h3 := h2.2 (by omega)
  have h4 := R_of_Wk hlt h3
  have h5 := far_lt h hi hj v.toNat
  rw [hu] at h5
  rw [h4] at h5
  have h6 := of_decide_eq_true h5
  omega
end Brn
namespace Brn
open Go
set_option linter.unusedVariables false
set_option linter.unusedSimpArgs false
theorem waysE_snoc (n : Int) (w : Int × Int) : ∀ (l before : W) (i : Nat), (waysE n before (l ++ [w]) i).1 = bif (waysE n before l i).1 == 0 then wayErr n (before ++ l) w else (waysE n before l i).1
  | [], before, i => by
    simp only [List.nil_append, waysE, List.append_nil]
    cases h : wayErr n before w == 0 with
    | true => simp only [cond_true]; exact (by simpa using h : wayErr n before w = 0).symm
    | false => rfl
  | x :: l, before, i => by
    rw [List.cons_append]
    simp only [waysE]
    cases h : wayErr n before x == 0 with
    | true =>
      simp only [cond_true]
      rw [waysE_snoc n w l]
      simp only [List.append_assoc, List.cons_append, List.nil_append]
    | false => simp only [cond_false, h]
theorem waysErr_snoc (n : Int) (l : W) (w : Int × Int) : waysErr n (l ++ [w]) = bif waysErr n l == 0 then wayErr n l w else waysErr n l := by
  have := waysE_snoc n w l [] 0
  simpa [waysErr] using this
theorem wayErr_zero {n : Int} {before : W} {w : Int × Int} (hg : good n w) (hn : way before w.1 w.2 = false) : wayErr n before w = 0 := by
  obtain ⟨h1, h2, h3⟩ := hg
  unfold wayErr inR
  rw [decide_eq_true h1, decide_eq_true (show w.1 ≤ n - 1 by omega), decide_eq_true (show 0 ≤ w.2 by omega), decide_eq_true (show w.2 ≤ n - 1 by omega), decide_eq_false (show ¬ w.2 ≤ w.1 by omega), hn]
  rfl
theorem back_err {b : List Int} (hb : ∀ x ∈ b, 0 ≤ x) {n : Int} (h1 : 1 ≤ n) : waysErr n (backW b n) = 0 := by
  have main : ∀ m, m ≤ n.toNat - 1 → waysErr n ((List.range m).map fun (i : Nat) => ((b.getD (i + 1) 0).tmod ((i + 1 : Nat) : Int), ((i + 1 : Nat) : Int))) = 0 := by
    intro m
    induction m with
    | zero => intro _; rfl
    | succ m ih =>
      intro hm
      rw [List.range_succ, List.map_append, List.map_cons, List.map_nil, waysErr_snoc, ih (by omega)]
      have ht := tmod_in (getD_nn hb (m + 1)) (show (0 : Int) < ((m + 1 : Nat) : Int) by omega)
      refine wayErr_zero ⟨ht.1, ht.2, by simp only; omega⟩ ?_
      unfold way
      rw [List.any_eq_false]
      intro w hw
      rw [List.mem_map] at hw
      obtain ⟨i, hi, rfl⟩ := hw
      have := List.mem_range.1 hi
      simp
      intro _
      omega
  exact main _ (Nat.le_refl _)
theorem more_err {n : Int} (h1 : 1 ≤ n) {ws : W} {x : Int × Int} (hx : 0 ≤ x.1 ∧ 0 ≤ x.2) (h : waysErr n ws = 0) : waysErr n (moreW n ws x) = 0 := by
  unfold moreW
  cases hc : (x.1.tmod n != x.2.tmod n && !way ws (min (x.1.tmod n) (x.2.tmod n)) (max (x.1.tmod n) (x.2.tmod n))) with
  | false => exact h
  | true =>
    simp only [cond_true]
    rw [waysErr_snoc, h]
    have a := tmod_in hx.1 (show 0 < n by omega)
    have b := tmod_in hx.2 (show 0 < n by omega)
    rw [Bool.and_eq_true, bne_iff_ne] at hc
    have h2 := hc.1
    refine wayErr_zero ⟨by simp only; omega, by simp only; omega, by simp only; omega⟩ ?_
    simpa using hc.2
theorem fold_more_err {n : Int} (h1 : 1 ≤ n) : ∀ (mo ws : W), (∀ x ∈ mo, 0 ≤ x.1 ∧ 0 ≤ x.2) → waysErr n ws = 0 → waysErr n (mo.foldl (moreW n) ws) = 0
  | [], ws, _, h => h
  | x :: mo, ws, hx, h => by
    rw [List.foldl_cons]
    exact fold_more_err h1 mo _ (fun y hy => hx y (by simp [hy])) (more_err h1 (hx x (by simp)) h)
theorem more_sub {n : Int} {ws : W} {x : Int × Int} {w : Int × Int} (h : w ∈ ws) : w ∈ moreW n ws x := by
  unfold moreW
  cases (x.1.tmod n != x.2.tmod n && !way ws (min (x.1.tmod n) (x.2.tmod n)) (max (x.1.tmod n) (x.2.tmod n))) with
  | false => exact h
  | true => exact List.mem_append_left _ h
theorem fold_more_sub {n : Int} {w : Int × Int} : ∀ (mo ws : W), w ∈ ws → w ∈ mo.foldl (moreW n) ws
  | [], ws, h => h
  | x :: mo, ws, h => by rw [List.foldl_cons]; exact fold_more_sub mo _ (more_sub h)
theorem Sk.Fit.u {s : Sk} (h : s.Fit) : u8s s.back = true ∧ u8s s.more = true := by
  unfold u8s
  rw [List.all_eq_true, List.all_eq_true]
  exact ⟨fun x hx => by have := h.b.2 x hx; simp; omega, fun x hx => by have := h.m.2 x hx; simp; omega⟩
theorem skN_in {s : Sk} (h : s.Fit) {most : Int} (h1 : 1 ≤ most) : 1 ≤ skN s most ∧ skN s most ≤ most := by
  have := tmod_in h.p.1 (show 0 < most by omega)
  unfold skN
  omega
theorem mo_nn {s : Sk} (h : s.Fit) : ∀ x ∈ skMo s.more s.extra, 0 ≤ x.1 ∧ 0 ≤ x.2 := by
  intro x hx
  have := (mo_in h.u.2 s.extra).1
  unfold p8s at this
  rw [List.all_eq_true] at this
  have := this x hx
  simp only [Bool.and_eq_true, decide_eq_true_eq] at this
  omega
theorem reach_all {n : Nat} {adj : Nat → Nat → Bool} (hb : ∀ v, 0 < v → v < n → ∃ q, q < v ∧ adj q v = true) : ∀ v, v < n → R adj n v 0 v = true := by
  intro v
  induction v using Nat.strongRecOn with
  | _ v ih =>
    intro hv
    rcases Nat.eq_zero_or_pos v with h0 | h0
    · subst h0; exact R_zero.2 rfl
    · obtain ⟨q, hq, ha⟩ := hb v h0 hv
      have h1 := ih q hq (by omega)
      obtain ⟨w, rfl⟩ : ∃ w, v = w + 1 := ⟨v - 1, by omega⟩
      exact (R_last' (by omega) hv).2 (.inr ⟨q, by omega, R_mono (by omega) h1, ha⟩)
theorem skW_good {s : Sk} (h : s.Fit) {most : Int} (h1 : 1 ≤ most) : ∀ w ∈ skW s most, good (skN s most) w :=
  fold_more_good (skN_in h h1).1 _ _ (mo_nn h) (back_good (fun x hx => (h.b.2 x hx).1) (skN_in h h1).1)
theorem skW_len {s : Sk} (h : s.Fit) {most : Int} (h1 : 1 ≤ most) (h9 : most ≤ 9) : (skW s most).length ≤ 12 := by
  have a := fold_more_len (skN s most) (skMo s.more s.extra) (backW s.back (skN s most))
  have b := back_len s.back (skN s most)
  have c := (mo_in h.u.2 s.extra).2
  have d := skN_in h h1
  unfold skW
  omega
theorem sk_ok {s : Sk} (h : s.Fit) {most : Int} (h1 : 1 ≤ most) (h9 : most ≤ 9) : chk (skN s most) (skW s most) = 0 := by
  obtain ⟨n1, n2⟩ := skN_in h h1
  have hl := skW_len h h1 h9
  have hg := skW_good h h1
  have he : waysErr (skN s most) (skW s most) = 0 := fold_more_err n1 _ _ (mo_nn h) (back_err (fun x hx => (h.b.2 x hx).1) n1)
  unfold chk
  rw [show inR (skN s most) 1 9 = true by unfold inR; rw [decide_eq_true n1, decide_eq_true (by omega)]; rfl, decide_eq_false (show ¬ 12 < (skW s most).length by omega), he]
  have hsub : ∀ w ∈ backW s.back (skN s most), w ∈ skW s most := fun w hw => fold_more_sub _ _ hw
  generalize skN s most = n at n1 n2 hg hsub ⊢
  generalize skW s most = ws at hg hsub ⊢
  have hc : decide (((near n ws 0 n).length : Int) < n) = false := by
    rw [decide_eq_false_iff_not]
    have hk := nearK_fil hg (a := 0) (by omega) n.toNat
    rw [show near n ws 0 n = nearK n ws 0 n.toNat by unfold near; rw [show (min n n).toNat = n.toNat by omega]]
    rw [show ((0 : Nat) : Int) = 0 from rfl] at hk
    rw [hk, fil_len]
    rintro ⟨v, hv, hf⟩
    have := reach_all (n := n.toNat) (adj := adjB ws) (fun v h0 hv => by
      have ht := tmod_in (getD_nn (fun x hx => (h.b.2 x hx).1) v) (show (0 : Int) < (v : Int) by omega)
      refine ⟨((s.back.getD v 0).tmod v).toNat, by omega, ?_⟩
      unfold adjB way
      rw [Bool.or_eq_true]
      refine .inl (List.any_eq_true.2 ⟨((s.back.getD v 0).tmod v, (v : Int)), hsub _ ?_, ?_⟩)
      · unfold backW
        refine List.mem_map.2 ⟨v - 1, List.mem_range.2 (by omega), ?_⟩
        rw [show v - 1 + 1 = v by omega]
      · rw [Int.toNat_of_nonneg ht.1]; simp) v (by omega)
    rw [R_mono (show v ≤ n.toNat by omega) this] at hf
    cases hf
  rw [hc]
  rfl
theorem sk_Ok {s : Sk} (h : s.Fit) {most : Int} (h1 : 1 ≤ most) (h9 : most ≤ 9) : Ok (skN s most) (skW s most) := ok_of (sk_ok h h1 h9)
theorem distN_of {n : Int} {ws : W} (h : 1 ≤ n) : distN n ws = dist9 ws := by
  unfold distN; rw [decide_eq_false (show ¬ n = 0 by omega), cond_false]
theorem Ok.dist {n : Int} {ws : W} (h : Ok n ws) {i j : Nat} (hi : (i : Int) < n) (hj : (j : Int) < n) : at9 (distN n ws) i j = (farN n ws i j : Int) := by
  rw [distN_of h.lo]; exact dist_far h hi hj
theorem Ok.far_symm {n : Int} {ws : W} (h : Ok n ws) {a b : Nat} (ha : (a : Int) < n) (hb : (b : Int) < n) : farN n ws a b = farN n ws b a := by
  have hlo := h.lo
  have h1 := far_lt h ha hb
  have h2 := far_lt h hb ha
  have hs : ∀ k, R (adjB ws) n.toNat k a b = R (adjB ws) n.toNat k b a := fun k => by
    rw [Bool.eq_iff_iff]
    exact ⟨R_symm (adjB_symm ws) (by omega) (by omega), R_symm (adjB_symm ws) (by omega) (by omega)⟩
  have e : ∀ k : Nat, ((farN n ws a b : Int) < ((k + 1 : Nat) : Int)) ↔ ((farN n ws b a : Int) < ((k + 1 : Nat) : Int)) := fun k => by
    have := (h1 k).trans ((hs k).trans (h2 k).symm)
    simpa using this
  have e1 := e (farN n ws a b)
  have e2 := e (farN n ws b a)
  omega
end Brn
namespace Brn
open Go
set_option linter.unusedVariables false
variable {n : Int} {ws : W}
end Brn
