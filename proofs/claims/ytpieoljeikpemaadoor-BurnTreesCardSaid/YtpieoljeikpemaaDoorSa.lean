/- What the functions of the burn chapter come to: plain definitions. -/
import Derived.Test.YtpieoljeikpemaaDoorEvE
namespace Brn
abbrev W := List (Int × Int)
def inR (n lo hi : Int) : Bool := decide (lo ≤ n) && decide (n ≤ hi)
def has (l : List Int) (n : Int) : Bool := l.any fun x => x == n
def way (ws : W) (a b : Int) : Bool := ws.any fun w => [w.1, w.2] == [a, b]
def irange (n : Int) : List Int := (List.range n.toNat).map Int.ofNat
def next (ws : W) (l : List Int) (p : Int) : Bool := has l p || l.any fun q => way ws (min p q) (max p q)
def spread (n : Int) (ws : W) (l : List Int) : List Int := (irange n).filter (next ws l)
def nearK (n : Int) (ws : W) (place : Int) : Nat → List Int
  | 0 => [place]
  | k + 1 => spread n ws (nearK n ws place k)
def near (n : Int) (ws : W) (place most : Int) : List Int := nearK n ws place (min most n).toNat
def wayErr (n : Int) (before : W) (w : Int × Int) : Int :=
  bif !inR w.1 0 (n - 1) || !inR w.2 0 (n - 1) then 2 else bif decide (w.2 ≤ w.1) then 7 else bif way before w.1 w.2 then 6 else 0
def waysE (n : Int) : W → W → Nat → Int × Nat
  | _, [], i => (0, i)
  | before, w :: ws, i => bif wayErr n before w == 0 then waysE n (before ++ [w]) ws (i + 1) else (wayErr n before w, i)
def waysErr (n : Int) (ws : W) : Int := (waysE n [] ws 0).1
def chk (n : Int) (ws : W) : Int :=
  bif !inR n 1 9 then 1 else bif decide (12 < ws.length) then 3 else bif waysErr n ws == 0 then (bif decide (((near n ws 0 n).length : Int) < n) then 5 else 0) else waysErr n ws
def farN (n : Int) (ws : W) (a b : Int) : Nat := (List.range 10).findIdx fun (k : Nat) => has (near n ws a (k : Int)) b
def placeErr (n : Int) (ws : W) (l : List Int) : Int := bif chk n ws == 0 then (bif l.all (fun p => inR p 0 (n - 1)) then 0 else 2) else chk n ws
def dayNext (n : Int) (ws : W) (now : List Int) (fire : Int) : List Int := (irange n).filter (has (spread n ws now ++ [fire]))
theorem irange_len (n : Int) : (irange n).length = n.toNat := by simp [irange]
end Brn
namespace Brn
def mk (f : Nat → Bool) : Nat → Nat
  | 0 => 0
  | k + 1 => mk f k ||| (bif f k then 2 ^ k else 0)
theorem mk_lt (f : Nat → Bool) : ∀ k, mk f k < 2 ^ k
  | 0 => Nat.one_pos
  | k + 1 => by
    have h := mk_lt f k
    have h2 : 2 ^ k < 2 ^ (k + 1) := Nat.pow_lt_pow_right (by decide) (Nat.lt_succ_self k)
    simp only [mk]
    refine Nat.or_lt_two_pow (Nat.lt_trans h h2) ?_
    cases f k
    · exact Nat.two_pow_pos _
    · exact h2
theorem testBit_mk (f : Nat → Bool) (i : Nat) : ∀ k, (mk f k).testBit i = (decide (i < k) && f i)
  | 0 => by simp [mk]
  | k + 1 => by
    simp only [mk, Nat.testBit_or, testBit_mk f i k]
    by_cases h : i = k
    · subst h
      cases f i <;> simp
    · have h1 : decide (i < k + 1) = decide (i < k) := by simp; omega
      rw [h1]
      cases f k
      · simp
      · simp [Ne.symm h]
theorem mk_congr {f g : Nat → Bool} {k : Nat} (h : ∀ i, i < k → f i = g i) : mk f k = mk g k := by
  apply Nat.eq_of_testBit_eq
  intro i
  rw [testBit_mk, testBit_mk]
  by_cases hi : i < k
  · rw [h i hi]
  · simp [hi]
theorem mk_or (f g : Nat → Bool) (k : Nat) : mk f k ||| mk g k = mk (fun i => f i || g i) k := by
  apply Nat.eq_of_testBit_eq
  intro i
  rw [Nat.testBit_or, testBit_mk, testBit_mk, testBit_mk]
  cases decide (i < k) <;> simp
theorem mk_one {p k : Nat} (h : p < k) : mk (fun i => i == p) k = 2 ^ p := by
  apply Nat.eq_of_testBit_eq
  intro i
  rw [testBit_mk, Nat.testBit_two_pow]
  by_cases hi : i = p
  · subst hi; simp [h]
  · simp [hi, Ne.symm hi]
def bitsOf (s : Nat) : List Nat := (List.range 9).filter s.testBit
def tz (s : Nat) : Nat := ((List.range 9).findIdx s.testBit)
theorem bits_step : ∀ s, s < 512 → s ≠ 0 → bitsOf s = tz s :: bitsOf (s &&& (s - 1)) ∧ tz s < 9 ∧ s &&& (s - 1) < s := by
  have h : ((List.range 512).all fun s => s == 0 || (decide (bitsOf s = tz s :: bitsOf (s &&& (s - 1)) ∧ tz s < 9 ∧ s &&& (s - 1) < s))) = true := by decide +kernel
  intro s hs h0
  have := List.all_eq_true.1 h s (List.mem_range.2 hs)
  simpa [h0] using this
theorem mem_bitsOf {s p : Nat} (hs : s < 512) : p ∈ bitsOf s ↔ s.testBit p = true := by
  simp only [bitsOf, List.mem_filter, List.mem_range]
  constructor
  · exact fun h => h.2
  · intro h
    refine ⟨?_, h⟩
    rcases Nat.lt_or_ge p 9 with hp | hp
    · exact hp
    · rw [Nat.testBit_lt_two_pow (Nat.lt_of_lt_of_le hs (Nat.pow_le_pow_right (by decide) hp : 2 ^ 9 ≤ 2 ^ p))] at h; cases h
end Brn
namespace Brn
open Go
def orU (x y : Int) : Int := IntKind.u64.wrap ((BitVec.ofInt 64 x ||| BitVec.ofInt 64 y).toNat : Int)
def andU (x y : Int) : Int := IntKind.u64.wrap ((BitVec.ofInt 64 x &&& BitVec.ofInt 64 y).toNat : Int)
def shlU (x b : Int) : Int := IntKind.u64.wrap (x * 2 ^ min b.toNat 64)
def bitU (x b : Int) : Bool := andU (Int.fdiv x (2 ^ min b.toNat 64)) 1 == 1
theorem orU_nat {a b : Nat} (ha : a < 18446744073709551616) (hb : b < 18446744073709551616) : orU a b = ((a ||| b : Nat) : Int) := by
  have h : a ||| b < 2 ^ 64 := Nat.or_lt_two_pow ha hb
  unfold orU
  rw [show (BitVec.ofInt 64 (a : Int) ||| BitVec.ofInt 64 (b : Int)).toNat = a ||| b by
    rw [BitVec.toNat_or, BitVec.ofInt_natCast, BitVec.ofInt_natCast, BitVec.toNat_ofNat, BitVec.toNat_ofNat, Nat.mod_eq_of_lt ha, Nat.mod_eq_of_lt hb]]
  exact Ev.wrapu (by omega) (by omega)
theorem andU_nat {a b : Nat} (ha : a < 18446744073709551616) (hb : b < 18446744073709551616) : andU a b = ((a &&& b : Nat) : Int) := by
  have h : a &&& b < 2 ^ 64 := Nat.and_lt_two_pow a hb
  unfold andU
  rw [show (BitVec.ofInt 64 (a : Int) &&& BitVec.ofInt 64 (b : Int)).toNat = a &&& b by
    rw [BitVec.toNat_and, BitVec.ofInt_natCast, BitVec.ofInt_natCast, BitVec.toNat_ofNat, BitVec.toNat_ofNat, Nat.mod_eq_of_lt ha, Nat.mod_eq_of_lt hb]]
  exact Ev.wrapu (by omega) (by omega)
theorem shlU_nat {b : Nat} (hb : b < 64) : shlU 1 b = ((2 ^ b : Nat) : Int) := by
  unfold shlU
  have h : 2 ^ b < 2 ^ 64 := Nat.pow_lt_pow_right (by decide) hb
  rw [Int.toNat_natCast, Nat.min_eq_left (Nat.le_of_lt hb), Int.one_mul, show ((2 : Int) ^ b) = ((2 ^ b : Nat) : Int) by simp]
  generalize 2 ^ b = c at h
  exact Ev.wrapu (by omega) (by omega)
theorem bitU_nat {a b : Nat} (ha : a < 18446744073709551616) (hb : b < 64) : bitU a b = a.testBit b := by
  unfold bitU
  rw [Int.toNat_natCast, Nat.min_eq_left (Nat.le_of_lt hb)]
  have e : Int.fdiv (a : Int) (2 ^ b) = ((a / 2 ^ b : Nat) : Int) := by
    rw [Int.fdiv_eq_ediv_of_nonneg _ (by exact Int.le_of_lt (Int.pow_pos (by decide)))]
    simp
  have h1 : a / 2 ^ b < 18446744073709551616 := Nat.lt_of_le_of_lt (Nat.div_le_self _ _) ha
  rw [e, show (1 : Int) = ((1 : Nat) : Int) from rfl, andU_nat h1 (by decide), Nat.testBit_eq_decide_div_mod_eq, Nat.and_one_is_mod]
  rcases Nat.mod_two_eq_zero_or_one (a / 2 ^ b) with h | h <;> rw [h] <;> rfl
def allN (n : Int) : Int := ((2 ^ n.toNat - 1 : Nat) : Int)
def gather (before : List Int) (x : Nat) (v : Int) : Int := (bitsOf x).foldl (fun v q => orU v (before.getD q 0)) v
def stepN (n : Nat) (next before now : List Int) : List Int := (List.range n).foldl (fun now p => now.set p (gather before (next.getD p 0).toNat (now.getD p 0))) now
def initN (n : Nat) (now : List Int) : List Int := (List.range n).foldl (fun now p => now.set p (shlU 1 p)) now
def putN (n far : Nat) (now g : List Int) : List Int := (List.range n).foldl (fun g p => g.set (far + p * 9) (now.getD p 0)) g
def fill1 (far p : Nat) (v : Int) (g : List Int) : List Int := (List.range (9 - far)).foldl (fun g j => g.set ((far + j) + p * 9) v) g
def fillN (n far : Nat) (now g : List Int) : List Int := (List.range n).foldl (fun g p => fill1 far p (now.getD p 0) g) g
def rounds (n : Nat) (next : List Int) : Nat → Nat → List Int → List Int → List Int × List Int × Nat
  | 0, far, g, now => (g, now, far)
  | k + 1, far, g, now => bif stepN n next now now == now then (fillN n far (stepN n next now now) (putN n far now g), stepN n next now now, far) else rounds n next k (far + 1) (putN n far now g) (stepN n next now now)
def nextW (l : List Int) (w : Int × Int) : List Int :=
  (l.set w.1.toNat (orU (l.getD w.1.toNat 0) (shlU 1 w.2))).set w.2.toNat (orU ((l.set w.1.toNat (orU (l.getD w.1.toNat 0) (shlU 1 w.2))).getD w.2.toNat 0) (shlU 1 w.1))
def waysP (n : Int) : List (Int × Int) → Nat → List Int → Int × Nat × List Int
  | [], i, l => (0, i, l)
  | w :: ws, i, l => bif !inR w.1 0 (n - 1) || !inR w.2 0 (n - 1) then (2, i, l) else bif decide (w.2 ≤ w.1) then (7, i, l) else bif bitU (l.getD w.1.toNat 0) w.2 then (6, i, l) else waysP n ws (i + 1) (nextW l w)
def zeros (k : Nat) : List Int := List.replicate k 0
def nextL (n : Int) (ws : List (Int × Int)) : List Int := (waysP n ws 0 (zeros 9)).2.2
def wayE (n : Int) (ws : List (Int × Int)) : Int := (waysP n ws 0 (zeros 9)).1
def ground (n : Int) (ws : List (Int × Int)) : List Int := (rounds n.toNat (nextL n ws) 9 0 (zeros 81) (initN n.toNat (zeros 9))).1
def chkP (n : Int) (ws : List (Int × Int)) : Int :=
  bif !inR n 1 9 then 1 else bif decide (12 < ws.length) then 3 else bif wayE n ws == 0 then (bif (ground n ws).getD 8 0 != allN n then 5 else 0) else wayE n ws
def openErr (n : Int) (ws : List (Int × Int)) (pl : List Int) : Int := bif chkP n ws == 0 then (bif pl.all (fun p => inR p 0 (n - 1)) then 0 else 2) else chkP n ws
def farI (g : List Int) (a b : Int) : Nat := (List.range 9).findIdx fun k => bitU (g.getD (k + a.toNat * 9) 0) b
def onP (g : List Int) (fires : List Int) (day : Nat) : Int := (List.range (day + 1)).foldl (fun s i => orU s (g.getD ((day - i) + (fires.getD i 0).toNat * 9) 0)) 0
end Brn
namespace Brn
end Brn
namespace Brn
open Go
set_option linter.unusedVariables false
def okA (l : List Int) : Prop := l.length = 9 ∧ ∀ x ∈ l, 0 ≤ x ∧ x < 512
theorem okA_get {l : List Int} (h : okA l) (i : Nat) : 0 ≤ l.getD i 0 ∧ l.getD i 0 < 512 := by
  rw [List.getD_eq_getElem?_getD]
  cases hx : l[i]? with
  | none => simp
  | some x => exact h.2 x (List.mem_of_getElem? hx)
theorem orU_ok {x y : Int} (hx : 0 ≤ x ∧ x < 512) (hy : 0 ≤ y ∧ y < 512) : 0 ≤ orU x y ∧ orU x y < 512 := by
  obtain ⟨a, rfl⟩ := Int.eq_ofNat_of_zero_le hx.1
  obtain ⟨b, rfl⟩ := Int.eq_ofNat_of_zero_le hy.1
  rw [orU_nat (by omega) (by omega)]
  have : a ||| b < 2 ^ 9 := Nat.or_lt_two_pow (by omega) (by omega)
  omega
theorem shlU_ok {b : Int} (h0 : 0 ≤ b) (h : b < 9) : 0 ≤ shlU 1 b ∧ shlU 1 b < 512 := by
  obtain ⟨b, rfl⟩ := Int.eq_ofNat_of_zero_le h0
  rw [shlU_nat (by omega)]
  have : 2 ^ b < 2 ^ 9 := Nat.pow_lt_pow_right (by decide) (by omega)
  generalize 2 ^ b = c at this
  omega
theorem okA_set {l : List Int} (h : okA l) (i : Nat) {v : Int} (hv : 0 ≤ v ∧ v < 512) : okA (l.set i v) := by
  refine ⟨by simpa using h.1, fun x hx => ?_⟩
  rcases List.mem_or_eq_of_mem_set hx with hx | hx
  · exact h.2 x hx
  · rw [hx]; exact hv
theorem okA_zeros : okA (zeros 9) := ⟨by simp [zeros], fun x hx => by
  simp [zeros] at hx; omega⟩
theorem waysP_ok {n : Int} (hn : n ≤ 9) : ∀ (ws : List (Int × Int)) (i : Nat) (l : List Int), okA l → okA (waysP n ws i l).2.2
  | [], i, l, h => h
  | w :: ws, i, l, h => by
    simp only [waysP]
    cases hc : (!inR w.1 0 (n - 1) || !inR w.2 0 (n - 1)) with
    | true => exact h
    | false =>
      simp only [cond_false]
      cases decide (w.2 ≤ w.1) with
      | true => exact h
      | false =>
        simp only [cond_false]
        cases bitU (l.getD w.1.toNat 0) w.2 with
        | true => exact h
        | false =>
          refine waysP_ok hn ws _ _ ?_
          simp only [inR, Bool.or_eq_false_iff, Bool.not_eq_false', Bool.and_eq_true, decide_eq_true_eq] at hc
          have h1 := okA_set h w.1.toNat (orU_ok (okA_get h w.1.toNat) (shlU_ok (b := w.2) (by omega) (by omega)))
          exact okA_set h1 w.2.toNat (orU_ok (okA_get h1 w.2.toNat) (shlU_ok (b := w.1) (by omega) (by omega)))
theorem nextL_ok {n : Int} (hn : n ≤ 9) (ws : List (Int × Int)) : okA (nextL n ws) := waysP_ok hn ws 0 _ okA_zeros
theorem foldl_len {α β : Type} (f : List α → β → List α) (h : ∀ l x, (f l x).length = l.length) : ∀ (xs : List β) (l : List α), (xs.foldl f l).length = l.length
  | [], l => rfl
  | x :: xs, l => by rw [List.foldl_cons, foldl_len f h xs, h]
theorem putN_len' (n far : Nat) (now g : List Int) : (putN n far now g).length = g.length := foldl_len _ (fun l x => by simp) _ _
theorem fill1_len' (far p : Nat) (v : Int) (g : List Int) : (fill1 far p v g).length = g.length := foldl_len _ (fun l x => by simp) _ _
theorem fillN_len' (n far : Nat) (now g : List Int) : (fillN n far now g).length = g.length := foldl_len _ (fun l x => fill1_len' _ _ _ _) _ _
theorem initN_len' (n : Nat) (now : List Int) : (initN n now).length = now.length := foldl_len _ (fun l x => by simp) _ _
theorem rounds_len (n : Nat) (next : List Int) : ∀ (k far : Nat) (g now : List Int), (rounds n next k far g now).1.length = g.length
  | 0, far, g, now => rfl
  | k + 1, far, g, now => by
    simp only [rounds]
    cases stepN n next now now == now
    · simp only [cond_false]; rw [rounds_len n next k, putN_len']
    · simp only [cond_true]; rw [fillN_len', putN_len']
theorem ground_len (n : Int) (ws : List (Int × Int)) : (ground n ws).length = 81 := by
  unfold ground; rw [rounds_len]; simp [zeros]
end Brn
namespace Brn
def R (adj : Nat → Nat → Bool) (n : Nat) : Nat → Nat → Nat → Bool
  | 0, p, v => p == v
  | k + 1, p, v => R adj n k p v || (List.range n).any fun q => adj p q && R adj n k q v
section
variable {adj : Nat → Nat → Bool} {n : Nat}
theorem R_zero {p v : Nat} : R adj n 0 p v = true ↔ p = v := by simp [R]
theorem R_succ {k p v : Nat} : R adj n (k + 1) p v = true ↔ R adj n k p v = true ∨ ∃ q, q < n ∧ adj p q = true ∧ R adj n k q v = true := by
  simp [R, List.any_eq_true]
theorem R_mono {j k p v : Nat} (h : j ≤ k) (hr : R adj n j p v = true) : R adj n k p v = true := by
  induction h with
  | refl => exact hr
  | step _ ih => exact R_succ.2 (.inl ih)
theorem R_last {k : Nat} : ∀ {p v : Nat}, v < n → (R adj n (k + 1) p v = true ↔ R adj n k p v = true ∨ ∃ u, (u < n ∨ u = p) ∧ R adj n k p u = true ∧ adj u v = true) := by
  induction k with
  | zero =>
    intro p v hv
    rw [R_succ]
    simp only [R_zero]
    constructor
    · rintro (h | ⟨q, h1, h2, rfl⟩)
      · exact .inl h
      · exact .inr ⟨p, .inr rfl, rfl, h2⟩
    · rintro (h | ⟨u, _, rfl, h2⟩)
      · exact .inl h
      · exact .inr ⟨v, hv, h2, rfl⟩
  | succ k ih =>
    intro p v hv
    constructor
    · intro h
      rcases R_succ.1 h with h | ⟨q, h1, h2, h3⟩
      · exact .inl h
      · rcases (ih hv).1 h3 with h4 | ⟨u, hu, h4, h5⟩
        · exact .inl (R_succ.2 (.inr ⟨q, h1, h2, h4⟩))
        · refine .inr ⟨u, ?_, R_succ.2 (.inr ⟨q, h1, h2, h4⟩), h5⟩
          rcases hu with hu | rfl
          · exact .inl hu
          · exact .inl h1
    · rintro (h | ⟨u, hu, h4, h5⟩)
      · exact R_mono (Nat.le_succ _) h
      · rcases R_succ.1 h4 with h6 | ⟨q, h1, h2, h3⟩
        · exact R_mono (Nat.le_succ _) ((ih hv).2 (.inr ⟨u, hu, h6, h5⟩))
        · refine R_succ.2 (.inr ⟨q, h1, h2, (ih hv).2 (.inr ⟨u, ?_, h3, h5⟩)⟩)
          rcases hu with hu | rfl
          · exact .inl hu
          · by_cases hh : u < n
            · exact .inl hh
            · -- a place that is none is met from itself alone
              right
              have : ∀ k q, q < n → R adj n k q u = true → False := by
                intro k
                induction k with
                | zero => intro q hq hr; rw [R_zero] at hr; omega
                | succ k ih2 =>
                  intro q hq hr
                  rcases R_succ.1 hr with hr | ⟨q', h1', _, hr⟩
                  · exact ih2 q hq hr
                  · exact ih2 q' h1' hr
              exact (this k q h1 h3).elim
theorem R_lt {k p v : Nat} (hp : p < n) (h : R adj n k p v = true) : v < n := by
  induction k generalizing p with
  | zero => rw [R_zero] at h; omega
  | succ k ih =>
    rcases R_succ.1 h with h | ⟨q, h1, _, h⟩
    · exact ih hp h
    · exact ih h1 h
theorem R_last' {k p v : Nat} (hp : p < n) (hv : v < n) : R adj n (k + 1) p v = true ↔ R adj n k p v = true ∨ ∃ u, u < n ∧ R adj n k p u = true ∧ adj u v = true := by
  rw [R_last hv]
  constructor
  · rintro (h | ⟨u, hu, h⟩)
    · exact .inl h
    · exact .inr ⟨u, by rcases hu with hu | rfl <;> assumption, h⟩
  · rintro (h | ⟨u, hu, h⟩)
    · exact .inl h
    · exact .inr ⟨u, .inl hu, h⟩
theorem R_symm (hs : ∀ a b, adj a b = adj b a) {k : Nat} : ∀ {p v : Nat}, p < n → v < n → R adj n k p v = true → R adj n k v p = true := by
  induction k with
  | zero => intro p v _ _ h; rw [R_zero] at *; exact h.symm
  | succ k ih =>
    intro p v hp hv h
    rcases R_succ.1 h with h | ⟨q, h1, h2, h3⟩
    · exact R_succ.2 (.inl (ih hp hv h))
    · exact (R_last' hv hp).2 (.inr ⟨q, h1, ih h1 hv h3, by rw [hs]; exact h2⟩)
theorem R_trans {j : Nat} : ∀ {k p u v : Nat}, R adj n j p u = true → R adj n k u v = true → R adj n (j + k) p v = true := by
  induction j with
  | zero => intro k p u v h1 h2; rw [R_zero] at h1; subst h1; rwa [Nat.zero_add]
  | succ j ih =>
    intro k p u v h1 h2
    rw [show j + 1 + k = (j + k) + 1 by omega]
    rcases R_succ.1 h1 with h | ⟨q, a, b, c⟩
    · exact R_succ.2 (.inl (ih h h2))
    · exact R_succ.2 (.inr ⟨q, a, b, ih c h2⟩)
def cnt (adj : Nat → Nat → Bool) (n k p : Nat) : Nat := ((List.range n).filter (R adj n k p)).length
theorem filter_len_lt {α : Type} {f g : α → Bool} {x : α} : ∀ {l : List α}, (∀ y ∈ l, f y = true → g y = true) → x ∈ l → f x = false → g x = true → (l.filter f).length < (l.filter g).length
  | [], _, h, _, _ => by cases h
  | y :: l, hfg, h, hf, hg => by
    have hle : ∀ {l : List α}, (∀ y ∈ l, f y = true → g y = true) → (l.filter f).length ≤ (l.filter g).length := by
      intro l
      induction l with
      | nil => intro _; exact Nat.le_refl _
      | cons y l ih =>
        intro h
        have := ih fun z hz => h z (by simp [hz])
        cases hy : f y with
        | true => simp [hy, h y (by simp) hy]; exact this
        | false => cases hgy : g y <;> simp [hy, hgy] <;> omega
    rcases List.mem_cons.1 h with rfl | h'
    · have := hle (l := l) fun z hz => hfg z (by simp [hz])
      simp [hf, hg]; omega
    · have := filter_len_lt (fun z hz => hfg z (by simp [hz])) h' hf hg
      cases hy : f y with
      | true => simp [hy, hfg y (by simp) hy]; exact this
      | false => cases hgy : g y <;> simp [hy, hgy] <;> omega
theorem cnt_le (k p : Nat) : cnt adj n k p ≤ n := by
  unfold cnt; have := List.length_filter_le (R adj n k p) (List.range n); simpa using this
theorem stable {p j : Nat} (hp : p < n) (h : ∀ v, v < n → R adj n (j + 1) p v = true → R adj n j p v = true) : ∀ m v, v < n → R adj n (j + m) p v = true → R adj n j p v = true := by
  intro m
  induction m with
  | zero => intro v _ h; exact h
  | succ m ih =>
    intro v hv hr
    rcases (R_last' hp hv).1 (show R adj n ((j + m) + 1) p v = true from hr) with hr | ⟨u, h1, h2, h3⟩
    · exact ih v hv hr
    · exact h v hv ((R_last' hp hv).2 (.inr ⟨u, h1, ih u h1 h2, h3⟩))
theorem grows {p : Nat} (hp : p < n) : ∀ k, (∃ j, j < k ∧ ∀ v, v < n → R adj n (j + 1) p v = true → R adj n j p v = true) ∨ k + 1 ≤ cnt adj n k p := by
  intro k
  induction k with
  | zero =>
    right
    have : p ∈ (List.range n).filter (R adj n 0 p) := by simp [R_zero, hp]
    exact List.length_pos_of_mem this
  | succ k ih =>
    rcases ih with ⟨j, h1, h2⟩ | ih
    · exact .inl ⟨j, by omega, h2⟩
    · by_cases hc : ∀ v, v < n → R adj n (k + 1) p v = true → R adj n k p v = true
      · exact .inl ⟨k, by omega, hc⟩
      · right
        have hc' : ∃ v, v < n ∧ R adj n (k + 1) p v = true ∧ R adj n k p v = false := by
          refine Classical.byContradiction fun hno => hc fun v hv hr => ?_
          cases hx : R adj n k p v with
          | true => rfl
          | false => exact (hno ⟨v, hv, hr, hx⟩).elim
        obtain ⟨v, hv, h1, h2⟩ := hc'
        have := filter_len_lt (f := R adj n k p) (g := R adj n (k + 1) p) (l := List.range n) (fun y _ h => R_mono (Nat.le_succ k) h) (List.mem_range.2 hv) h2 h1
        unfold cnt at *; omega
theorem R_bound {k m p v : Nat} (hp : p < n) (hm : n ≤ m + 1) (h : R adj n k p v = true) : R adj n m p v = true := by
  have hv := R_lt hp h
  rcases grows (adj := adj) hp n with ⟨j, h1, h2⟩ | h3
  · by_cases hk : k ≤ m
    · exact R_mono hk h
    · have := stable hp h2 (k - j) v hv (by rw [show j + (k - j) = k by omega]; exact h)
      exact R_mono (by omega) this
  · have := cnt_le (adj := adj) (n := n) n p
    omega
end
end Brn
namespace Brn
open Go
set_option linter.unusedVariables false
def adjB (ws : W) (p q : Nat) : Bool := way ws p q || way ws q p
theorem adjB_symm (ws : W) (p q : Nat) : adjB ws p q = adjB ws q p := by unfold adjB; rw [Bool.or_comm]
def arr (f : Nat → Nat) : List Int := (List.range 9).map fun i => ((f i : Nat) : Int)
theorem arr_get (f : Nat → Nat) (i : Nat) : (arr f)[i]? = if i < 9 then some ((f i : Nat) : Int) else none := by
  unfold arr
  rw [List.getElem?_map]
  by_cases h : i < 9
  · rw [List.getElem?_range h, if_pos h]; rfl
  · rw [List.getElem?_eq_none (by simpa using h), if_neg h]; rfl
theorem arr_getD (f : Nat → Nat) {i : Nat} (h : i < 9) : (arr f).getD i 0 = ((f i : Nat) : Int) := by
  rw [List.getD_eq_getElem?_getD, arr_get, if_pos h]; rfl
theorem arr_len (f : Nat → Nat) : (arr f).length = 9 := by simp [arr]
theorem arr_set (f : Nat → Nat) (i v : Nat) : (arr f).set i (v : Int) = arr (fun j => if j = i then v else f j) := by
  apply List.ext_getElem?
  intro j
  rw [arr_get, List.getElem?_set, arr_get, arr_len]
  by_cases hj : i = j
  · subst hj
    by_cases h : i < 9 <;> simp [h]
  · rw [if_neg hj, if_neg (Ne.symm hj)]
theorem arr_congr {f g : Nat → Nat} (h : ∀ i, i < 9 → f i = g i) : arr f = arr g := by
  unfold arr
  refine List.map_congr_left fun i hi => ?_
  rw [h i (List.mem_range.1 hi)]
def good (n : Int) (w : Int × Int) : Prop := 0 ≤ w.1 ∧ w.1 < w.2 ∧ w.2 < n
theorem way_snoc (ws : W) (w : Int × Int) (a b : Int) : way (ws ++ [w]) a b = (way ws a b || ([w.1, w.2] == [a, b])) := by
  simp [way]
theorem way_good {n : Int} {ws : W} (hg : ∀ w ∈ ws, good n w) {a b : Int} (h : way ws a b = true) : 0 ≤ a ∧ a < b ∧ b < n := by
  simp only [way, List.any_eq_true] at h
  obtain ⟨w, hw, h⟩ := h
  have h' : w.1 = a ∧ w.2 = b := by simpa using h
  have := hg w hw
  unfold good at this
  omega
theorem mk9_lt (f : Nat → Bool) : mk f 9 < 512 := mk_lt f 9
theorem nextW_eq {n : Int} {before : W} {w : Int × Int} (hn : n ≤ 9) (hw : good n w) : nextW (arr fun p => mk (adjB before p) 9) w = arr fun p => mk (adjB (before ++ [w]) p) 9 := by
  obtain ⟨a, b⟩ := w
  obtain ⟨h1, h2, h3⟩ := hw
  dsimp only at h1 h2 h3
  obtain ⟨a, rfl⟩ := Int.eq_ofNat_of_zero_le h1
  obtain ⟨b, rfl⟩ := Int.eq_ofNat_of_zero_le (show 0 ≤ b by omega)
  have ha : a < 9 := by omega
  have hb : b < 9 := by omega
  have hab : a ≠ b := by omega
  have p1 : 2 ^ b < 18446744073709551616 := Nat.lt_of_lt_of_le (Nat.pow_lt_pow_right (by decide) hb : 2 ^ b < 2 ^ 9) (by decide)
  have p2 : 2 ^ a < 18446744073709551616 := Nat.lt_of_lt_of_le (Nat.pow_lt_pow_right (by decide) ha : 2 ^ a < 2 ^ 9) (by decide)
  have m1 := mk9_lt (adjB before a)
  have m2 := mk9_lt (adjB before b)
  unfold nextW
  simp only [Int.toNat_natCast]
  rw [arr_getD _ ha, shlU_nat (by omega), orU_nat (by omega) p1, arr_set, arr_getD _ hb, if_neg (Ne.symm hab), shlU_nat (by omega), orU_nat (by omega) p2, arr_set]
  refine arr_congr fun i hi => ?_
  by_cases hib : i = b
  · subst hib
    rw [if_pos rfl, ← mk_one ha, mk_or]
    refine mk_congr fun v hv => ?_
    unfold adjB
    rw [way_snoc, way_snoc]
    cases way before (i : Nat) (v : Nat) <;> cases way before (v : Nat) (i : Nat) <;> first | rfl | (simp; done) | (rw [Bool.eq_iff_iff]; simp; omega)
  · rw [if_neg hib]
    by_cases hia : i = a
    · subst hia
      rw [if_pos rfl, ← mk_one hb, mk_or]
      refine mk_congr fun v hv => ?_
      unfold adjB
      rw [way_snoc, way_snoc]
      cases way before (i : Nat) (v : Nat) <;> cases way before (v : Nat) (i : Nat) <;> first | rfl | (simp; done) | (rw [Bool.eq_iff_iff]; simp; omega)
    · rw [if_neg hia]
      refine mk_congr fun v hv => ?_
      unfold adjB
      rw [way_snoc, way_snoc]
      cases way before (i : Nat) (v : Nat) <;> cases way before (v : Nat) (i : Nat) <;> first | rfl | (simp; done) | (rw [Bool.eq_iff_iff]; simp; omega)
theorem waysP_eq {n : Int} (hn : n ≤ 9) : ∀ (ws before : W) (i : Nat), (∀ w ∈ before, good n w) →
    (waysP n ws i (arr fun p => mk (adjB before p) 9)).1 = (waysE n before ws i).1 ∧ ((waysE n before ws i).1 = 0 → (waysP n ws i (arr fun p => mk (adjB before p) 9)).2.2 = (arr fun p => mk (adjB (before ++ ws) p) 9) ∧ ∀ w ∈ before ++ ws, good n w)
  | [], before, i, hg => by simpa [waysP, waysE] using fun a b h => hg (a, b) h
  | w :: ws, before, i, hg => by
    simp only [waysP, waysE, wayErr]
    cases hc : (!inR w.1 0 (n - 1) || !inR w.2 0 (n - 1)) with
    | true => simp
    | false =>
      simp only [cond_false]
      by_cases hd : w.2 ≤ w.1
      · simp [hd]
      · simp only [decide_eq_false hd, cond_false]
        have hw : good n w := by
          simp only [inR, Bool.or_eq_false_iff, Bool.not_eq_false', Bool.and_eq_true, decide_eq_true_eq] at hc
          unfold good; omega
        have hbit : bitU ((arr fun p => mk (adjB before p) 9).getD w.1.toNat 0) w.2 = way before w.1 w.2 := by
          have hw' := hw
          obtain ⟨h1, h2, h3⟩ := hw'
          have e1 : ((w.1.toNat : Nat) : Int) = w.1 := by omega
          have e2 : ((w.2.toNat : Nat) : Int) = w.2 := by omega
          rw [arr_getD _ (by omega), ← e2, bitU_nat (by have := mk9_lt (adjB before w.1.toNat); omega) (by omega), testBit_mk]
          rw [decide_eq_true (show w.2.toNat < 9 by omega), Bool.true_and]
          unfold adjB
          rw [e1, e2]
          cases hx : way before w.2 w.1 with
          | false => simp
          | true => have := way_good hg hx; omega
        rw [hbit]
        cases hx : way before w.1 w.2 with
        | true => simp
        | false =>
          simp only [cond_false, show ((0 : Int) == 0) = true from rfl, cond_true]
          rw [nextW_eq hn hw]
          have := waysP_eq hn ws (before ++ [w]) (i + 1) (fun x hx => by
            rcases List.mem_append.1 hx with hx | hx
            · exact hg x hx
            · rw [List.mem_singleton.1 hx]; exact hw)
          simpa [List.append_assoc] using this
theorem zeros_arr : zeros 9 = arr fun p => mk (adjB [] p) 9 := by decide +kernel
theorem wayE_eq {n : Int} (hn : n ≤ 9) (ws : W) : wayE n ws = waysErr n ws := by
  unfold wayE waysErr
  rw [zeros_arr]
  exact (waysP_eq hn ws [] 0 (by simp)).1
theorem nextL_eq {n : Int} (hn : n ≤ 9) {ws : W} (h : waysErr n ws = 0) : nextL n ws = (arr fun p => mk (adjB ws p) 9) ∧ ∀ w ∈ ws, good n w := by
  unfold nextL
  rw [zeros_arr]
  exact (waysP_eq hn ws [] 0 (by simp)).2 h
end Brn
namespace Brn
open Go
set_option linter.unusedVariables false
def G (f : Nat → Nat) (s v : Nat) : Nat := (bitsOf s).foldl (fun v q => v ||| f q) v
theorem testBit_foldl (f : Nat → Nat) (i : Nat) : ∀ (l : List Nat) (v : Nat), (l.foldl (fun v q => v ||| f q) v).testBit i = (v.testBit i || l.any fun q => (f q).testBit i)
  | [], v => by simp
  | q :: l, v => by rw [List.foldl_cons, testBit_foldl f i l, Nat.testBit_or, List.any_cons, Bool.or_assoc]
theorem gather_arr (f : Nat → Nat) (hf : ∀ q, f q < 512) (s v : Nat) (hv : v < 512) : gather (arr f) s (v : Int) = ((G f s v : Nat) : Int) := by
  unfold gather G
  have : ∀ (l : List Nat) (v : Nat), (∀ q ∈ l, q < 9) → v < 512 → l.foldl (fun (v : Int) q => orU v ((arr f).getD q 0)) (v : Int) = ((l.foldl (fun v q => v ||| f q) v : Nat) : Int) := by
    intro l
    induction l with
    | nil => intro v _ _; rfl
    | cons q l ih =>
      intro v hl hv
      rw [List.foldl_cons, List.foldl_cons, arr_getD _ (hl q (by simp)), orU_nat (by omega) (by have := hf q; omega)]
      exact ih _ (fun x hx => hl x (by simp [hx])) (Nat.or_lt_two_pow (n := 9) hv (hf q))
  exact this _ v (fun q hq => by simp [bitsOf] at hq; exact hq.1) hv
theorem stepN_arr (nx f : Nat → Nat) (hf : ∀ q, f q < 512) : ∀ m, m ≤ 9 → stepN m (arr nx) (arr f) (arr f) = arr fun p => if p < m then G f (nx p) (f p) else f p := by
  intro m
  unfold stepN
  induction m with
  | zero => intro _; simp
  | succ m ih =>
    intro hm
    rw [List.range_succ, List.foldl_append, ih (by omega), List.foldl_cons, List.foldl_nil, arr_getD _ (by omega), arr_getD _ (by omega), if_neg (by omega), Int.toNat_natCast, gather_arr f hf _ _ (hf m), arr_set]
    refine arr_congr fun i hi => ?_
    by_cases h : i = m
    · subst h; simp
    · rw [if_neg h]
      by_cases h2 : i < m
      · rw [if_pos h2, if_pos (by omega)]
      · rw [if_neg h2, if_neg (by omega)]
section
variable {n : Nat} {ws : W}
def ballF (n : Nat) (ws : W) (k p : Nat) : Nat := if p < n then mk (R (adjB ws) n k p) 9 else 0
theorem ballF_lt (k p : Nat) : ballF n ws k p < 512 := by
  unfold ballF; split
  · exact mk9_lt _
  · omega
theorem adj_lt (hg : ∀ w ∈ ws, good (n : Int) w) {p q : Nat} (h : adjB ws p q = true) : p < n ∧ q < n := by
  unfold adjB at h
  rw [Bool.or_eq_true] at h
  rcases h with h | h <;> have := way_good hg h <;> omega
theorem ball_step (hn : n ≤ 9) (hg : ∀ w ∈ ws, good (n : Int) w) (k : Nat) : stepN n (arr fun p => mk (adjB ws p) 9) (arr (ballF n ws k)) (arr (ballF n ws k)) = arr (ballF n ws (k + 1)) := by
  rw [stepN_arr _ _ (ballF_lt k) n hn]
  refine arr_congr fun p hp => ?_
  by_cases h : p < n
  · rw [if_pos h]
    unfold ballF
    rw [if_pos h, if_pos h]
    apply Nat.eq_of_testBit_eq
    intro i
    unfold G
    rw [testBit_foldl, testBit_mk, testBit_mk]
    by_cases hi : i < 9
    · rw [decide_eq_true hi, Bool.true_and, Bool.true_and]
      rw [Bool.eq_iff_iff, R_succ, Bool.or_eq_true, List.any_eq_true]
      constructor
      · rintro (h1 | ⟨q, h1, h2⟩)
        · exact .inl h1
        · rw [mem_bitsOf (mk9_lt _), testBit_mk, Bool.and_eq_true] at h1
          have hq := adj_lt hg h1.2
          rw [if_pos hq.2, testBit_mk, Bool.and_eq_true] at h2
          exact .inr ⟨q, hq.2, h1.2, h2.2⟩
      · rintro (h1 | ⟨q, h1, h2, h3⟩)
        · exact .inl h1
        · refine .inr ⟨q, ?_, ?_⟩
          · rw [mem_bitsOf (mk9_lt _), testBit_mk, h2, decide_eq_true (by omega)]; rfl
          · rw [if_pos h1, testBit_mk, h3, decide_eq_true hi]; rfl
    · simp only [decide_eq_false hi, Bool.false_and, Bool.false_or]
      rw [Bool.eq_false_iff]
      intro h1
      rw [List.any_eq_true] at h1
      obtain ⟨q, _, h2⟩ := h1
      split at h2
      · rw [testBit_mk, decide_eq_false hi] at h2; cases h2
      · simp at h2
  · unfold ballF; simp [h]
theorem ball_init (hn : n ≤ 9) : initN n (zeros 9) = arr (ballF n ws 0) := by
  have h0 : zeros 9 = arr fun _ => 0 := by decide +kernel
  have : ∀ m, m ≤ 9 → initN m (zeros 9) = arr fun p => if p < m then 2 ^ p else 0 := by
    intro m
    unfold initN
    induction m with
    | zero => intro _; simp [h0]
    | succ m ih =>
      intro hm
      rw [List.range_succ, List.foldl_append, ih (by omega), List.foldl_cons, List.foldl_nil, shlU_nat (by omega), arr_set]
      refine arr_congr fun i hi => ?_
      by_cases h : i = m
      · subst h; simp
      · rw [if_neg h]
        by_cases h2 : i < m
        · rw [if_pos h2, if_pos (by omega)]
        · rw [if_neg h2, if_neg (by omega)]
  rw [this n hn]
  refine arr_congr fun i hi => ?_
  unfold ballF
  by_cases h : i < n
  · rw [if_pos h, if_pos h, ← mk_one hi]
    refine mk_congr fun v hv => ?_
    simp only [R]
    rw [Bool.eq_iff_iff]; simp; exact eq_comm
  · rw [if_neg h, if_neg h]
theorem getD_set (l : List Int) (i j : Nat) (v : Int) (hj : j < l.length) : (l.set i v).getD j 0 = if i = j then v else l.getD j 0 := by
  rw [List.getD_eq_getElem?_getD, List.getD_eq_getElem?_getD, List.getElem?_set]
  by_cases h : i = j
  · subst h; simp [hj]
  · simp [h]
theorem putN_get (far : Nat) (now g : List Int) (hg : g.length = 81) (hf : far < 9) : ∀ m, m ≤ 9 → ∀ k p, k < 9 → p < 9 → (putN m far now g).getD (k + p * 9) 0 = if k = far ∧ p < m then now.getD p 0 else g.getD (k + p * 9) 0 := by
  intro m
  induction m with
  | zero => intro _ k p _ _; simp [putN]
  | succ m ih =>
    intro hm k p hk hp
    have hl := putN_len' m far now g
    have e : putN (m + 1) far now g = (putN m far now g).set (far + m * 9) (now.getD m 0) := by
      unfold putN; rw [List.range_succ, List.foldl_append]; rfl
    rw [e, getD_set _ _ _ _ (by omega), ih (by omega) k p hk hp]
    by_cases h : far + m * 9 = k + p * 9
    · obtain ⟨rfl, rfl⟩ : far = k ∧ m = p := by omega
      simp
    · rw [if_neg h]
      by_cases h2 : k = far ∧ p < m
      · rw [if_pos h2, if_pos ⟨h2.1, by omega⟩]
      · rw [if_neg h2, if_neg (by omega)]
theorem fill1_get (far p' : Nat) (v : Int) (g : List Int) (hg : g.length = 81) (hp' : p' < 9) (k p : Nat) (hk : k < 9) (hp : p < 9) : (fill1 far p' v g).getD (k + p * 9) 0 = if p = p' ∧ far ≤ k then v else g.getD (k + p * 9) 0 := by
  have : ∀ m, ((List.range m).foldl (fun g j => g.set ((far + j) + p' * 9) v) g).length = 81 ∧ (far + m ≤ 9 → ((List.range m).foldl (fun g j => g.set ((far + j) + p' * 9) v) g).getD (k + p * 9) 0 = if p = p' ∧ far ≤ k ∧ k < far + m then v else g.getD (k + p * 9) 0) := by
    intro m
    induction m with
    | zero => exact ⟨hg, fun _ => by rw [if_neg (by omega)]; rfl⟩
    | succ m ih =>
      rw [List.range_succ, List.foldl_append, List.foldl_cons, List.foldl_nil]
      refine ⟨by rw [List.length_set]; exact ih.1, fun hm => ?_⟩
      rw [getD_set _ _ _ _ (by rw [ih.1]; omega), ih.2 (by omega)]
      by_cases h : far + m + p' * 9 = k + p * 9
      · rw [if_pos h, if_pos (by omega)]
      · rw [if_neg h]
        by_cases h2 : p = p' ∧ far ≤ k ∧ k < far + m
        · rw [if_pos h2, if_pos (by omega)]
        · rw [if_neg h2, if_neg (by omega)]
  unfold fill1
  by_cases hf : far ≤ 9
  · rw [(this (9 - far)).2 (by omega)]
    by_cases h : p = p' ∧ far ≤ k
    · rw [if_pos h, if_pos (by omega)]
    · rw [if_neg h, if_neg (by omega)]
  · rw [show 9 - far = 0 by omega, if_neg (by omega)]; rfl
theorem fillN_get (far : Nat) (now g : List Int) (hg : g.length = 81) : ∀ m, m ≤ 9 → ∀ k p, k < 9 → p < 9 → (fillN m far now g).getD (k + p * 9) 0 = if far ≤ k ∧ p < m then now.getD p 0 else g.getD (k + p * 9) 0 := by
  intro m
  induction m with
  | zero => intro _ k p _ _; simp [fillN]
  | succ m ih =>
    intro hm k p hk hp
    have hl := fillN_len' m far now g
    have e : fillN (m + 1) far now g = fill1 far m (now.getD m 0) (fillN m far now g) := by
      unfold fillN; rw [List.range_succ, List.foldl_append]; rfl
    rw [e, fill1_get far m _ _ (by omega) (by omega) k p hk hp, ih (by omega) k p hk hp]
    by_cases h : p = m ∧ far ≤ k
    · obtain ⟨rfl, h2⟩ := h
      rw [if_pos ⟨rfl, h2⟩, if_pos ⟨h2, by omega⟩]
    · rw [if_neg h]
      by_cases h2 : far ≤ k ∧ p < m
      · rw [if_pos h2, if_pos (by omega)]
      · rw [if_neg h2, if_neg (by omega)]
theorem arr_inj {f g : Nat → Nat} (h : arr f = arr g) {i : Nat} (hi : i < 9) : f i = g i := by
  have := congrArg (fun l => l.getD i 0) h
  simp only [arr_getD _ hi] at this
  omega
theorem rounds_spec (hn : n ≤ 9) (hg : ∀ w ∈ ws, good (n : Int) w) : ∀ (m far : Nat) (g : List Int), g.length = 81 → far + m = 9 → (∀ k p, k < far → p < n → g.getD (k + p * 9) 0 = ((ballF n ws k p : Nat) : Int)) →
    ∀ k p, k < 9 → p < n → (rounds n (arr fun p => mk (adjB ws p) 9) m far g (arr (ballF n ws far))).1.getD (k + p * 9) 0 = ((ballF n ws k p : Nat) : Int)
  | 0, far, g, hl, hm, hq, k, p, hk, hp => hq k p (by omega) hp
  | m + 1, far, g, hl, hm, hq, k, p, hk, hp => by
    have hput : ∀ k p, k < far + 1 → p < n → (putN n far (arr (ballF n ws far)) g).getD (k + p * 9) 0 = ((ballF n ws k p : Nat) : Int) := by
      intro k p hk hp
      rw [putN_get far _ g hl (by omega) n hn k p (by omega) (by omega)]
      by_cases h : k = far ∧ p < n
      · rw [if_pos h, arr_getD _ (by omega), h.1]
      · rw [if_neg h]; exact hq k p (by omega) hp
    simp only [rounds, ball_step hn hg]
    cases hc : arr (ballF n ws (far + 1)) == arr (ballF n ws far) with
    | false =>
      simp only [cond_false]
      exact rounds_spec hn hg m (far + 1) _ (by rw [putN_len']; exact hl) (by omega) hput k p hk hp
    | true =>
      simp only [cond_true]
      have he : arr (ballF n ws (far + 1)) = arr (ballF n ws far) := by simpa using hc
      rw [fillN_get far _ _ (by rw [putN_len']; exact hl) n hn k p hk (by omega)]
      by_cases h : far ≤ k ∧ p < n
      · rw [if_pos h, arr_getD _ (by omega)]
        have hb := arr_inj he (i := p) (by omega)
        rw [hb]
        unfold ballF at hb ⊢
        rw [if_pos hp, if_pos hp] at hb ⊢
        congr 1
        refine mk_congr fun v hv => ?_
        have hst : ∀ v, v < n → R (adjB ws) n (far + 1) p v = true → R (adjB ws) n far p v = true := by
          intro v hv h1
          have := congrArg (fun x => x.testBit v) hb
          simp only [testBit_mk, decide_eq_true (show v < 9 by omega), Bool.true_and] at this
          rw [← this]; exact h1
        rw [Bool.eq_iff_iff]
        constructor
        · exact fun h1 => R_mono h.1 h1
        · intro h1
          exact stable hp hst (k - far) v (R_lt hp h1) (by rw [show far + (k - far) = k by omega]; exact h1)
      · rw [if_neg h]; exact hput k p (by omega) hp
end
theorem ground_eq {n : Int} {ws : W} (h1 : 1 ≤ n) (hn : n ≤ 9) (h : waysErr n ws = 0) {k p : Nat} (hk : k < 9) (hp : p < n.toNat) : (ground n ws).getD (k + p * 9) 0 = ((mk (R (adjB ws) n.toNat k p) 9 : Nat) : Int) := by
  obtain ⟨e, hg⟩ := nextL_eq hn h
  obtain ⟨n, rfl⟩ := Int.eq_ofNat_of_zero_le (show 0 ≤ n by omega)
  rw [Int.toNat_natCast] at hp ⊢
  unfold ground
  rw [e, Int.toNat_natCast, ball_init (ws := ws) (by omega)]
  rw [rounds_spec (by omega) hg 9 0 (zeros 81) (by simp [zeros]) rfl (by intro k p hk; omega) k p hk hp]
  unfold ballF
  rw [if_pos hp]
end Brn
namespace Brn
open Go
set_option linter.unusedVariables false
theorem has_iff {l : List Int} {v : Int} : has l v = true ↔ v ∈ l := by simp [has]
theorem mem_irange {n v : Int} : v ∈ irange n ↔ 0 ≤ v ∧ v < n := by
  simp only [irange, List.mem_map, List.mem_range]
  constructor
  · rintro ⟨a, h, rfl⟩; simp; omega
  · rintro ⟨h1, h2⟩; exact ⟨v.toNat, by omega, by simp; omega⟩
theorem way_mm {n : Int} {ws : W} (hg : ∀ w ∈ ws, good n w) (p q : Nat) : way ws (min (p : Int) q) (max (p : Int) q) = adjB ws p q := by
  have h0 : ∀ a b : Int, b ≤ a → way ws a b = false := fun a b h => by
    cases hx : way ws a b with
    | false => rfl
    | true => have := way_good hg hx; omega
  unfold adjB
  rcases Nat.lt_trichotomy p q with h | h | h
  · rw [Int.min_eq_left (by omega), Int.max_eq_right (by omega), h0 (q : Int) p (by omega), Bool.or_false]
  · subst h; simp
  · rw [Int.min_eq_right (by omega), Int.max_eq_left (by omega), h0 (p : Int) q (by omega), Bool.false_or]
def fil (n : Int) (S : Nat → Bool) : List Int := (irange n).filter fun v => S v.toNat
theorem mem_fil {n : Int} {S : Nat → Bool} {v : Int} : v ∈ fil n S ↔ (0 ≤ v ∧ v < n) ∧ S v.toNat = true := by
  unfold fil; rw [List.mem_filter, mem_irange]
theorem fil_congr {n : Int} {S S' : Nat → Bool} (h : ∀ v : Nat, (v : Int) < n → S v = S' v) : fil n S = fil n S' := by
  unfold fil
  refine List.filter_congr fun v hv => ?_
  rw [mem_irange] at hv
  exact h _ (by omega)
theorem spread_fil {n : Int} {ws : W} (hg : ∀ w ∈ ws, good n w) (l : List Int) (hl : ∀ x ∈ l, 0 ≤ x ∧ x < n) :
    spread n ws l = fil n fun v => decide ((v : Int) ∈ l) || (List.range n.toNat).any fun u => decide ((u : Int) ∈ l) && adjB ws u v := by
  unfold spread fil
  refine List.filter_congr fun v hv => ?_
  rw [mem_irange] at hv
  obtain ⟨v, rfl⟩ := Int.eq_ofNat_of_zero_le hv.1
  simp only [Int.toNat_natCast]
  unfold next
  rw [Bool.eq_iff_iff, Bool.or_eq_true, Bool.or_eq_true, has_iff, decide_eq_true_eq, List.any_eq_true, List.any_eq_true]
  constructor
  · rintro (h | ⟨q, h1, h2⟩)
    · exact .inl h
    · obtain ⟨q, rfl⟩ := Int.eq_ofNat_of_zero_le (hl q h1).1
      rw [way_mm hg, adjB_symm] at h2
      have := hl _ h1
      exact .inr ⟨q, List.mem_range.2 (by omega), by simp [h1, h2]⟩
  · rintro (h | ⟨u, h1, h2⟩)
    · exact .inl h
    · rw [Bool.and_eq_true, decide_eq_true_eq] at h2
      refine .inr ⟨u, h2.1, ?_⟩
      rw [way_mm hg, adjB_symm]; exact h2.2
theorem range_one (a : Nat) : ∀ m, (List.range m).filter (fun v => a == v) = if a < m then [a] else []
  | 0 => by simp
  | m + 1 => by
    rw [List.range_succ, List.filter_append, range_one a m]
    by_cases h : a = m
    · subst h; simp
    · by_cases h2 : a < m
      · rw [if_pos h2, if_pos (by omega)]; simp [h]
      · rw [if_neg h2, if_neg (by omega)]; simp [h]
theorem nearK_fil {n : Int} {ws : W} (hg : ∀ w ∈ ws, good n w) {a : Nat} (ha : (a : Int) < n) : ∀ k, nearK n ws a k = fil n (R (adjB ws) n.toNat k a)
  | 0 => by
    unfold fil irange
    rw [List.filter_map]
    have : (List.range n.toNat).filter ((fun v : Int => R (adjB ws) n.toNat 0 a v.toNat) ∘ Int.ofNat) = [a] := by
      rw [show ((fun v : Int => R (adjB ws) n.toNat 0 a v.toNat) ∘ Int.ofNat) = fun v => a == v from rfl, range_one, if_pos (by omega)]
    rw [this]; rfl
  | k + 1 => by
    show spread n ws (nearK n ws a k) = _
    rw [nearK_fil hg ha k, spread_fil hg _ (fun x hx => (mem_fil.1 hx).1)]
    refine fil_congr fun v hv => ?_
    rw [Bool.eq_iff_iff, R_last' (n := n.toNat) (by omega) (by omega), Bool.or_eq_true, List.any_eq_true]
    simp only [Bool.and_eq_true, decide_eq_true_eq, mem_fil, Int.toNat_natCast, List.mem_range]
    constructor
    · rintro (⟨_, h⟩ | ⟨u, h1, ⟨_, h2⟩, h3⟩)
      · exact .inl h
      · exact .inr ⟨u, h1, h2, h3⟩
    · rintro (h | ⟨u, h1, h2, h3⟩)
      · exact .inl ⟨⟨by omega, hv⟩, h⟩
      · exact .inr ⟨u, h1, ⟨⟨by omega, by omega⟩, h2⟩, h3⟩
theorem fil_len {n : Int} {S : Nat → Bool} : ((fil n S).length : Int) < n ↔ ∃ v : Nat, (v : Int) < n ∧ S v = false := by
  have h1 := irange_len n
  unfold fil
  constructor
  · intro h
    have : ((irange n).filter fun v => S v.toNat).length < (irange n).length := by omega
    obtain ⟨v, hv, h2⟩ := List.length_filter_lt_length_iff_exists.1 this
    rw [mem_irange] at hv
    exact ⟨v.toNat, by omega, by simpa using h2⟩
  · rintro ⟨v, hv, h2⟩
    have : ((irange n).filter fun v => S v.toNat).length < (irange n).length := List.length_filter_lt_length_iff_exists.2 ⟨v, mem_irange.2 ⟨by omega, hv⟩, by simpa using h2⟩
    omega
theorem mk_all {n : Nat} (hn : n ≤ 9) {f : Nat → Bool} (hf : ∀ v, f v = true → v < n) : mk f 9 = 2 ^ n - 1 ↔ ∀ v, v < n → f v = true := by
  constructor
  · intro h v hv
    have := congrArg (fun x => x.testBit v) h
    simp only [testBit_mk, Nat.testBit_two_pow_sub_one, decide_eq_true hv, decide_eq_true (show v < 9 by omega), Bool.true_and] at this
    exact this
  · intro h
    apply Nat.eq_of_testBit_eq
    intro i
    rw [testBit_mk, Nat.testBit_two_pow_sub_one]
    by_cases hi : i < n
    · rw [h i hi, decide_eq_true hi, decide_eq_true (show i < 9 by omega)]; rfl
    · rw [decide_eq_false hi]
      cases hx : f i with
      | false => simp
      | true => exact absurd (hf i hx) hi
theorem last_eq {n : Int} {ws : W} (h1 : 1 ≤ n) (hn : n ≤ 9) (h : waysErr n ws = 0) : ((ground n ws).getD 8 0 != allN n) = decide (((near n ws 0 n).length : Int) < n) := by
  obtain ⟨_, hg⟩ := nextL_eq hn h
  have e := ground_eq h1 hn h (k := 8) (p := 0) (by omega) (by omega)
  rw [show 8 + 0 * 9 = 8 from rfl] at e
  rw [e]
  have e2 : near n ws 0 n = fil n (R (adjB ws) n.toNat n.toNat 0) := by
    unfold near
    rw [Int.min_self]
    exact nearK_fil hg (a := 0) (by omega) _
  rw [e2, Bool.eq_iff_iff, decide_eq_true_eq, fil_len, bne_iff_ne]
  unfold allN
  have hall := mk_all (n := n.toNat) (by omega) (f := R (adjB ws) n.toNat 8 0) (fun v hv => R_lt (by omega) hv)
  constructor
  · intro hne
    refine Classical.byContradiction fun hno => hne ?_
    congr 1
    rw [hall]
    intro v hv
    refine R_bound (by omega) (by omega) (k := n.toNat) ?_
    cases hx : R (adjB ws) n.toNat n.toNat 0 v with
    | true => rfl
    | false => exact (hno ⟨v, by omega, hx⟩).elim
  · rintro ⟨v, hv, hx⟩ heq
    have := hall.1 (Int.ofNat.inj heq) v (by omega)
    rw [R_bound (by omega) (by omega) this] at hx
    cases hx
theorem chkP_eq (n : Int) (ws : W) : chkP n ws = chk n ws := by
  unfold chkP chk
  cases a : inR n 1 9 with
  | false => rfl
  | true =>
    have hb : 1 ≤ n ∧ n ≤ 9 := by simpa [inR] using a
    rw [wayE_eq hb.2]
    simp only [Bool.not_true, cond_false]
    cases decide (12 < ws.length) with
    | true => rfl
    | false =>
      simp only [cond_false]
      cases hw : waysErr n ws == 0 with
      | false => rfl
      | true =>
        simp only [cond_true]
        rw [last_eq hb.1 hb.2 (by simpa using hw)]
theorem openErr_eq (n : Int) (ws : W) (pl : List Int) : openErr n ws pl = placeErr n ws pl := by
  unfold openErr placeErr; rw [chkP_eq]
structure Ok (n : Int) (ws : W) : Prop where
  lo : 1 ≤ n
  hi : n ≤ 9
  few : ws.length ≤ 12
  ways : waysErr n ws = 0
  all : ∀ v : Nat, (v : Int) < n → R (adjB ws) n.toNat n.toNat 0 v = true
theorem ok_of {n : Int} {ws : W} (h : chk n ws = 0) : Ok n ws := by
  unfold chk at h
  cases a : inR n 1 9 with
  | false => rw [a] at h; cases h
  | true =>
    have hb : 1 ≤ n ∧ n ≤ 9 := by simpa [inR] using a
    rw [a] at h
    simp only [Bool.not_true, cond_false] at h
    by_cases hf : 12 < ws.length
    · rw [decide_eq_true hf] at h; cases h
    · rw [decide_eq_false hf] at h
      simp only [cond_false] at h
      cases hw : waysErr n ws == 0 with
      | false => rw [hw] at h; simp only [cond_false] at h; rw [h] at hw; cases hw
      | true =>
        rw [hw] at h
        simp only [cond_true] at h
        have hw' : waysErr n ws = 0 := by simpa using hw
        refine ⟨hb.1, hb.2, by omega, hw', fun v hv => ?_⟩
        obtain ⟨_, hg⟩ := nextL_eq hb.2 hw'
        cases hx : R (adjB ws) n.toNat n.toNat 0 v with
        | true => rfl
        | false =>
          have e2 : near n ws 0 n = fil n (R (adjB ws) n.toNat n.toNat 0) := by
            unfold near
            rw [Int.min_self]
            exact nearK_fil hg (a := 0) (by omega) _
          rw [e2, decide_eq_true (fil_len.2 ⟨v, hv, hx⟩)] at h
          cases h
theorem Ok.good {n : Int} {ws : W} (h : Ok n ws) : ∀ w ∈ ws, good n w := (nextL_eq h.hi h.ways).2
theorem Ok.conn {n : Int} {ws : W} (h : Ok n ws) {a b m : Nat} (ha : (a : Int) < n) (hb : (b : Int) < n) (hm : n ≤ (m : Int) + 1) : R (adjB ws) n.toNat m a b = true := by
  have hlo := h.lo
  have h1 := R_symm (adjB_symm ws) (n := n.toNat) (by omega) (by omega) (h.all a ha)
  exact R_bound (by omega) (by omega) (R_trans h1 (h.all b hb))
theorem Ok.far_same {n : Int} {ws : W} (h : Ok n ws) {a : Nat} (ha : (a : Int) < n) {j k : Nat} (hj : n ≤ (j : Int) + 1) (hk : n ≤ (k : Int) + 1) {v : Nat} (hv : (v : Int) < n) : R (adjB ws) n.toNat j a v = R (adjB ws) n.toNat k a v := by
  rw [h.conn ha hv hj, h.conn ha hv hk]
end Brn
namespace Brn
open Go
set_option linter.unusedVariables false
theorem findIdx_range {m k : Nat} {p : Nat → Bool} (hk : k < m) (hp : p k = true) (hlt : ∀ j, j < k → p j = false) : (List.range m).findIdx p = k := by
  rw [List.findIdx_eq (by simpa using hk)]
  simp only [List.getElem_range]
  exact ⟨hp, hlt⟩
section
variable {n : Int} {ws : W}
theorem Ok.lt (h : Ok n ws) {a : Nat} (ha : (a : Int) < n) {k v : Nat} (hv : R (adjB ws) n.toNat k a v = true) : (v : Int) < n := by
  have := R_lt (n := n.toNat) (by omega) hv
  have := h.lo
  omega
theorem Ok.near (h : Ok n ws) {a : Nat} (ha : (a : Int) < n) {m : Nat} : Brn.near n ws a m = fil n (R (adjB ws) n.toNat m a) := by
  have hlo := h.lo
  unfold Brn.near
  rw [nearK_fil h.good ha]
  refine fil_congr fun v hv => ?_
  by_cases hm : (m : Int) ≤ n
  · rw [Int.min_eq_left hm, Int.toNat_natCast]
  · rw [Int.min_eq_right (by omega)]
    exact h.far_same ha (by omega) (by omega) hv
theorem Ok.far (h : Ok n ws) {a b : Nat} (ha : (a : Int) < n) (hb : (b : Int) < n) : farI (ground n ws) a b = farN n ws a b ∧ farN n ws a b < 9 := by
  have hlo := h.lo
  have hhi := h.hi
  have hd : (List.range 9).findIdx (fun k => R (adjB ws) n.toNat k a b) < (List.range 9).length := List.findIdx_lt_length_of_exists ⟨8, by simp, h.conn ha hb (by omega)⟩
  generalize hdd : (List.range 9).findIdx (fun k => R (adjB ws) n.toNat k a b) = d at hd
  rw [List.length_range] at hd
  have hp : R (adjB ws) n.toNat d a b = true := by
    have := List.findIdx_getElem (xs := List.range 9) (p := fun k => R (adjB ws) n.toNat k a b) (w := by rw [hdd, List.length_range]; exact hd)
    simpa [hdd] using this
  have hlt : ∀ j, j < d → R (adjB ws) n.toNat j a b = false := by
    intro j hj
    have := List.not_of_lt_findIdx (xs := List.range 9) (p := fun k => R (adjB ws) n.toNat k a b) (i := j) (by rw [hdd]; exact hj)
    simpa using this
  have e1 : farN n ws a b = d := by
    unfold farN
    have key : ∀ k : Nat, has (Brn.near n ws a (k : Int)) b = R (adjB ws) n.toNat k a b := by
      intro k
      rw [h.near ha, Bool.eq_iff_iff, has_iff, mem_fil, Int.toNat_natCast]
      exact ⟨fun x => x.2, fun x => ⟨⟨by omega, hb⟩, x⟩⟩
    exact findIdx_range (by omega) (by rw [key]; exact hp) (fun j hj => by rw [key]; exact hlt j hj)
  have e2 : farI (ground n ws) a b = d := by
    unfold farI
    rw [Int.toNat_natCast]
    have key : ∀ k : Nat, k < 9 → bitU ((ground n ws).getD (k + a * 9) 0) b = R (adjB ws) n.toNat k a b := by
      intro k hk
      rw [ground_eq h.lo h.hi h.ways hk (by omega), bitU_nat (by have := mk9_lt (R (adjB ws) n.toNat k a); omega) (by omega), testBit_mk, decide_eq_true (show b < 9 by omega), Bool.true_and]
    exact findIdx_range hd (by rw [key d hd]; exact hp) (fun j hj => by rw [key j (by omega)]; exact hlt j hj)
  rw [e1, e2]
  exact ⟨rfl, hd⟩
def bSet (adj : Nat → Nat → Bool) (n : Nat) (fs : List Int) (d v : Nat) : Bool := (List.range (d + 1)).any fun i => R adj n (d - i) (fs.getD i 0).toNat v
theorem getD_lt {fs : List Int} (hf : ∀ p ∈ fs, 0 ≤ p ∧ p < n) {i : Nat} (hi : i < fs.length) : 0 ≤ fs.getD i 0 ∧ fs.getD i 0 < n := by
  rw [List.getD_eq_getElem?_getD, List.getElem?_eq_getElem hi]
  exact hf _ (List.getElem_mem hi)
theorem bSet_lt (h : Ok n ws) {fs : List Int} (hf : ∀ p ∈ fs, 0 ≤ p ∧ p < n) {d v : Nat} (hd : d < fs.length) (hv : bSet (adjB ws) n.toNat fs d v = true) : (v : Int) < n := by
  unfold bSet at hv
  rw [List.any_eq_true] at hv
  obtain ⟨i, hi, hr⟩ := hv
  have := getD_lt hf (i := i) (by have := List.mem_range.1 hi; omega)
  exact h.lt (by omega) hr
theorem dayNext_fil (h : Ok n ws) {fs : List Int} (hf : ∀ p ∈ fs, 0 ≤ p ∧ p < n) {d : Nat} (hd : d + 1 < fs.length) :
    dayNext n ws (fil n (bSet (adjB ws) n.toNat fs d)) (fs.getD (d + 1) 0) = fil n (bSet (adjB ws) n.toNat fs (d + 1)) := by
  have hlo := h.lo
  have hfd := getD_lt hf hd
  unfold dayNext
  show List.filter _ _ = List.filter (fun v : Int => bSet (adjB ws) n.toNat fs (d + 1) v.toNat) (irange n)
  refine List.filter_congr fun v hv => ?_
  rw [mem_irange] at hv
  obtain ⟨v, rfl⟩ := Int.eq_ofNat_of_zero_le hv.1
  rw [Int.toNat_natCast, Bool.eq_iff_iff, has_iff, List.mem_append, List.mem_singleton]
  have hs := spread_fil h.good (fil n (bSet (adjB ws) n.toNat fs d)) (fun x hx => (mem_fil.1 hx).1)
  rw [hs, mem_fil, Int.toNat_natCast, Bool.or_eq_true, decide_eq_true_eq, List.any_eq_true, mem_fil, Int.toNat_natCast]
  have hsucc : bSet (adjB ws) n.toNat fs (d + 1) v = true ↔ (∃ i, i < d + 1 ∧ R (adjB ws) n.toNat (d - i + 1) (fs.getD i 0).toNat v = true) ∨ v = (fs.getD (d + 1) 0).toNat := by
    unfold bSet
    rw [List.any_eq_true]
    constructor
    · rintro ⟨i, hi, hr⟩
      have hi := List.mem_range.1 hi
      by_cases he : i = d + 1
      · subst he
        rw [Nat.sub_self, R_zero] at hr
        exact .inr hr.symm
      · exact .inl ⟨i, by omega, by rw [show d - i + 1 = d + 1 - i by omega]; exact hr⟩
    · rintro (⟨i, hi, hr⟩ | hv)
      · exact ⟨i, List.mem_range.2 (by omega), by rw [show d + 1 - i = d - i + 1 by omega]; exact hr⟩
      · exact ⟨d + 1, List.mem_range.2 (by omega), by rw [Nat.sub_self, R_zero]; exact hv.symm⟩
  have hcur : ∀ u, bSet (adjB ws) n.toNat fs d u = true ↔ ∃ i, i < d + 1 ∧ R (adjB ws) n.toNat (d - i) (fs.getD i 0).toNat u = true := by
    intro u
    unfold bSet
    rw [List.any_eq_true]
    exact ⟨fun ⟨i, a, b⟩ => ⟨i, List.mem_range.1 a, b⟩, fun ⟨i, a, b⟩ => ⟨i, List.mem_range.2 a, b⟩⟩
  rw [hsucc]
  constructor
  · rintro (⟨_, hx | ⟨u, hu, hx⟩⟩ | hx)
    · obtain ⟨i, hi, hr⟩ := (hcur v).1 hx.2
      exact .inl ⟨i, hi, R_succ.2 (.inl hr)⟩
    · rw [Bool.and_eq_true, decide_eq_true_eq] at hx
      have hu' : (u : Int) ∈ fil n (bSet (adjB ws) n.toNat fs d) := hx.1
      rw [mem_fil, Int.toNat_natCast] at hu'
      obtain ⟨i, hi, hr⟩ := (hcur u).1 hu'.2
      have hfi := getD_lt hf (i := i) (by omega)
      exact .inl ⟨i, hi, (R_last' (n := n.toNat) (by omega) (by omega)).2 (.inr ⟨u, List.mem_range.1 hu, hr, hx.2⟩)⟩
    · right; omega
  · rintro (⟨i, hi, hr⟩ | hx)
    · have hfi := getD_lt hf (i := i) (by omega)
      refine .inl ⟨⟨by omega, hv.2⟩, ?_⟩
      rcases (R_last' (n := n.toNat) (by omega) (by omega)).1 hr with hr | ⟨u, h1, h2, h3⟩
      · exact .inl ⟨⟨by omega, hv.2⟩, (hcur v).2 ⟨i, hi, hr⟩⟩
      · refine .inr ⟨u, List.mem_range.2 h1, ?_⟩
        rw [Bool.and_eq_true, decide_eq_true_eq]
        refine ⟨?_, h3⟩
        show (u : Int) ∈ fil n _
        rw [mem_fil, Int.toNat_natCast]
        exact ⟨⟨by omega, by omega⟩, (hcur u).2 ⟨i, hi, h2⟩⟩
    · right; omega
theorem day_fil (h : Ok n ws) {fs : List Int} (hf : ∀ p ∈ fs, 0 ≤ p ∧ p < n) : ∀ d, d < fs.length → (fs.take (d + 1)).foldl (dayNext n ws) [] = fil n (bSet (adjB ws) n.toNat fs d)
  | 0, hd => by
    have hfd := getD_lt hf hd
    have hlo := h.lo
    have e : fs.take (0 + 1) = [fs.getD 0 0] := by
      cases fs with
      | nil => cases hd
      | cons x l => rfl
    rw [e, List.foldl_cons, List.foldl_nil]
    rw [List.getD_eq_getElem?_getD] at hfd
    unfold dayNext
    show List.filter _ _ = List.filter (fun v : Int => bSet (adjB ws) n.toNat fs 0 v.toNat) (irange n)
    refine List.filter_congr fun v hv => ?_
    rw [mem_irange] at hv
    rw [Bool.eq_iff_iff, has_iff, List.mem_append, List.mem_singleton, spread_fil h.good [] (by simp)]
    unfold bSet
    simp [R, mem_fil]
    omega
  | d + 1, hd => by
    have e : fs.take (d + 1 + 1) = fs.take (d + 1) ++ [fs.getD (d + 1) 0] := by
      rw [List.take_add_one, List.getD_eq_getElem?_getD, List.getElem?_eq_getElem hd]; rfl
    rw [e, List.foldl_append, day_fil h hf d (by omega), List.foldl_cons, List.foldl_nil, dayNext_fil h hf hd]
theorem onP_eq (h : Ok n ws) {fs : List Int} (hf : ∀ p ∈ fs, 0 ≤ p ∧ p < n) (hl : fs.length ≤ 9) {d : Nat} (hd : d < fs.length) : onP (ground n ws) fs d = ((mk (bSet (adjB ws) n.toNat fs d) 9 : Nat) : Int) := by
  have hlo := h.lo
  have hhi := h.hi
  have : ∀ m, m ≤ d + 1 → (List.range m).foldl (fun s i => orU s ((ground n ws).getD ((d - i) + (fs.getD i 0).toNat * 9) 0)) 0 = ((mk (fun v => (List.range m).any fun i => R (adjB ws) n.toNat (d - i) (fs.getD i 0).toNat v) 9 : Nat) : Int) := by
    intro m
    induction m with
    | zero => intro _; simp [mk]
    | succ m ih =>
      intro hm
      have hfi := getD_lt hf (i := m) (by omega)
      have m1 := mk9_lt (fun v => (List.range m).any fun i => R (adjB ws) n.toNat (d - i) (fs.getD i 0).toNat v)
      have m2 := mk9_lt (R (adjB ws) n.toNat (d - m) (fs.getD m 0).toNat)
      rw [List.range_succ, List.foldl_append, ih (by omega), List.foldl_cons, List.foldl_nil, ground_eq h.lo h.hi h.ways (by omega) (by omega), orU_nat (by omega) (by omega), mk_or]
      congr 1
      refine mk_congr fun v hv => ?_
      rw [List.any_append]
      simp
  exact this (d + 1) (Nat.le_refl _)
theorem enough_eq (h : Ok n ws) {fs : List Int} (hf : ∀ p ∈ fs, 0 ≤ p ∧ p < n) (hl : fs.length ≤ 9) (h0 : 0 < fs.length) : (onP (ground n ws) fs (fs.length - 1) != allN n) = !decide (((fs.foldl (dayNext n ws) []).length : Int) = n) := by
  have hlo := h.lo
  have hhi := h.hi
  have e := day_fil h hf (fs.length - 1) (by omega)
  rw [show fs.length - 1 + 1 = fs.length by omega, List.take_length] at e
  rw [e, onP_eq h hf hl (by omega)]
  unfold allN
  have hall := mk_all (n := n.toNat) (by omega) (f := bSet (adjB ws) n.toNat fs (fs.length - 1)) (fun v hv => by have := bSet_lt h hf (by omega) hv; omega)
  have hle : (fil n (bSet (adjB ws) n.toNat fs (fs.length - 1))).length ≤ n.toNat := by
    rw [← irange_len n]; exact List.length_filter_le _ _
  rw [Bool.eq_iff_iff, bne_iff_ne, Bool.not_eq_true', decide_eq_false_iff_not]
  constructor
  · intro hne heq
    refine hne ?_
    congr 1
    rw [hall]
    intro v hv
    cases hx : bSet (adjB ws) n.toNat fs (fs.length - 1) v with
    | true => rfl
    | false =>
      have := (fil_len (n := n)).2 ⟨v, by omega, hx⟩
      omega
  · intro hne heq
    refine hne ?_
    have hA := hall.1 (Int.ofNat.inj heq)
    have : ¬ (((fil n (bSet (adjB ws) n.toNat fs (fs.length - 1))).length : Int) < n) := by
      intro hlt
      obtain ⟨v, hv, hx⟩ := fil_len.1 hlt
      have h2 : v < n.toNat := by omega
      rw [hA v h2] at hx
      cases hx
    omega
end
end Brn
