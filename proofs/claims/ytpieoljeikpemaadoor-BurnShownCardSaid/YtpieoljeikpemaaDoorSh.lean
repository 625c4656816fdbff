/- Roots, rows, and places that bar days: plain definitions. -/
import Derived.Test.YtpieoljeikpemaaDoorSp
set_option linter.unusedVariables false
set_option linter.unusedSimpArgs false
namespace Brn
open Go
def apartB (n : Int) (ws : W) (least : Int) (l : List Int) : Bool := (List.range l.length).all fun i => (List.range i).all fun k => !decide ((farN n ws (l.getD i 0) (l.getD k 0) : Int) < least)
def ascE (n : Int) : List Int → Option Int → Int
  | [], _ => 0
  | p :: l, q => bif !inR p 0 (n - 1) then 2 else bif (match q with | none => false | some x => decide (p ≤ x)) then 7 else ascE n l (some p)
def provE (n : Int) (ws : W) (d : Int) (pl : List Int) : Int :=
  bif chk n ws == 0 then (bif inR d 1 9 then (bif ascE n pl none == 0 then (bif decide ((pl.length : Int) ≤ d) || !apartB n ws (2 * d - 1) pl then 14 else 0) else ascE n pl none) else 1) else chk n ws
def err1 (n : Int) (pl : List Int) (i : Nat) (p : Int) : Int := bif !inR p 0 (n - 1) then 2 else bif decide (0 < i) && decide (p ≤ pl.getD (i - 1) 0) then 7 else 0
def nearB (g : List Int) (d p : Int) (l : List Int) : Bool := l.any fun x => decide (idx9 (farI g p x) < 2 * d - 1)
def proX (n : Int) (g : List Int) (d : Int) (pl : List Int) : Sum (Int × Bool × Nat) Bool := Ev.foldX (fun i (near : Bool) p => bif err1 n pl i p == 0 then .inr (near || nearB g d p (pl.take i)) else .inl (err1 n pl i p, near, i)) 0 pl false
def proE (n : Int) (g : List Int) (d : Int) (pl : List Int) : Int := match proX n g d pl with
  | .inl x => x.1
  | .inr _ => 0
def proN (n : Int) (g : List Int) (d : Int) (pl : List Int) : Bool := match proX n g d pl with
  | .inl x => x.2.1
  | .inr b => b
def proI (n : Int) (g : List Int) (d : Int) (pl : List Int) : Int := match proX n g d pl with
  | .inl x => x.2.2
  | .inr _ => pl.length
end Brn
namespace Brn
open Go
set_option linter.unusedVariables false
variable {n : Int} {ws : W}
theorem has_near (h : Ok n ws) {a b : Nat} (ha : (a : Int) < n) (hb : (b : Int) < n) (k : Nat) : has (near n ws a (k : Int)) b = R (adjB ws) n.toNat k a b := by
  rw [h.near ha, Bool.eq_iff_iff, has_iff, mem_fil, Int.toNat_natCast]
  exact ⟨fun x => x.2, fun x => ⟨⟨by omega, hb⟩, x⟩⟩
theorem far_lt (h : Ok n ws) {a b : Nat} (ha : (a : Int) < n) (hb : (b : Int) < n) (k : Nat) : decide ((farN n ws a b : Int) < ((k + 1 : Nat) : Int)) = R (adjB ws) n.toNat k a b := by
  have hf := (h.far ha hb).2
  have hhi := h.hi
  rw [Bool.eq_iff_iff, decide_eq_true_eq]
  constructor
  · intro hlt
    have hx : (List.range 10).findIdx (fun (k : Nat) => has (near n ws a (k : Int)) b) < (List.range 10).length := by rw [List.length_range]; exact Nat.lt_of_lt_of_le hf (by omega)
    have := List.findIdx_getElem (w := hx)
    simp only [List.getElem_range] at this
    rw [show (List.range 10).findIdx (fun (k : Nat) => has (near n ws a (k : Int)) b) = farN n ws a b from rfl, has_near h ha hb] at this
    exact R_mono (by omega) this
  · intro hr
    by_cases hk : k < 10
    · refine Int.lt_of_not_ge fun hge => ?_
      have := List.not_of_lt_findIdx (xs := List.range 10) (p := fun (k : Nat) => has (near n ws a (k : Int)) b) (i := k) (show k < farN n ws a b by omega)
      simp only [List.getElem_range] at this
      rw [has_near h ha hb, hr] at this
      cases this
    · omega
def inP (n : Int) (l : List Int) : Prop := ∀ p ∈ l, 0 ≤ p ∧ p < n
/-! bits -/
end Brn
namespace Brn
open Go
set_option linter.unusedVariables false
variable {n : Int} {ws : W}
theorem all_snoc {n : Nat} (f : Nat → Bool) : (List.range (n + 1)).all f = ((List.range n).all f && f n) := by
  rw [List.range_succ, List.all_append]; simp
theorem all_congr' {f g : Nat → Bool} {m : Nat} (h : ∀ i, i < m → f i = g i) : (List.range m).all f = (List.range m).all g := by
  have : ∀ l : List Nat, (∀ i ∈ l, i < m) → l.all f = l.all g := by
    intro l
    induction l with
    | nil => intros; rfl
    | cons x l ih => intro hl; rw [List.all_cons, List.all_cons, h x (hl x (by simp)), ih fun i hi => hl i (by simp [hi])]
  exact this _ fun i hi => List.mem_range.1 hi
theorem getD_snoc_lt {l : List Int} {p : Int} {i : Nat} (h : i < l.length) : (l ++ [p]).getD i 0 = l.getD i 0 := by
  simp [List.getD_eq_getElem?_getD, List.getElem?_append_left h]
theorem getD_snoc {l : List Int} {p : Int} : (l ++ [p]).getD l.length 0 = p := by
  simp [List.getD_eq_getElem?_getD]
theorem range_all_mem (l : List Int) (f : Int → Bool) : (List.range l.length).all (fun k => f (l.getD k 0)) = l.all f := by
  rw [Bool.eq_iff_iff, List.all_eq_true, List.all_eq_true]
  constructor
  · intro h x hx
    obtain ⟨i, hi, rfl⟩ := List.getElem_of_mem hx
    have := h i (List.mem_range.2 hi)
    rwa [List.getD_eq_getElem?_getD, List.getElem?_eq_getElem hi] at this
  · intro h k hk
    have hk := List.mem_range.1 hk
    rw [List.getD_eq_getElem?_getD, List.getElem?_eq_getElem hk]
    exact h _ (List.getElem_mem hk)
theorem apart_snoc (least : Int) (l : List Int) (p : Int) : apartB n ws least (l ++ [p]) = (apartB n ws least l && l.all fun x => !decide ((farN n ws p x : Int) < least)) := by
  unfold apartB
  rw [List.length_append, List.length_singleton, all_snoc]
  congr 1
  · refine all_congr' fun i hi => all_congr' fun k hk => ?_
    rw [getD_snoc_lt hi, getD_snoc_lt (Nat.lt_trans hk hi)]
  · rw [getD_snoc, ← range_all_mem l]
    exact all_congr' fun k hk => by rw [getD_snoc_lt hk]
/-! places that are shown -/
def lastLe (q : Option Int) (p : Int) : Bool := match q with
  | none => false
  | some x => decide (p ≤ x)
theorem ascE_cons (n : Int) (p : Int) (l : List Int) (q : Option Int) : ascE n (p :: l) q = bif !inR p 0 (n - 1) then 2 else bif lastLe q p then 7 else ascE n l (some p) := by
  cases q <;> rfl
def lastAt (pl : List Int) (i : Nat) (q : Option Int) : Prop := match q with
  | none => i = 0
  | some x => 0 < i ∧ pl.getD (i - 1) 0 = x
theorem last_le {pl : List Int} {i : Nat} {q : Option Int} (h : lastAt pl i q) (p : Int) : (decide (0 < i) && decide (p ≤ pl.getD (i - 1) 0)) = lastLe q p := by
  cases q with
  | none => rw [decide_eq_false (by unfold lastAt at h; omega)]; rfl
  | some x => rw [decide_eq_true h.1, h.2, Bool.true_and]; rfl
theorem proE_eq (n : Int) (g : List Int) (d : Int) (pl : List Int) : proE n g d pl = ascE n pl none := by
  have key : ∀ (l : List Int) (i : Nat) (q : Option Int) (b : Bool), pl.drop i = l → i ≤ pl.length → lastAt pl i q →
      (match Ev.foldX (fun i (near : Bool) p => bif err1 n pl i p == 0 then .inr (near || nearB g d p (pl.take i)) else .inl (err1 n pl i p, near, i)) i l b with | .inl (x : Int × Bool × Nat) => x.1 | .inr _ => 0) = ascE n l q := by
    intro l
    induction l with
    | nil => intro i q b _ _ _; rfl
    | cons p l ih =>
      intro i q b hd hi hq
      have hlt : i < pl.length := by
        refine Nat.lt_of_le_of_ne hi fun h => ?_
        rw [h, List.drop_length] at hd; cases hd
      rw [List.drop_eq_getElem_cons hlt] at hd
      injection hd with hp hl
      simp only [Ev.foldX, ascE_cons]
      have hg : pl.getD i 0 = p := by rw [List.getD_eq_getElem?_getD, List.getElem?_eq_getElem hlt]; exact hp
      have e1 := last_le hq p
      have e2 : err1 n pl i p = bif !inR p 0 (n - 1) then 2 else bif lastLe q p then 7 else 0 := by unfold err1; rw [e1]
      rw [e2]
      cases h1 : inR p 0 (n - 1) with
      | false => rfl
      | true =>
        simp only [Bool.not_true, cond_false]
        cases h2 : lastLe q p with
        | true => rfl
        | false => exact ih (i + 1) (some p) _ hl hlt ⟨by omega, by simpa using hg⟩
  exact key pl 0 none false (by simp) (by omega) rfl
theorem asc_in : ∀ {l : List Int} {q : Option Int}, ascE n l q = 0 → inP n l
  | [], _, _ => fun p hp => by cases hp
  | x :: l, q, h => by
    rw [ascE_cons] at h
    cases h1 : inR x 0 (n - 1) with
    | false => rw [h1] at h; cases h
    | true =>
      rw [h1] at h
      simp only [Bool.not_true, cond_false] at h
      cases h2 : lastLe q x with
      | true => rw [h2] at h; cases h
      | false =>
        rw [h2] at h
        have hx : 0 ≤ x ∧ x ≤ n - 1 := by simpa [inR] using h1
        intro p hp
        rcases List.mem_cons.1 hp with rfl | hp
        · omega
        · exact asc_in h p hp
theorem idx_far (h : Ok n ws) {a b d : Int} (ha : 0 ≤ a ∧ a < n) (hb : 0 ≤ b ∧ b < n) : idx9 (farI (ground n ws) a b) = (farN n ws a b : Int) := by
  obtain ⟨a, rfl⟩ := Int.eq_ofNat_of_zero_le ha.1
  obtain ⟨b, rfl⟩ := Int.eq_ofNat_of_zero_le hb.1
  obtain ⟨e1, e2⟩ := h.far ha.2 hb.2
  unfold idx9
  rw [e1, decide_eq_true e2]
  rfl
theorem near_eq (h : Ok n ws) {d p : Int} {l : List Int} (hp : 0 ≤ p ∧ p < n) (hl : inP n l) : nearB (ground n ws) d p l = !l.all fun x => !decide ((farN n ws p x : Int) < 2 * d - 1) := by
  rw [List.not_all_eq_any_not]
  unfold nearB
  have : ∀ l : List Int, inP n l → l.any (fun x => decide (idx9 (farI (ground n ws) p x) < 2 * d - 1)) = l.any fun x => !!decide ((farN n ws p x : Int) < 2 * d - 1) := by
    intro l
    induction l with
    | nil => intro _; rfl
    | cons x l ih => intro hl; rw [List.any_cons, List.any_cons, ih fun y hy => hl y (by simp [hy]), idx_far h (d := d) hp (hl x (by simp)), Bool.not_not]
  exact this l hl
theorem proN_eq (h : Ok n ws) {d : Int} {pl : List Int} (h0 : ascE n pl none = 0) : proN n (ground n ws) d pl = !apartB n ws (2 * d - 1) pl := by
  have hin := asc_in h0
  have he := proE_eq n (ground n ws) d pl
  rw [h0] at he
  have key : ∀ (l pre : List Int) (b : Bool), pre ++ l = pl → b = !apartB n ws (2 * d - 1) pre →
      (match Ev.foldX (fun i (near : Bool) p => bif err1 n pl i p == 0 then .inr (near || nearB (ground n ws) d p (pl.take i)) else .inl (err1 n pl i p, near, i)) pre.length l b with | .inl (x : Int × Bool × Nat) => x.1 | .inr _ => 0) = 0 →
      (match Ev.foldX (fun i (near : Bool) p => bif err1 n pl i p == 0 then .inr (near || nearB (ground n ws) d p (pl.take i)) else .inl (err1 n pl i p, near, i)) pre.length l b with | .inl (x : Int × Bool × Nat) => x.2.1 | .inr b => b) = !apartB n ws (2 * d - 1) pl := by
    intro l
    induction l with
    | nil => intro pre b hpl hb _; rw [List.append_nil] at hpl; subst hpl; exact hb
    | cons p l ih =>
      intro pre b hpl hb
      simp only [Ev.foldX]
      cases hz : err1 n pl pre.length p == 0 with
      | false =>
        simp only [cond_false]
        intro hz'
        rw [hz'] at hz; cases hz
      | true =>
        simp only [cond_true]
        have ht : pl.take pre.length = pre := by rw [← hpl]; simp
        have hpre : inP n pre := fun x hx => hin x (by rw [← hpl]; simp [hx])
        have hpp : 0 ≤ p ∧ p < n := hin p (by rw [← hpl]; simp)
        have := ih (pre ++ [p]) (b || nearB (ground n ws) d p (pl.take pre.length)) (by rw [← hpl]; simp) (by
          rw [ht, near_eq h hpp hpre, apart_snoc, hb, Bool.not_and])
        rw [List.length_append, List.length_singleton] at this
        exact this
  exact key pl [] false (by simp) rfl he
end Brn
