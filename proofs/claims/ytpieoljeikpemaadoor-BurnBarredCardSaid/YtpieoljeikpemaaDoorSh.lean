/- Roots, rows, and places that bar days: plain definitions. -/
import Derived.Test.YtpieoljeikpemaaDoorSp
set_option linter.unusedVariables false
set_option linter.unusedSimpArgs false
namespace Brn
open Go
def apartB (n : Int) (ws : W) (least : Int) (l : List Int) : Bool := (List.range l.length).all fun i => (List.range i).all fun k => !decide ((farN n ws (l.getD i 0) (l.getD k 0) : Int) < least)
def frm (l : List Int) : Int := match l.getLast? with
  | none => 0
  | some x => x + 1
def barF (ok : List Int → Bool) (n : Nat) : Nat → List Int → Option (List Int)
  | 0, l => some l
  | m + 1, l => ((List.range n).drop (frm l).toNat).findSome? fun (p : Nat) => bif ok (l ++ [(p : Int)]) then barF ok n m (l ++ [(p : Int)]) else none
def barR (n : Int) (ws : W) (least m : Int) (l : List Int) : Option (List Int) := barF (apartB n ws least) n.toNat m.toNat l
def gotten (o : Option (List Int)) : List Int := o.getD []
def nth (l : List Int) (i : Nat) : Int := l.getD i 0
def andN (x y : Int) : Int := IntKind.u64.wrap ((BitVec.ofInt 64 x &&& ~~~ BitVec.ofInt 64 y).toNat : Int)
def low (f : Int) : Int := andU f (f - 1)
def scanP (F : Int → Int → Option (List Int)) : Nat → Int → Option (List Int)
  | 0, _ => none
  | k + 1, f => bif f == 0 then none else match F (tz f.toNat : Int) f with
    | some x => some x
    | none => scanP F k (low f)
def apS (g : List Int) (r : Int) : Nat → List Int → Int → Option (List Int)
  | 0, l, _ => some l
  | m + 1, l, f => scanP (fun p c => apS g r m (l ++ [p]) (andN c (g.getD (r.toNat + p.toNat * 9) 0))) 512 f
def rad (d : Int) : Int := min (2 * d - 2) 8
def apG (g : List Int) (d : Int) (l : List Int) (f : Int) : Option (List Int) := apS g (rad d) (d + 1 - l.length).toNat l f
def scanF (F : Int → Int → Option (List Int)) : Nat → Int → Int
  | 0, f => f
  | k + 1, f => bif f == 0 then f else match F (tz f.toNat : Int) f with
    | some _ => f
    | none => scanF F k (low f)
def apLast (g : List Int) (d : Int) (l : List Int) (f : Int) : Int := match (d + 1 - l.length).toNat with
  | 0 => f
  | m + 1 => scanF (fun p c => apS g (rad d) m (l ++ [p]) (andN c (g.getD ((rad d).toNat + p.toNat * 9) 0))) 512 f
def barE (n : Int) (ws : W) (d : Int) : Int := bif chk n ws == 0 then (bif inR d 1 9 then (bif (barR n ws (2 * d - 1) (d + 1) []).isSome then 0 else 12) else 1) else chk n ws
def barV (n : Int) (ws : W) (d : Int) : List Int := bif chk n ws == 0 then (bif inR d 1 9 then gotten (barR n ws (2 * d - 1) (d + 1) []) else []) else []
def ascE (n : Int) : List Int → Option Int → Int
  | [], _ => 0
  | p :: l, q => bif !inR p 0 (n - 1) then 2 else bif (match q with | none => false | some x => decide (p ≤ x)) then 7 else ascE n l (some p)
def provE (n : Int) (ws : W) (d : Int) (pl : List Int) : Int :=
  bif chk n ws == 0 then (bif inR d 1 9 then (bif ascE n pl none == 0 then (bif decide ((pl.length : Int) ≤ d) || !apartB n ws (2 * d - 1) pl then 14 else 0) else ascE n pl none) else 1) else chk n ws
def err1 (n : Int) (pl : List Int) (i : Nat) (p : Int) : Int := bif !inR p 0 (n - 1) then 2 else bif decide (0 < i) && decide (p ≤ pl.getD (i - 1) 0) then 7 else 0
def nearB (g : List Int) (d p : Int) (l : List Int) : Bool := l.any fun x => decide (idx9 (farI g p x) < 2 * d - 1)
def proX (n : Int) (g : List Int) (d : Int) (pl : List Int) : Sum (Int × Bool × Nat) Bool := Ev.foldX (fun i (near : Bool) p => bif err1 n pl i p == 0 then .inr (near || nearB g d p (pl.take i)) else .inl (err1 n pl i p, near, i)) 0 pl false
def proE (n : Int) (g : List Int) (d : Int) (pl : List Int) : Int := match proX n g d pl with
  | .inl x => x.1
  | .inr _ => 0
def proN (n : Int) (g : List Int) (d : Int) (pl : List Int) : Bool := match proX n g d pl with
  | .inl x => x.2.1
  | .inr b => b
def proI (n : Int) (g : List Int) (d : Int) (pl : List Int) : Int := match proX n g d pl with
  | .inl x => x.2.2
  | .inr _ => pl.length
end Brn
namespace Brn
open Go
set_option linter.unusedVariables false
variable {n : Int} {ws : W}
theorem has_near (h : Ok n ws) {a b : Nat} (ha : (a : Int) < n) (hb : (b : Int) < n) (k : Nat) : has (near n ws a (k : Int)) b = R (adjB ws) n.toNat k a b := by
  rw [h.near ha, Bool.eq_iff_iff, has_iff, mem_fil, Int.toNat_natCast]
  exact ⟨fun x => x.2, fun x => ⟨⟨by omega, hb⟩, x⟩⟩
theorem far_lt (h : Ok n ws) {a b : Nat} (ha : (a : Int) < n) (hb : (b : Int) < n) (k : Nat) : decide ((farN n ws a b : Int) < ((k + 1 : Nat) : Int)) = R (adjB ws) n.toNat k a b := by
  have hf := (h.far ha hb).2
  have hhi := h.hi
  rw [Bool.eq_iff_iff, decide_eq_true_eq]
  constructor
  · intro hlt
    have hx : (List.range 10).findIdx (fun (k : Nat) => has (near n ws a (k : Int)) b) < (List.range 10).length := by rw [List.length_range]; exact Nat.lt_of_lt_of_le hf (by omega)
    have := List.findIdx_getElem (w := hx)
    simp only [List.getElem_range] at this
    rw [show (List.range 10).findIdx (fun (k : Nat) => has (near n ws a (k : Int)) b) = farN n ws a b from rfl, has_near h ha hb] at this
    exact R_mono (by omega) this
  · intro hr
    by_cases hk : k < 10
    · refine Int.lt_of_not_ge fun hge => ?_
      have := List.not_of_lt_findIdx (xs := List.range 10) (p := fun (k : Nat) => has (near n ws a (k : Int)) b) (i := k) (show k < farN n ws a b by omega)
      simp only [List.getElem_range] at this
      rw [has_near h ha hb, hr] at this
      cases this
    · omega
def inP (n : Int) (l : List Int) : Prop := ∀ p ∈ l, 0 ≤ p ∧ p < n
theorem far_lt' (h : Ok n ws) {a b d : Int} (ha : 0 ≤ a ∧ a < n) (hb : 0 ≤ b ∧ b < n) (hd : 1 ≤ d) : decide ((farN n ws a b : Int) < 2 * d - 1) = R (adjB ws) n.toNat (2 * d - 2).toNat a.toNat b.toNat := by
  obtain ⟨a, rfl⟩ := Int.eq_ofNat_of_zero_le ha.1
  obtain ⟨b, rfl⟩ := Int.eq_ofNat_of_zero_le hb.1
  have := far_lt h ha.2 hb.2 (2 * d - 2).toNat
  simp only [Int.toNat_natCast]
  rw [← this]
  rw [show (((2 * d - 2).toNat + 1 : Nat) : Int) = 2 * d - 1 by omega]
theorem far_rad (h : Ok n ws) {a b d : Int} (ha : 0 ≤ a ∧ a < n) (hb : 0 ≤ b ∧ b < n) (hd : 1 ≤ d) : R (adjB ws) n.toNat (2 * d - 2).toNat a.toNat b.toNat = R (adjB ws) n.toNat (rad d).toNat a.toNat b.toNat := by
  have hhi := h.hi
  unfold rad
  by_cases hc : 2 * d - 2 ≤ 8
  · rw [Int.min_eq_left hc]
  · rw [Int.min_eq_right (by omega)]
    rw [h.conn (by omega) (by omega) (by omega), h.conn (by omega) (by omega) (by omega)]
theorem ball_get (h : Ok n ws) {p : Nat} (hp : (p : Int) < n) {d : Int} (hd : 1 ≤ d) : (ground n ws).getD ((rad d).toNat + p * 9) 0 = ((mk (R (adjB ws) n.toNat (rad d).toNat p) 9 : Nat) : Int) :=
  ground_eq h.lo h.hi h.ways (k := (rad d).toNat) (p := p) (by unfold rad; omega) (by omega)
/-! bits -/
theorem low_mk : ∀ s, s < 512 → s ≠ 0 → s &&& (s - 1) = mk (fun i => s.testBit i && i != tz s) 9 := by decide +kernel
theorem low_eq {s : Nat} (h : s < 512) (h0 : s ≠ 0) : low (s : Int) = ((mk (fun i => s.testBit i && i != tz s) 9 : Nat) : Int) := by
  unfold low
  rw [show ((s : Int) - 1) = ((s - 1 : Nat) : Int) by omega, andU_nat (by omega) (by omega), low_mk s h h0]
theorem andN_eq {a b : Nat} (ha : a < 512) (hb : b < 512) : andN a b = ((mk (fun i => a.testBit i && !b.testBit i) 9 : Nat) : Int) := by
  unfold andN
  have e : (BitVec.ofInt 64 (a : Int) &&& ~~~ BitVec.ofInt 64 (b : Int)).toNat = mk (fun i => a.testBit i && !b.testBit i) 9 := by
    refine Nat.eq_of_testBit_eq fun i => ?_
    rw [testBit_mk, BitVec.ofInt_natCast, BitVec.ofInt_natCast, BitVec.testBit_toNat, BitVec.getLsbD_and, BitVec.getLsbD_not, BitVec.getLsbD_ofNat, BitVec.getLsbD_ofNat]
    by_cases hi : i < 9
    · have h64 : i < 64 := by omega
      simp [hi, h64]
    · have : a.testBit i = false := Nat.testBit_lt_two_pow (Nat.lt_of_lt_of_le ha (Nat.pow_le_pow_right (n := 2) (by omega) (show 9 ≤ i by omega)))
      simp [this]
  rw [e]
  have := mk_lt (fun i => a.testBit i && !b.testBit i) 9
  exact Ev.wrapu (by omega) (by omega)
theorem tz_first {T : Nat → Bool} {s : Nat} (hs : s < 9) (h : T s = true) (hlt : ∀ q, q < s → T q = false) : tz (mk T 9) = s ∧ mk T 9 ≠ 0 := by
  constructor
  · unfold tz
    refine findIdx_range hs (by rw [testBit_mk, decide_eq_true hs, h]; rfl) fun j hj => by rw [testBit_mk, hlt j hj, Bool.and_false]
  · intro h0
    have : (mk T 9).testBit s = true := by rw [testBit_mk, decide_eq_true hs, h]; rfl
    rw [h0] at this
    simp at this
def fromS (S : Nat → Bool) (s : Nat) : Nat := mk (fun q => S q && decide (s ≤ q)) 9
theorem scan_eq (S : Nat → Bool) (F : Int → Int → Option (List Int)) : ∀ (j s k : Nat), s + j = 9 → j < k → scanP F k ((fromS S s : Nat) : Int) = ((List.range 9).drop s).findSome? fun (p : Nat) => bif S p then F p ((fromS S p : Nat) : Int) else none
  | 0, s, k + 1, hs, hk => by
    obtain rfl : s = 9 := by omega
    have : fromS S 9 = 0 := by
      unfold fromS
      refine (mk_congr (g := fun _ => false) fun i hi => by rw [decide_eq_false (by omega), Bool.and_false]).trans (by decide)
    rw [this]
    rfl
  | j + 1, s, k + 1, hs, hk => by
    have hd : (List.range 9).drop s = s :: (List.range 9).drop (s + 1) := by
      rw [List.drop_eq_getElem_cons (by rw [List.length_range]; omega), List.getElem_range]
    rw [hd, List.findSome?_cons]
    cases hS : S s with
    | false =>
      have e : fromS S s = fromS S (s + 1) := mk_congr fun i hi => by
        by_cases hi' : i = s
        · subst hi'; rw [hS]; rfl
        · rw [show decide (s ≤ i) = decide (s + 1 ≤ i) by rw [decide_eq_decide]; omega]
      rw [e, scan_eq S F j (s + 1) (k + 1) (by omega) (by omega)]
      rfl
    | true =>
      have ht := tz_first (T := fun q => S q && decide (s ≤ q)) (s := s) (by omega) (by simp [hS]) (fun q hq => by rw [decide_eq_false (by omega), Bool.and_false])
      have hlt : fromS S s < 512 := mk_lt _ 9
      have hl : low ((fromS S s : Nat) : Int) = ((fromS S (s + 1) : Nat) : Int) := by
        rw [low_eq hlt ht.2]
        refine congrArg Int.ofNat (mk_congr fun i hi => ?_)
        rw [show tz (fromS S s) = s from ht.1]
        unfold fromS
        rw [testBit_mk, decide_eq_true hi, Bool.true_and, Bool.and_assoc]
        refine congrArg _ ?_
        rw [Bool.eq_iff_iff]
        simp
        omega
      have h0 : (((fromS S s : Nat) : Int) == 0) = false := by
        have := ht.2
        simp only [beq_eq_false_iff_ne, ne_eq]
        intro hz
        exact this (by exact Int.ofNat_eq_zero.1 hz)
      simp only [scanP, h0, cond_false, cond_true]
      rw [Int.toNat_natCast, show tz (fromS S s) = s from ht.1, hl]
      rw [scan_eq S F j (s + 1) k (by omega) (by omega)]
      cases F (s : Int) ((fromS S s : Nat) : Int) <;> rfl
end Brn
namespace Brn
open Go
set_option linter.unusedVariables false
variable {n : Int} {ws : W}
theorem findSome_congr {α β : Type} {f g : α → Option β} : ∀ {l : List α}, (∀ x ∈ l, f x = g x) → l.findSome? f = l.findSome? g
  | [], _ => rfl
  | x :: l, h => by rw [List.findSome?_cons, List.findSome?_cons, h x (by simp), findSome_congr fun y hy => h y (by simp [hy])]
theorem findSome_filter {α β : Type} (c : α → Bool) (G : α → Option β) : ∀ l : List α, l.findSome? (fun p => bif c p then G p else none) = (l.filter c).findSome? G
  | [] => rfl
  | x :: l => by
    rw [List.findSome?_cons, findSome_filter c G l]
    cases h : c x with
    | true => rw [List.filter_cons_of_pos h, List.findSome?_cons]; rfl
    | false => rw [List.filter_cons_of_neg (by simp [h])]; rfl
theorem drop_range (a : Nat) : ∀ m, (List.range m).drop a = (List.range m).filter fun p => decide (a ≤ p)
  | 0 => by simp
  | m + 1 => by
    rw [List.range_succ, List.filter_append, ← drop_range a m]
    by_cases h : a ≤ m
    · rw [List.drop_append_of_le_length (by simpa using h)]
      simp [h]
    · rw [List.drop_eq_nil_of_le (by simp; omega), List.drop_eq_nil_of_le (by simp; omega)]
      simp; omega
theorem findSome_places {β : Type} (hn : n ≤ 9) (a : Nat) (Q : Nat → Bool) (G : Nat → Option β) :
    (List.range 9).findSome? (fun (p : Nat) => bif (decide ((p : Int) < n) && decide (a ≤ p) && Q p) then G p else none) = ((List.range n.toNat).drop a).findSome? fun (p : Nat) => bif Q p then G p else none := by
  rw [findSome_filter, findSome_filter, drop_range, List.filter_filter]
  have : (List.range n.toNat).filter (fun p => Q p && decide (a ≤ p)) = (List.range n.toNat).filter fun (p : Nat) => (decide ((p : Int) < n) && decide (a ≤ p) && Q p) :=
    List.filter_congr fun p hp => by
      have := List.mem_range.1 hp
      rw [decide_eq_true (show (p : Int) < n by omega), Bool.true_and, Bool.and_comm]
  rw [this, filter_range (n := n.toNat) (fun v hv => by
    simp only [Bool.and_eq_true, decide_eq_true_eq] at hv; omega) 9 (by omega)]
theorem all_snoc {n : Nat} (f : Nat → Bool) : (List.range (n + 1)).all f = ((List.range n).all f && f n) := by
  rw [List.range_succ, List.all_append]; simp
theorem all_congr' {f g : Nat → Bool} {m : Nat} (h : ∀ i, i < m → f i = g i) : (List.range m).all f = (List.range m).all g := by
  have : ∀ l : List Nat, (∀ i ∈ l, i < m) → l.all f = l.all g := by
    intro l
    induction l with
    | nil => intros; rfl
    | cons x l ih => intro hl; rw [List.all_cons, List.all_cons, h x (hl x (by simp)), ih fun i hi => hl i (by simp [hi])]
  exact this _ fun i hi => List.mem_range.1 hi
theorem getD_snoc_lt {l : List Int} {p : Int} {i : Nat} (h : i < l.length) : (l ++ [p]).getD i 0 = l.getD i 0 := by
  simp [List.getD_eq_getElem?_getD, List.getElem?_append_left h]
theorem getD_snoc {l : List Int} {p : Int} : (l ++ [p]).getD l.length 0 = p := by
  simp [List.getD_eq_getElem?_getD]
theorem range_all_mem (l : List Int) (f : Int → Bool) : (List.range l.length).all (fun k => f (l.getD k 0)) = l.all f := by
  rw [Bool.eq_iff_iff, List.all_eq_true, List.all_eq_true]
  constructor
  · intro h x hx
    obtain ⟨i, hi, rfl⟩ := List.getElem_of_mem hx
    have := h i (List.mem_range.2 hi)
    rwa [List.getD_eq_getElem?_getD, List.getElem?_eq_getElem hi] at this
  · intro h k hk
    have hk := List.mem_range.1 hk
    rw [List.getD_eq_getElem?_getD, List.getElem?_eq_getElem hk]
    exact h _ (List.getElem_mem hk)
theorem apart_snoc (least : Int) (l : List Int) (p : Int) : apartB n ws least (l ++ [p]) = (apartB n ws least l && l.all fun x => !decide ((farN n ws p x : Int) < least)) := by
  unfold apartB
  rw [List.length_append, List.length_singleton, all_snoc]
  congr 1
  · refine all_congr' fun i hi => all_congr' fun k hk => ?_
    rw [getD_snoc_lt hi, getD_snoc_lt (Nat.lt_trans hk hi)]
  · rw [getD_snoc, ← range_all_mem l]
    exact all_congr' fun k hk => by rw [getD_snoc_lt hk]
def freeS (n : Int) (ws : W) (d : Int) (l : List Int) (q : Nat) : Bool := decide ((q : Int) < n) && decide ((frm l).toNat ≤ q) && l.all fun x => !R (adjB ws) n.toNat (rad d).toNat q x.toNat
theorem frm_snoc (l : List Int) (p : Int) : frm (l ++ [p]) = p + 1 := by unfold frm; simp
theorem ap_eq (h : Ok n ws) {d : Int} (hd : 1 ≤ d) : ∀ (m : Nat) (l : List Int), inP n l → apartB n ws (2 * d - 1) l = true →
    apS (ground n ws) (rad d) m l ((mk (freeS n ws d l) 9 : Nat) : Int) = barF (apartB n ws (2 * d - 1)) n.toNat m l
  | 0, l, _, _ => rfl
  | m + 1, l, hl, hap => by
    have hhi := h.hi
    have e0 : mk (freeS n ws d l) 9 = fromS (freeS n ws d l) 0 := mk_congr fun i _ => by simp
    simp only [apS, barF]
    rw [e0, scan_eq (freeS n ws d l) _ 9 0 512 (by omega) (by omega), List.drop_zero]
    rw [← findSome_places hhi (frm l).toNat (fun (p : Nat) => apartB n ws (2 * d - 1) (l ++ [(p : Int)]))]
    refine findSome_congr fun p hp => ?_
    have hp9 := List.mem_range.1 hp
    by_cases hpn : (p : Int) < n
    · have hpr : inP n (l ++ [(p : Int)]) := fun x hx => by
        rcases List.mem_append.1 hx with hx | hx
        · exact hl x hx
        · rw [List.mem_singleton] at hx; subst hx; omega
      have hfar : ∀ x ∈ l, decide ((farN n ws (p : Int) x : Int) < 2 * d - 1) = R (adjB ws) n.toNat (rad d).toNat p x.toNat := fun x hx => by
        rw [far_lt' h (by omega) (hl x hx) hd, far_rad h (by omega) (hl x hx) hd, Int.toNat_natCast]
      have eS : freeS n ws d l p = (decide ((p : Int) < n) && decide ((frm l).toNat ≤ p) && apartB n ws (2 * d - 1) (l ++ [(p : Int)])) := by
        unfold freeS
        rw [apart_snoc, hap, Bool.true_and]
        refine congrArg _ ?_
        rw [Bool.eq_iff_iff, List.all_eq_true, List.all_eq_true]
        constructor
        · intro hx x hx'; rw [hfar x hx']; exact hx x hx'
        · intro hx x hx'; rw [← hfar x hx']; exact hx x hx'
      rw [← eS]
      cases hS : freeS n ws d l p with
      | false => rfl
      | true =>
        have hap' : apartB n ws (2 * d - 1) (l ++ [(p : Int)]) = true := by
          rw [hS] at eS
          exact (Bool.and_eq_true _ _ ▸ eS.symm).2
        simp only [cond_true]
        rw [← ap_eq h hd m (l ++ [(p : Int)]) hpr hap', Int.toNat_natCast, ball_get h hpn hd]
        have hfl : fromS (freeS n ws d l) p < 512 := mk_lt _ 9
        rw [andN_eq hfl (mk9_lt _)]
        refine congrArg (fun x : Nat => apS (ground n ws) (rad d) m (l ++ [(p : Int)]) (x : Int)) (mk_congr fun q hq => ?_)
        unfold fromS
        rw [testBit_mk, testBit_mk, decide_eq_true hq, Bool.true_and, Bool.true_and]
        have hfp : (frm l).toNat ≤ p := by
          unfold freeS at hS
          simp only [Bool.and_eq_true, decide_eq_true_eq] at hS
          exact hS.1.2
        have hpp : R (adjB ws) n.toNat (rad d).toNat p p = true := R_mono (Nat.zero_le _) (R_zero.2 rfl)
        unfold freeS
        rw [frm_snoc, List.all_append]
        by_cases hqn : (q : Int) < n
        · have hsym : R (adjB ws) n.toNat (rad d).toNat p q = R (adjB ws) n.toNat (rad d).toNat q p := by
            rw [Bool.eq_iff_iff]
            exact ⟨R_symm (adjB_symm ws) (by omega) (by omega), R_symm (adjB_symm ws) (by omega) (by omega)⟩
          rw [decide_eq_true hqn, hsym]
          simp only [Bool.true_and, List.all_cons, List.all_nil, Bool.and_true, Int.toNat_natCast]
          by_cases hqp : q = p
          · subst hqp
            rw [hpp]; simp
          · by_cases hpq : p ≤ q
            · rw [decide_eq_true hpq, decide_eq_true (show (frm l).toNat ≤ q by omega), decide_eq_true (show ((p : Int) + 1).toNat ≤ q by omega)]
              simp
            · rw [decide_eq_false hpq, decide_eq_false (show ¬ ((p : Int) + 1).toNat ≤ q by omega)]
              simp
        · rw [decide_eq_false hqn]; rfl
    · have : freeS n ws d l p = false := by unfold freeS; rw [decide_eq_false hpn]; rfl
      rw [this, decide_eq_false hpn]; rfl
theorem free_nil (h : Ok n ws) (d : Int) : ((mk (freeS n ws d []) 9 : Nat) : Int) = allN n := by
  have hhi := h.hi
  have hlo := h.lo
  unfold allN
  have : mk (freeS n ws d []) 9 = 2 ^ n.toNat - 1 := (mk_all (n := n.toNat) (by omega) (fun v hv => by
    unfold freeS at hv
    simp only [Bool.and_eq_true, decide_eq_true_eq] at hv
    omega)).2 fun v hv => by
      unfold freeS
      rw [decide_eq_true (show (v : Int) < n by omega)]
      simp [frm]
  rw [this]
theorem bar_eq (h : Ok n ws) {d : Int} (hd : 1 ≤ d) : apG (ground n ws) d [] (allN n) = barR n ws (2 * d - 1) (d + 1) [] := by
  unfold apG barR
  rw [← free_nil h d, ap_eq h hd _ [] (fun p hp => by cases hp) rfl]
  rw [show d + 1 - (([] : List Int).length : Nat) = d + 1 by simp]
/-! places that are shown -/
def lastLe (q : Option Int) (p : Int) : Bool := match q with
  | none => false
  | some x => decide (p ≤ x)
theorem ascE_cons (n : Int) (p : Int) (l : List Int) (q : Option Int) : ascE n (p :: l) q = bif !inR p 0 (n - 1) then 2 else bif lastLe q p then 7 else ascE n l (some p) := by
  cases q <;> rfl
def lastAt (pl : List Int) (i : Nat) (q : Option Int) : Prop := match q with
  | none => i = 0
  | some x => 0 < i ∧ pl.getD (i - 1) 0 = x
theorem last_le {pl : List Int} {i : Nat} {q : Option Int} (h : lastAt pl i q) (p : Int) : (decide (0 < i) && decide (p ≤ pl.getD (i - 1) 0)) = lastLe q p := by
  cases q with
  | none => rw [decide_eq_false (by unfold lastAt at h; omega)]; rfl
  | some x => rw [decide_eq_true h.1, h.2, Bool.true_and]; rfl
theorem proE_eq (n : Int) (g : List Int) (d : Int) (pl : List Int) : proE n g d pl = ascE n pl none := by
  have key : ∀ (l : List Int) (i : Nat) (q : Option Int) (b : Bool), pl.drop i = l → i ≤ pl.length → lastAt pl i q →
      (match Ev.foldX (fun i (near : Bool) p => bif err1 n pl i p == 0 then .inr (near || nearB g d p (pl.take i)) else .inl (err1 n pl i p, near, i)) i l b with | .inl (x : Int × Bool × Nat) => x.1 | .inr _ => 0) = ascE n l q := by
    intro l
    induction l with
    | nil => intro i q b _ _ _; rfl
    | cons p l ih =>
      intro i q b hd hi hq
      have hlt : i < pl.length := by
        refine Nat.lt_of_le_of_ne hi fun h => ?_
        rw [h, List.drop_length] at hd; cases hd
      rw [List.drop_eq_getElem_cons hlt] at hd
      injection hd with hp hl
      simp only [Ev.foldX, ascE_cons]
      have hg : pl.getD i 0 = p := by rw [List.getD_eq_getElem?_getD, List.getElem?_eq_getElem hlt]; exact hp
      have e1 := last_le hq p
      have e2 : err1 n pl i p = bif !inR p 0 (n - 1) then 2 else bif lastLe q p then 7 else 0 := by unfold err1; rw [e1]
      rw [e2]
      cases h1 : inR p 0 (n - 1) with
      | false => rfl
      | true =>
        simp only [Bool.not_true, cond_false]
        cases h2 : lastLe q p with
        | true => rfl
        | false => exact ih (i + 1) (some p) _ hl hlt ⟨by omega, by simpa using hg⟩
  exact key pl 0 none false (by simp) (by omega) rfl
theorem asc_in : ∀ {l : List Int} {q : Option Int}, ascE n l q = 0 → inP n l
  | [], _, _ => fun p hp => by cases hp
  | x :: l, q, h => by
    rw [ascE_cons] at h
    cases h1 : inR x 0 (n - 1) with
    | false => rw [h1] at h; cases h
    | true =>
      rw [h1] at h
      simp only [Bool.not_true, cond_false] at h
      cases h2 : lastLe q x with
      | true => rw [h2] at h; cases h
      | false =>
        rw [h2] at h
        have hx : 0 ≤ x ∧ x ≤ n - 1 := by simpa [inR] using h1
        intro p hp
        rcases List.mem_cons.1 hp with rfl | hp
        · omega
        · exact asc_in h p hp
theorem idx_far (h : Ok n ws) {a b d : Int} (ha : 0 ≤ a ∧ a < n) (hb : 0 ≤ b ∧ b < n) : idx9 (farI (ground n ws) a b) = (farN n ws a b : Int) := by
  obtain ⟨a, rfl⟩ := Int.eq_ofNat_of_zero_le ha.1
  obtain ⟨b, rfl⟩ := Int.eq_ofNat_of_zero_le hb.1
  obtain ⟨e1, e2⟩ := h.far ha.2 hb.2
  unfold idx9
  rw [e1, decide_eq_true e2]
  rfl
theorem near_eq (h : Ok n ws) {d p : Int} {l : List Int} (hp : 0 ≤ p ∧ p < n) (hl : inP n l) : nearB (ground n ws) d p l = !l.all fun x => !decide ((farN n ws p x : Int) < 2 * d - 1) := by
  rw [List.not_all_eq_any_not]
  unfold nearB
  have : ∀ l : List Int, inP n l → l.any (fun x => decide (idx9 (farI (ground n ws) p x) < 2 * d - 1)) = l.any fun x => !!decide ((farN n ws p x : Int) < 2 * d - 1) := by
    intro l
    induction l with
    | nil => intro _; rfl
    | cons x l ih => intro hl; rw [List.any_cons, List.any_cons, ih fun y hy => hl y (by simp [hy]), idx_far h (d := d) hp (hl x (by simp)), Bool.not_not]
  exact this l hl
theorem proN_eq (h : Ok n ws) {d : Int} {pl : List Int} (h0 : ascE n pl none = 0) : proN n (ground n ws) d pl = !apartB n ws (2 * d - 1) pl := by
  have hin := asc_in h0
  have he := proE_eq n (ground n ws) d pl
  rw [h0] at he
  have key : ∀ (l pre : List Int) (b : Bool), pre ++ l = pl → b = !apartB n ws (2 * d - 1) pre →
      (match Ev.foldX (fun i (near : Bool) p => bif err1 n pl i p == 0 then .inr (near || nearB (ground n ws) d p (pl.take i)) else .inl (err1 n pl i p, near, i)) pre.length l b with | .inl (x : Int × Bool × Nat) => x.1 | .inr _ => 0) = 0 →
      (match Ev.foldX (fun i (near : Bool) p => bif err1 n pl i p == 0 then .inr (near || nearB (ground n ws) d p (pl.take i)) else .inl (err1 n pl i p, near, i)) pre.length l b with | .inl (x : Int × Bool × Nat) => x.2.1 | .inr b => b) = !apartB n ws (2 * d - 1) pl := by
    intro l
    induction l with
    | nil => intro pre b hpl hb _; rw [List.append_nil] at hpl; subst hpl; exact hb
    | cons p l ih =>
      intro pre b hpl hb
      simp only [Ev.foldX]
      cases hz : err1 n pl pre.length p == 0 with
      | false =>
        simp only [cond_false]
        intro hz'
        rw [hz'] at hz; cases hz
      | true =>
        simp only [cond_true]
        have ht : pl.take pre.length = pre := by rw [← hpl]; simp
        have hpre : inP n pre := fun x hx => hin x (by rw [← hpl]; simp [hx])
        have hpp : 0 ≤ p ∧ p < n := hin p (by rw [← hpl]; simp)
        have := ih (pre ++ [p]) (b || nearB (ground n ws) d p (pl.take pre.length)) (by rw [← hpl]; simp) (by
          rw [ht, near_eq h hpp hpre, apart_snoc, hb, Bool.not_and])
        rw [List.length_append, List.length_singleton] at this
        exact this
  exact key pl [] false (by simp) rfl he
end Brn
