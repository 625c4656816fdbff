/- What the search of the burn chapter comes to: plain definitions. -/
import Derived.Test.YtpieoljeikpemaaDoorSa
namespace Brn
open Go
def putF (P : List Int → Int → Int → List Int → Bool × Int × List Int) (g : List Int) (l : Nat) (fs : List Int) (b : Int) (i : Nat) (s : Int × List Int) (p : Nat) : Sum (Nat × Int × List Int) (Int × List Int) :=
  bif (P (fs ++ [(p : Int)]) (orU b (g.getD (l + p * 9) 0)) s.1 s.2).1 then .inr (P (fs ++ [(p : Int)]) (orU b (g.getD (l + p * 9) 0)) s.1 s.2).2 else .inl (i, (P (fs ++ [(p : Int)]) (orU b (g.getD (l + p * 9) 0)) s.1 s.2).2)
def outX : Sum (Nat × Int × List Int) (Int × List Int) → Bool × Int × List Int
  | .inl x => (false, x.2)
  | .inr x => (true, x)
def putS (n : Nat) (g : List Int) (all : Int) (many : Bool) : Nat → List Int → Int → Int → List Int → Bool × Int × List Int
  | 0, fs, b, c, f => bif b != all then (true, c, f) else (many, c + 1, bif c + 1 == 1 then fs else f)
  | l + 1, fs, b, c, f => outX (Ev.foldX (putF (putS n g all many l) g l fs b) 0 (List.range n) (c, f))
def putX (n : Nat) (g : List Int) (all : Int) (many : Bool) (l : Nat) (fs : List Int) (b c : Int) (f : List Int) : Sum (Nat × Int × List Int) (Int × List Int) := Ev.foldX (putF (putS n g all many l) g l fs b) 0 (List.range n) (c, f)
def xStop : Sum (Nat × Int × List Int) (Int × List Int) → Bool
  | .inl _ => true
  | .inr _ => false
def xIdx : Sum (Nat × Int × List Int) (Int × List Int) → Int
  | .inl x => x.1
  | .inr _ => 0
def xSt : Sum (Nat × Int × List Int) (Int × List Int) → Int × List Int
  | .inl x => x.2
  | .inr x => x
def capOK (cnt left : Int) : Bool := decide (0 ≤ cnt) && decide (cnt + ((9 ^ left.toNat : Nat) : Int) ≤ 1000000000000000000)
structure Fair (m : Nat) (fs : List Int) (c : Int) (f : List Int) (r : Int × List Int) : Prop where
  lo : c ≤ r.1
  hi : r.1 ≤ c + (m : Int)
  keep : 0 < c → r.2 = f
  pos : (f ≠ [] → 0 < c) → r.2 ≠ [] → 0 < r.1
theorem foldX_fair {P : List Int → Int → Int → List Int → Bool × Int × List Int} {g : List Int} {l m : Nat} {fs : List Int} {b : Int} (hP : ∀ p : Nat, ∀ b c f, 0 ≤ c → Fair m (fs ++ [(p : Int)]) c f (P (fs ++ [(p : Int)]) b c f).2) :
    ∀ (ps : List Nat) (i : Nat) (c : Int) (f : List Int), 0 ≤ c → Fair (ps.length * m) fs c f (xSt (Ev.foldX (putF P g l fs b) i ps (c, f)))
  | [], i, c, f, h => ⟨Int.le_refl _, by simp [Ev.foldX, xSt], fun _ => rfl, fun h1 h2 => h1 h2⟩
  | p :: ps, i, c, f, h => by
    simp only [Ev.foldX]
    have h1 := hP p (orU b (g.getD (l + p * 9) 0)) c f h
    generalize hr : P (fs ++ [(p : Int)]) (orU b (g.getD (l + p * 9) 0)) c f = r at h1
    have e : putF P g l fs b i (c, f) p = bif r.1 then .inr r.2 else .inl (i, r.2) := by unfold putF; simp only [hr]
    have hm : ((p :: ps).length * m : Nat) = ps.length * m + m := by rw [List.length_cons, Nat.succ_mul]
    rw [e, hm]
    obtain ⟨a1, a2, a3, a4⟩ := h1
    cases hx : r.1 with
    | false =>
      simp only [cond_false, xSt]
      exact ⟨a1, by push_cast; have : (0 : Int) ≤ ((ps.length * m : Nat) : Int) := Int.natCast_nonneg _; push_cast at this; omega, a3, a4⟩
    | true =>
      simp only [cond_true]
      have hq := foldX_fair (g := g) (l := l) (b := b) hP ps (i + 1) r.2.1 r.2.2 (by omega)
      rw [show (r.2.1, r.2.2) = r.2 from rfl] at hq
      obtain ⟨b1, b2, b3, b4⟩ := hq
      refine ⟨Int.le_trans a1 b1, by push_cast at b2 ⊢; omega, fun hc => ?_, fun hf h2 => b4 (fun h3 => a4 hf h3) h2⟩
      rw [b3 (by omega), a3 hc]
theorem putS_fair {n : Nat} (hn : n ≤ 9) {g : List Int} {all : Int} {many : Bool} : ∀ (l : Nat) (fs : List Int) (b c : Int) (f : List Int), 0 ≤ c → fs ≠ [] → Fair (9 ^ l) fs c f (putS n g all many l fs b c f).2
  | 0, fs, b, c, f, h, hfs => by
    simp only [putS]
    cases b != all with
    | true => exact ⟨Int.le_refl _, by simp; omega, fun _ => rfl, fun h1 h2 => h1 h2⟩
    | false =>
      simp only [cond_false]
      refine ⟨by show c ≤ c + 1; omega, by show c + 1 ≤ _; simp, fun hc => ?_, fun _ _ => by show 0 < c + 1; omega⟩
      have : (c + 1 == 1) = false := by simp; omega
      show (bif c + 1 == 1 then fs else f) = f
      rw [this]; rfl
  | l + 1, fs, b, c, f, h, hfs => by
    have hx : ∀ x : Sum (Nat × Int × List Int) (Int × List Int), (outX x).2 = xSt x := fun x => by cases x <;> rfl
    simp only [putS]
    rw [hx]
    have := foldX_fair (P := putS n g all many l) (g := g) (l := l) (fs := fs) (b := b) (fun p b c f hc => putS_fair (g := g) (all := all) (many := many) hn l (fs ++ [(p : Int)]) b c f hc (by simp)) (List.range n) 0 c f h
    obtain ⟨a1, a2, a3, a4⟩ := this
    refine ⟨a1, ?_, a3, a4⟩
    rw [List.length_range] at a2
    have : n * 9 ^ l ≤ 9 ^ (l + 1) := by rw [Nat.pow_succ, Nat.mul_comm (9 ^ l)]; exact Nat.mul_le_mul_right _ hn
    omega
end Brn
namespace Brn
open Go
def exts (n : Nat) : Nat → List Int → List (List Int)
  | 0, fs => [fs]
  | l + 1, fs => (List.range n).flatMap fun (p : Nat) => exts n l (fs ++ [(p : Int)])
theorem mem_exts {n : Nat} : ∀ {l : Nat} {fs x : List Int}, x ∈ exts n l fs ↔ ∃ t : List Nat, t.length = l ∧ (∀ p ∈ t, p < n) ∧ x = fs ++ t.map Int.ofNat
  | 0, fs, x => by
    simp only [exts, List.mem_singleton, List.length_eq_zero_iff]
    constructor
    · rintro rfl; exact ⟨[], rfl, by simp, by simp⟩
    · rintro ⟨t, rfl, _, rfl⟩; simp
  | l + 1, fs, x => by
    simp only [exts, List.mem_flatMap, List.mem_range, mem_exts (l := l)]
    constructor
    · rintro ⟨p, hp, t, h1, h2, rfl⟩
      refine ⟨p :: t, by simp [h1], ?_, by simp⟩
      intro q hq
      rcases List.mem_cons.1 hq with rfl | hq
      · exact hp
      · exact h2 q hq
    · rintro ⟨t, h1, h2, rfl⟩
      cases t with
      | nil => simp at h1
      | cons p t => exact ⟨p, h2 p (by simp), t, by simpa using h1, fun q hq => h2 q (by simp [hq]), by simp⟩
theorem exts_len {n l : Nat} {fs x : List Int} (h : x ∈ exts n l fs) : x.length = fs.length + l := by
  obtain ⟨t, h1, _, rfl⟩ := mem_exts.1 h
  simp [h1]
theorem exts_rng {n l : Nat} {x : List Int} (h : x ∈ exts n l []) : ∀ p ∈ x, 0 ≤ p ∧ p < (n : Int) := by
  obtain ⟨t, _, h2, rfl⟩ := mem_exts.1 h
  intro p hp
  simp only [List.nil_append, List.mem_map] at hp
  obtain ⟨q, hq, rfl⟩ := hp
  have := h2 q hq
  exact ⟨Int.natCast_nonneg q, by show (q : Int) < n; omega⟩
def upd (s : Int × List Int) (x : List Int) : Int × List Int := (s.1 + 1, bif s.1 + 1 == 1 then x else s.2)
def runL (many : Bool) : List (List Int) → Int × List Int → Bool × Int × List Int
  | [], s => (true, s)
  | x :: l, s => bif many then runL many l (upd s x) else (false, upd s x)
theorem runL_append (many : Bool) : ∀ (a b : List (List Int)) (s : Int × List Int), runL many (a ++ b) s = bif (runL many a s).1 then runL many b (runL many a s).2 else runL many a s
  | [], b, s => rfl
  | x :: a, b, s => by
    simp only [List.cons_append, runL]
    cases many with
    | true => simp only [cond_true]; exact runL_append true a b _
    | false => rfl
def onB (size : Nat) (g : List Int) (fs : List Int) : Int := (List.range fs.length).foldl (fun s i => orU s (g.getD ((size - 1 - i) + (fs.getD i 0).toNat * 9) 0)) 0
theorem onB_snoc (size : Nat) (g fs : List Int) (p : Nat) {l : Nat} (h : fs.length + (l + 1) = size) : onB size g (fs ++ [(p : Int)]) = orU (onB size g fs) (g.getD (l + p * 9) 0) := by
  unfold onB
  rw [List.length_append, List.length_singleton, List.range_succ, List.foldl_append]
  simp only [List.foldl_cons, List.foldl_nil]
  have e : ∀ (l : List Nat) (a : Int), (∀ i ∈ l, i < fs.length) → l.foldl (fun s i => orU s (g.getD ((size - 1 - i) + ((fs ++ [(p : Int)]).getD i 0).toNat * 9) 0)) a = l.foldl (fun s i => orU s (g.getD ((size - 1 - i) + (fs.getD i 0).toNat * 9) 0)) a := by
    intro l
    induction l with
    | nil => intros; rfl
    | cons i l ih =>
      intro a hl
      simp only [List.foldl_cons]
      rw [ih _ fun j hj => hl j (by simp [hj])]
      have hi := hl i (by simp)
      rw [show (fs ++ [(p : Int)]).getD i 0 = fs.getD i 0 by simp [List.getD_eq_getElem?_getD, List.getElem?_append_left hi]]
  rw [e _ _ fun i hi => List.mem_range.1 hi]
  rw [show (fs ++ [(p : Int)]).getD fs.length 0 = (p : Int) by simp [List.getD_eq_getElem?_getD], Int.toNat_natCast, show size - 1 - fs.length = l by omega]
theorem onB_full (g fs : List Int) (h : 0 < fs.length) : onB fs.length g fs = onP g fs (fs.length - 1) := by
  unfold onB onP
  rw [show fs.length - 1 + 1 = fs.length by omega]
theorem putS_eq (n : Nat) (g : List Int) (all : Int) (many : Bool) (size : Nat) : ∀ (l : Nat) (fs : List Int) (c : Int) (f : List Int), fs.length + l = size →
    putS n g all many l fs (onB size g fs) c f = runL many ((exts n l fs).filter fun x => onB size g x == all) (c, f)
  | 0, fs, c, f, h => by
    simp only [putS, exts]
    cases hb : onB size g fs == all with
    | true =>
      rw [show (onB size g fs != all) = false by simp [bne, hb], List.filter_cons_of_pos (by simpa using hb)]
      simp only [List.filter_nil, runL, cond_false, upd]
      cases many <;> rfl
    | false =>
      rw [show (onB size g fs != all) = true by simp [bne, hb], List.filter_cons_of_neg (by simp [hb])]
      rfl
  | l + 1, fs, c, f, h => by
    simp only [putS, exts]
    have main : ∀ (ps : List Nat) (i : Nat) (s : Int × List Int), outX (Ev.foldX (putF (putS n g all many l) g l fs (onB size g fs)) i ps s) = runL many ((ps.flatMap fun (p : Nat) => exts n l (fs ++ [(p : Int)])).filter fun x => onB size g x == all) s := by
      intro ps
      induction ps with
      | nil => intro i s; rfl
      | cons p ps ih =>
        intro i s
        have e := putS_eq n g all many size l (fs ++ [(p : Int)]) s.1 s.2 (by simp; omega)
        rw [onB_snoc size g fs p h] at e
        simp only [Ev.foldX, putF, e, List.flatMap_cons, List.filter_append]
        rw [runL_append]
        rw [show (s.1, s.2) = s from rfl]
        generalize runL many ((exts n l (fs ++ [(p : Int)])).filter fun x => onB size g x == all) s = r
        obtain ⟨r1, r2⟩ := r
        cases r1 with
        | true => exact ih _ _
        | false => rfl
    exact main _ _ _
theorem runL_many : ∀ (L : List (List Int)) (c : Int) (f : List Int), 0 ≤ c → runL true L (c, f) = (true, c + L.length, bif c == 0 then (match L with | [] => f | x :: _ => x) else f)
  | [], c, f, h => by simp [runL]
  | x :: L, c, f, h => by
    simp only [runL, cond_true, upd]
    rw [runL_many L (c + 1) _ (by omega)]
    have e : (c + 1 == 0) = false := by simp; omega
    rw [e]
    simp only [cond_false, List.length_cons]
    refine Prod.ext rfl (Prod.ext (by push_cast; omega) ?_)
    show (bif c + 1 == 1 then x else f) = _
    rw [show (c + 1 == 1) = (c == 0) by rw [Bool.eq_iff_iff]; simp; omega]
def found (many : Bool) (L : List (List Int)) : Int := bif many then L.length else (bif L.isEmpty then 0 else 1)
def headL (L : List (List Int)) : List Int := match L with
  | [] => []
  | x :: _ => x
theorem runL_found (many : Bool) (L : List (List Int)) : (runL many L (0, [])).2 = (found many L, headL L) := by
  cases many with
  | true =>
    rw [runL_many L 0 [] (by omega)]
    simp only [found, cond_true, Int.zero_add, headL]
    rfl
  | false => cases L <;> rfl
end Brn
namespace Brn
open Go
def enB (n : Int) (ws : W) (fs : List Int) : Bool := decide (((fs.foldl (dayNext n ws) []).length : Int) = n)
def solsF (n : Int) (ws : W) (l : Int) (fs : List Int) : List (List Int) := (exts n.toNat l.toNat fs).filter (enB n ws)
def sols (n : Int) (ws : W) (l : Int) : List (List Int) := solsF n ws l []
def dd (n : Int) (ws : W) : Nat := (List.range 9).findIdx (fun (k : Nat) => !(sols n ws ((k + 1 : Nat) : Int)).isEmpty) + 1
def best (n : Int) (ws : W) : List (List Int) := sols n ws (dd n ws : Nat)
def srch (n : Int) (g : List Int) (many : Bool) (size : Int) : Int × List Int := (putS n.toNat g (allN n) many size.toNat [] 0 0 []).2
def dayN (n : Int) (g : List Int) (many : Bool) : Nat := (List.range 9).findIdx fun (k : Nat) => decide ((srch n g many ((k + 1 : Nat) : Int)).1 > 0)
def dayP (n : Int) (g : List Int) (many : Bool) : Int := ((dayN n g many + 1 : Nat) : Int)
def askC (n : Int) (g : List Int) (kind : Int) : Int := bif kind == 0 then dayP n g (kind == 2) else (srch n g (kind == 2) (dayP n g (kind == 2))).1
def fewV (n : Int) (ws : W) : List Int := bif chk n ws == 0 then headL (best n ws) else []
def askV (n : Int) (ws : W) (kind : Int) : Int := bif chk n ws == 0 then (bif kind == 0 then (dd n ws : Int) else found (kind == 2) (best n ws)) else 0
def dayV (n : Int) (ws : W) : Int := bif chk n ws == 0 then (dd n ws : Int) else 0
end Brn
namespace Brn
open Go
variable {n : Int} {ws : W}
theorem enB_on (h : Ok n ws) {x : List Int} (hx : ∀ p ∈ x, 0 ≤ p ∧ p < n) (hl : x.length ≤ 9) (h0 : 0 < x.length) : (onB x.length (ground n ws) x == allN n) = enB n ws x := by
  have e := enough_eq h hx hl h0
  rw [onB_full _ _ h0]
  unfold enB
  unfold bne at e
  rw [Bool.not_inj_iff] at e
  exact e
theorem sols_on (h : Ok n ws) {m : Nat} (h1 : 1 ≤ m) (h9 : m ≤ 9) : (exts n.toNat m []).filter (fun x => onB m (ground n ws) x == allN n) = sols n ws (m : Int) := by
  unfold sols solsF
  rw [Int.toNat_natCast]
  refine List.filter_congr fun x hx => ?_
  have hl := exts_len hx
  simp only [List.length_nil, Nat.zero_add] at hl
  have hlo := h.lo
  have := enB_on h (x := x) (fun p hp => by have := exts_rng hx p hp; omega) (by omega) (by omega)
  rw [← this, hl]
theorem srch_eq (h : Ok n ws) {m : Nat} (h1 : 1 ≤ m) (h9 : m ≤ 9) (many : Bool) : srch n (ground n ws) many (m : Int) = (found many (sols n ws (m : Int)), headL (sols n ws (m : Int))) := by
  unfold srch
  rw [Int.toNat_natCast]
  have e := putS_eq n.toNat (ground n ws) (allN n) many m m [] 0 [] (by simp)
  rw [show onB m (ground n ws) [] = 0 from rfl] at e
  rw [e, sols_on h h1 h9, runL_found]
theorem sols_all (h : Ok n ws) : sols n ws n ≠ [] := by
  have hlo := h.lo
  have hhi := h.hi
  have hl : (irange n).length = n.toNat := irange_len n
  have hm : irange n ∈ sols n ws n := by
    unfold sols solsF
    rw [List.mem_filter]
    refine ⟨mem_exts.2 ⟨List.range n.toNat, by simp, fun p hp => List.mem_range.1 hp, by simp [irange]⟩, ?_⟩
    unfold enB
    rw [decide_eq_true_eq]
    have hr : ∀ p ∈ irange n, 0 ≤ p ∧ p < n := fun p hp => mem_irange.1 hp
    have e := day_fil h hr ((irange n).length - 1) (by omega)
    rw [show (irange n).length - 1 + 1 = (irange n).length by omega, List.take_length] at e
    rw [e]
    have hle : ((fil n (bSet (adjB ws) n.toNat (irange n) ((irange n).length - 1))).length : Int) ≤ n := by
      have := List.length_filter_le (fun v => bSet (adjB ws) n.toNat (irange n) ((irange n).length - 1) v.toNat) (irange n)
      unfold fil
      omega
    have hge : ¬ ((fil n (bSet (adjB ws) n.toNat (irange n) ((irange n).length - 1))).length : Int) < n := by
      rw [fil_len]
      rintro ⟨v, hv, hb⟩
      have : bSet (adjB ws) n.toNat (irange n) ((irange n).length - 1) v = true := by
        unfold bSet
        rw [List.any_eq_true]
        refine ⟨v, List.mem_range.2 (by omega), ?_⟩
        have hg : (irange n).getD v 0 = (v : Int) := by
          rw [List.getD_eq_getElem?_getD]
          simp only [irange, List.getElem?_map]
          rw [List.getElem?_range (by omega)]
          rfl
        rw [hg, Int.toNat_natCast]
        exact R_mono (Nat.zero_le _) (R_zero.2 rfl)
      rw [this] at hb; cases hb
    omega
  intro h0
  rw [h0] at hm
  cases hm
theorem isEmpty_f {α : Type} {l : List α} : (!l.isEmpty) = true ↔ l ≠ [] := by cases l <;> simp
theorem dd_spec (h : Ok n ws) : 1 ≤ dd n ws ∧ (dd n ws : Int) ≤ n ∧ best n ws ≠ [] ∧ ∀ m : Nat, 1 ≤ m → m < dd n ws → sols n ws (m : Int) = [] := by
  have hlo := h.lo
  have hhi := h.hi
  have hx : (List.range 9).findIdx (fun (k : Nat) => !(sols n ws ((k + 1 : Nat) : Int)).isEmpty) ≤ n.toNat - 1 := by
    refine Nat.not_lt.1 fun hlt => ?_
    have := List.not_of_lt_findIdx hlt
    simp only [List.getElem_range] at this
    rw [show ((n.toNat - 1 + 1 : Nat) : Int) = n by omega] at this
    rw [isEmpty_f.2 (sols_all h)] at this
    simp at this
  refine ⟨by unfold dd; omega, by unfold dd; omega, ?_, fun m h1 hm => ?_⟩
  · have hlt : (List.range 9).findIdx (fun (k : Nat) => !(sols n ws ((k + 1 : Nat) : Int)).isEmpty) < (List.range 9).length := by rw [List.length_range]; omega
    have := List.findIdx_getElem (w := hlt)
    simp only [List.getElem_range] at this
    exact isEmpty_f.1 this
  · have := List.not_of_lt_findIdx (xs := List.range 9) (p := fun (k : Nat) => !(sols n ws ((k + 1 : Nat) : Int)).isEmpty) (i := m - 1) (by unfold dd at hm; omega)
    simp only [List.getElem_range] at this
    rw [show m - 1 + 1 = m by omega] at this
    simpa using this
theorem found_pos (many : Bool) (L : List (List Int)) : decide (found many L > 0) = !L.isEmpty := by
  cases many <;> cases L <;> simp [found]
theorem dayN_eq (h : Ok n ws) (many : Bool) : dayN n (ground n ws) many = dd n ws - 1 ∧ dayP n (ground n ws) many = (dd n ws : Int) := by
  have e : dayN n (ground n ws) many = dd n ws - 1 := by
    unfold dayN dd
    rw [Nat.add_sub_cancel]
    have : ∀ (ks : List Nat), (∀ k ∈ ks, k < 9) → ks.findIdx (fun (k : Nat) => decide ((srch n (ground n ws) many ((k + 1 : Nat) : Int)).1 > 0)) = ks.findIdx (fun (k : Nat) => !(sols n ws ((k + 1 : Nat) : Int)).isEmpty) := by
      intro ks
      induction ks with
      | nil => intro _; rfl
      | cons k ks ih =>
        intro hk
        have h9 := hk k (by simp)
        rw [List.findIdx_cons, List.findIdx_cons, ih fun j hj => hk j (by simp [hj]), srch_eq h (m := k + 1) (by omega) (by omega), found_pos]
    exact this _ fun k hk => List.mem_range.1 hk
  obtain ⟨h1, _⟩ := dd_spec h
  exact ⟨e, by unfold dayP; omega⟩
theorem head_len (h : Ok n ws) : (headL (best n ws)).length = dd n ws := by
  obtain ⟨_, _, h3, _⟩ := dd_spec h
  cases hb : best n ws with
  | nil => exact absurd hb h3
  | cons x l =>
    have hx : x ∈ best n ws := by rw [hb]; simp
    unfold best sols solsF at hx
    rw [List.mem_filter] at hx
    have := exts_len hx.1
    simpa [headL] using this
theorem asked_eq (h : Ok n ws) (kind : Int) : askC n (ground n ws) kind = (bif kind == 0 then (dd n ws : Int) else found (kind == 2) (best n ws)) ∧ (srch n (ground n ws) (kind == 2) (dayP n (ground n ws) (kind == 2))).2 = headL (best n ws) := by
  obtain ⟨h1, h2, _⟩ := dd_spec h
  have hhi := h.hi
  have e := (dayN_eq h (kind == 2)).2
  unfold askC
  rw [e, srch_eq h h1 (by omega)]
  exact ⟨rfl, rfl⟩
theorem filter_flatMap {α β : Type} (q : β → Bool) (f : α → List β) : ∀ l : List α, (l.flatMap f).filter q = l.flatMap fun x => (f x).filter q
  | [] => rfl
  | x :: l => by simp only [List.flatMap_cons, List.filter_append, filter_flatMap q f l]
theorem exts_count {n : Nat} (hn : n ≤ 9) : ∀ (l : Nat) (fs : List Int), (exts n l fs).length ≤ 9 ^ l
  | 0, fs => by simp [exts]
  | l + 1, fs => by
    simp only [exts]
    have main : ∀ ps : List Nat, (ps.flatMap fun (p : Nat) => exts n l (fs ++ [(p : Int)])).length ≤ ps.length * 9 ^ l := by
      intro ps
      induction ps with
      | nil => simp
      | cons p ps ih =>
        rw [List.flatMap_cons, List.length_append, List.length_cons, Nat.succ_mul]
        have := exts_count hn l (fs ++ [(p : Int)])
        omega
    have := main (List.range n)
    rw [List.length_range] at this
    have h2 : n * 9 ^ l ≤ 9 ^ (l + 1) := by rw [Nat.pow_succ, Nat.mul_comm (9 ^ l)]; exact Nat.mul_le_mul_right _ hn
    omega
end Brn
