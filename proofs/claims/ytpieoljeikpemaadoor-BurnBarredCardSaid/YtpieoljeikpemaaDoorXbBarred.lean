/- BurnBarred: places that bar days, the longest way, and the middle: plain. -/
import Derived.Test.YtpieoljeikpemaaDoorOj
import Derived.Test.YtpieoljeikpemaaDoorOa
import Derived.Test.YtpieoljeikpemaaDoorXaBarred
import Derived.Test.YtpieoljeikpemaaDoorOd
set_option linter.unusedVariables false
set_option linter.unusedSimpArgs false
namespace Brn
open Go
set_option linter.unusedVariables false
variable {n : Int} {ws : W}
theorem pigeon : ∀ (m k : Nat) (f : Nat → Nat), (∀ i, i < k → f i < m) → (∀ i j, i < k → j < k → f i = f j → i = j) → k ≤ m
  | 0, k, f, h, _ => by
    rcases Nat.eq_zero_or_pos k with e | e
    · omega
    · exact absurd (h 0 e) (by omega)
  | m + 1, k, f, h, hi => by
    by_cases hx : ∃ i, i < k ∧ f i = m
    · obtain ⟨x, hx, hxm⟩ := hx
      have := pigeon m (k - 1) (fun i => if i < x then f i else f (i + 1)) (fun i hik => by
        by_cases c : i < x
        · rw [if_pos c]
          have a := h i (by omega)
          have : f i ≠ m := fun e => by have := hi i x (by omega) hx (by omega); omega
          omega
        · rw [if_neg c]
          have a := h (i + 1) (by omega)
          have : f (i + 1) ≠ m := fun e => by have := hi (i + 1) x (by omega) hx (by omega); omega
          omega) (fun i j hik hjk e => by
        by_cases c : i < x <;> by_cases d : j < x
        · rw [if_pos c, if_pos d] at e; exact hi i j (by omega) (by omega) e
        · rw [if_pos c, if_neg d] at e; have := hi i (j + 1) (by omega) (by omega) e; omega
        · rw [if_neg c, if_pos d] at e; have := hi (i + 1) j (by omega) (by omega) e; omega
        · rw [if_neg c, if_neg d] at e; have := hi (i + 1) (j + 1) (by omega) (by omega) e; omega)
      omega
    · have := pigeon m k f (fun i hik => by
        have a := h i hik
        have : f i ≠ m := fun e => hx ⟨i, hik, e⟩
        omega) hi
      omega
theorem far_le (h : Ok n ws) {a b : Nat} (ha : (a : Int) < n) (hb : (b : Int) < n) (k : Nat) : farN n ws a b ≤ k ↔ R (adjB ws) n.toNat k a b = true := by
  rw [← far_lt h ha hb k, decide_eq_true_eq]
  omega
theorem best_fires (h : Ok n ws) : ∃ fs : List Int, fs.length = dd n ws ∧ (∀ p ∈ fs, 0 ≤ p ∧ p < n) ∧ ∀ v : Nat, v < n.toNat → ∃ i, i < dd n ws ∧ R (adjB ws) n.toNat (dd n ws - 1 - i) (fs.getD i 0).toNat v = true := by
  obtain ⟨b1, b2, b3⟩ := best_in h
  obtain ⟨d1, _, _, _⟩ := dd_spec h
  refine ⟨headL (best n ws), b2, b1, fun v hv => ?_⟩
  have := (enB_iff h b1 (by omega)).1 b3 v hv
  obtain ⟨i, hi, hr⟩ := (bSet_iff _ _ _ _ _).1 this
  rw [b2] at hi hr
  exact ⟨i, by omega, hr⟩
theorem apart_more (h : Ok n ws) {d : Nat} {l : List Int} (hl : ∀ p ∈ l, 0 ≤ p ∧ p < n) (hd : 1 ≤ d) (hlen : d < l.length) (ha : apartB n ws (2 * (d : Int) - 1) l = true) : d < dd n ws := by
  rcases Nat.lt_or_ge d (dd n ws) with hlt | hge
  · exact hlt
  exfalso
  obtain ⟨fs, f1, f2, f3⟩ := best_fires h
  have hlo := h.lo
  have hg : ∀ a, a < l.length → 0 ≤ l.getD a 0 ∧ l.getD a 0 < n := fun a ha => getD_lt hl ha
  have hc : ∀ a, ∃ i, a < l.length → i < dd n ws ∧ R (adjB ws) n.toNat (dd n ws - 1 - i) (fs.getD i 0).toNat (l.getD a 0).toNat = true := fun a => by
    by_cases c : a < l.length
    · obtain ⟨i, h1, h2⟩ := f3 (l.getD a 0).toNat (by have := hg a c; omega)
      exact ⟨i, fun _ => ⟨h1, h2⟩⟩
    · exact ⟨0, fun x => absurd x c⟩
  have key : ∀ a b, a < l.length → b < a → Classical.choose (hc a) ≠ Classical.choose (hc b) := fun a b haa hba e => by
    obtain ⟨i1, r1⟩ := Classical.choose_spec (hc a) haa
    obtain ⟨i2, r2⟩ := Classical.choose_spec (hc b) (by omega)
    rw [← e] at r2 i2
    generalize Classical.choose (hc a) = i at *
    have ga := hg a haa
    have gb := hg b (by omega)
    have gf := getD_lt f2 (i := i) (by omega)
    have r1' := R_symm (adjB_symm ws) (p := (fs.getD i 0).toNat) (v := (l.getD a 0).toNat) (by omega) (by omega) r1
    have r3 := R_mono (k := 2 * d - 2) (by omega) (R_trans r1' r2)
    have hfar := (far_le h (a := (l.getD a 0).toNat) (b := (l.getD b 0).toNat) (by omega) (by omega) _).2 r3
    unfold apartB at ha
    rw [List.all_eq_true] at ha
    have h1 := ha a (List.mem_range.2 haa)
    rw [List.all_eq_true] at h1
    have h2 := h1 b (List.mem_range.2 hba)
    rw [show (((l.getD a 0).toNat : Nat) : Int) = l.getD a 0 by omega, show (((l.getD b 0).toNat : Nat) : Int) = l.getD b 0 by omega] at hfar
    rw [decide_eq_true (show (farN n ws (l.getD a 0) (l.getD b 0) : Int) < 2 * (d : Int) - 1 by omega)] at h2
    cases h2
  have := pigeon (dd n ws) l.length (fun a => Classical.choose (hc a)) (fun a ha => (Classical.choose_spec (hc a) ha).1) (fun i j hi hj e => by
    rcases Nat.lt_trichotomy i j with c | c | c
    · exact absurd e.symm (key j i hj c)
    · exact c
    · exact absurd e (key i j hi c))
  omega
theorem level (h : Ok n ws) {a : Nat} (ha : (a : Int) < n) : ∀ (t : Nat) {v : Nat}, (v : Int) < n → t ≤ farN n ws a v → ∃ u : Nat, (u : Int) < n ∧ farN n ws a u = t := by
  have main : ∀ (k t : Nat) {v : Nat}, (v : Int) < n → farN n ws a v = t + k → ∃ u : Nat, (u : Int) < n ∧ farN n ws a u = t := by
    intro k
    induction k with
    | zero => intro t v hv he; exact ⟨v, hv, he⟩
    | succ k ih =>
      intro t v hv he
      have hr := (far_le h ha hv (t + k + 1)).1 (by omega)
      rcases (R_last' (by omega) (by omega)).1 hr with h1 | ⟨u, hu, h1, h2⟩
      · have := (far_le h ha hv (t + k)).2 h1; omega
      · have hu' : (u : Int) < n := by omega
        have le1 := (far_le h ha hu' (t + k)).2 h1
        have : farN n ws a u = t + k := by
          rcases Nat.lt_or_ge (farN n ws a u) (t + k) with c | c
          · exfalso
            have h3 := (far_le h ha hu' (t + k - 1)).1 (by omega)
            have h4 := (R_last' (adj := adjB ws) (k := t + k - 1) (show a < n.toNat by omega) (show v < n.toNat by omega)).2 (.inr ⟨u, hu, h3, h2⟩)
            rw [show t + k - 1 + 1 = t + k by omega] at h4
            have := (far_le h ha hv (t + k)).2 h4
            omega
          · omega
        exact ih t hu' this
  intro t v hv he
  exact main (farN n ws a v - t) t hv (by omega)
theorem sq_lt {r s : Nat} (h : r < s) : r * r + 2 * r < s * s := by
  have : (r + 1) * (r + 1) ≤ s * s := Nat.mul_le_mul h h
  have e : (r + 1) * (r + 1) = r * r + 2 * r + 1 := by rw [Nat.succ_mul, Nat.mul_succ]; omega
  omega
theorem long_way (h : Ok n ws) {a b : Nat} (ha : (a : Int) < n) (hb : (b : Int) < n) : farN n ws a b + 1 ≤ dd n ws * dd n ws := by
  obtain ⟨fs, f1, f2, f3⟩ := best_fires h
  have hlo := h.lo
  obtain ⟨D, hD⟩ : ∃ D, D = farN n ws a b := ⟨_, rfl⟩
  rw [← hD]
  have hv : ∀ t, ∃ v : Nat, ∃ i : Nat, t ≤ D → (v : Int) < n ∧ farN n ws a v = t ∧ i < dd n ws ∧ R (adjB ws) n.toNat (dd n ws - 1 - i) (fs.getD i 0).toNat v = true := fun t => by
    by_cases c : t ≤ D
    · obtain ⟨v, hv, he⟩ := level h ha t hb (by omega)
      obtain ⟨i, h1, h2⟩ := f3 v (by omega)
      exact ⟨v, i, fun _ => ⟨hv, he, h1, h2⟩⟩
    · exact ⟨0, 0, fun x => absurd x c⟩
  obtain ⟨V, hV⟩ := Classical.axiomOfChoice hv
  obtain ⟨I, hI⟩ := Classical.axiomOfChoice hV
  -- places near one fire are not far from one another
  have near : ∀ t u, t ≤ D → u ≤ D → I t = I u → u ≤ t + 2 * (dd n ws - 1 - I t) := fun t u ht hu e => by
    obtain ⟨a1, a2, a3, a4⟩ := hI t ht
    obtain ⟨b1, b2, b3, b4⟩ := hI u hu
    rw [← e] at b4
    have gf := getD_lt f2 (i := I t) (by omega)
    have r1 := R_symm (adjB_symm ws) (p := (fs.getD (I t) 0).toNat) (v := V t) (by omega) (by omega) a4
    have r2 := R_trans ((far_le h ha a1 t).1 (by omega)) (R_trans r1 b4)
    have := (far_le h ha b1 _).2 r2
    omega
  let P : Nat → Nat → Bool := fun i u => decide (I u = i)
  let lo : Nat → Nat := fun t => (List.range (D + 1)).findIdx (P (I t))
  have hlo1 : ∀ t, t ≤ D → lo t ≤ t ∧ I (lo t) = I t := fun t ht => by
    have hx : (List.range (D + 1)).findIdx (P (I t)) < (List.range (D + 1)).length := List.findIdx_lt_length_of_exists ⟨t, List.mem_range.2 (by omega), decide_eq_true rfl⟩
    have h1 := List.findIdx_getElem (w := hx)
    simp only [List.getElem_range] at h1
    refine ⟨?_, of_decide_eq_true h1⟩
    rcases Nat.lt_or_ge t (lo t) with c | c
    · have := List.not_of_lt_findIdx (xs := List.range (D + 1)) (p := P (I t)) (i := t) c
      simp only [List.getElem_range] at this
      exact absurd this (by simp [P])
    · exact c
  have hoff : ∀ t, t ≤ D → t - lo t ≤ 2 * (dd n ws - 1 - I t) := fun t ht => by
    obtain ⟨h1, h2⟩ := hlo1 t ht
    have := near (lo t) t (by omega) ht h2
    rw [h2] at this
    omega
  refine pigeon _ _ (fun t => (dd n ws - 1 - I t) * (dd n ws - 1 - I t) + (t - lo t)) (fun t ht => ?_) (fun t u ht hu e => ?_)
  · have h1 := hoff t (by omega)
    have h2 := (hI t (by omega)).2.2.1
    have := sq_lt (show dd n ws - 1 - I t < dd n ws by omega)
    omega
  · have h1 := hoff t (by omega)
    have h2 := hoff u (by omega)
    have a3 := (hI t (by omega)).2.2.1
    have b3 := (hI u (by omega)).2.2.1
    rcases Nat.lt_trichotomy (dd n ws - 1 - I t) (dd n ws - 1 - I u) with c | c | c
    · have := sq_lt c; omega
    · have e2 : I t = I u := by omega
      have l1 := hlo1 t (by omega)
      have l2 := hlo1 u (by omega)
      have e3 : lo t = lo u := by show (List.range (D + 1)).findIdx (P (I t)) = (List.range (D + 1)).findIdx (P (I u)); rw [e2]
      rw [c] at e
      omega
    · have := sq_lt c; omega
theorem one_place (h : Ok n ws) {c e : Nat} (hc : (c : Int) < n) (he : ∀ v : Nat, (v : Int) < n → farN n ws c v ≤ e) (h8 : e ≤ 8) : dd n ws ≤ e + 1 := by
  obtain ⟨d1, d2, d3, d4⟩ := dd_spec h
  have hlo := h.lo
  rcases Nat.lt_or_ge (e + 1) (dd n ws) with hlt | hge
  · exfalso
    have := d4 (e + 1) (by omega) hlt
    have hm : (List.replicate (e + 1) c).map Int.ofNat ∈ sols n ws ((e + 1 : Nat) : Int) := by
      unfold sols solsF
      rw [List.mem_filter, Int.toNat_natCast]
      have hin : ∀ p ∈ (List.replicate (e + 1) c).map Int.ofNat, 0 ≤ p ∧ p < n := fun p hp => by
        obtain ⟨q, hq, rfl⟩ := List.mem_map.1 hp
        obtain rfl := List.eq_of_mem_replicate hq
        exact ⟨Int.natCast_nonneg _, hc⟩
      refine ⟨mem_exts.2 ⟨List.replicate (e + 1) c, List.length_replicate, fun p hp => by obtain rfl := List.eq_of_mem_replicate hp; omega, by simp⟩, ?_⟩
      refine (enB_iff h hin (by simp)).2 fun v hv => (bSet_iff _ _ _ _ _).2 ⟨0, by omega, ?_⟩
      rw [show ((List.replicate (e + 1) c).map Int.ofNat).getD 0 0 = (c : Int) from rfl, Int.toNat_natCast, List.length_map, List.length_replicate]
      exact (far_le h hc (by omega) _).1 (by have := he v (by omega); omega)
    rw [this] at hm
    cases hm
  · exact hge
end Brn
namespace Brn
open Go
set_option linter.unusedVariables false
variable {n : Int} {ws : W}
structure Kr (m : Nat) (ws kept : W) (lab : Nat → Nat) : Prop where
  sub : ∀ w ∈ kept, w ∈ ws
  nd : kept.Nodup
  lt : ∀ x, x < m → lab x < m
  idem : ∀ x, x < m → lab (lab x) = lab x
  cnt : kept.length + ((List.range m).filter fun x => decide (lab x = x)).length = m
  con : ∀ x y, x < m → y < m → lab x = lab y → ∃ k, R (adjB kept) m k x y = true
  ends : ∀ w ∈ kept, lab w.1.toNat = lab w.2.toNat
theorem Kr.start (m : Nat) (ws : W) : Kr m ws [] id :=
  ⟨fun w hw => (by cases hw), List.nodup_nil, fun x hx => hx, fun x _ => rfl, (by
    rw [List.filter_eq_self.2 (fun (x : Nat) _ => (decide_eq_true rfl : decide (id x = x) = true))]; simp), fun x y hx hy e => ⟨0, R_zero.2 e⟩, fun w hw => by cases hw⟩
theorem Kr.tree {m : Nat} (hm : 0 < m) {kept : W} {lab : Nat → Nat} (h : Kr m ws kept lab) (he : ∀ w ∈ ws, lab w.1.toNat = lab w.2.toNat) (hc : ∀ v, v < m → ∃ k, R (adjB ws) m k 0 v = true) :
    kept.length + 1 = m ∧ ∀ v, v < m → ∃ k, R (adjB kept) m k 0 v = true := by
  have all : ∀ v, v < m → lab v = lab 0 := fun v hv => by
    obtain ⟨k, r⟩ := hc v hv
    have := closed_all (adj := adjB ws) (m := m) (S := fun x => decide (lab x = lab 0)) (fun u v hu hv hs ha => by
      rw [decide_eq_true_eq] at hs ⊢
      rw [← hs]
      rcases adj_iff.1 ha with h1 | h1
      · have := he _ h1; simpa using this.symm
      · have := he _ h1; simpa using this) k 0 v hm hv (decide_eq_true rfl) r
    exact of_decide_eq_true this
  refine ⟨?_, fun v hv => h.con 0 v hm hv (all v hv).symm⟩
  have e : ((List.range m).filter fun x => decide (lab x = x)) = [lab 0] := by
    have : ((List.range m).filter fun x => decide (lab x = x)) = (List.range m).filter fun v => lab 0 == v := by
      refine List.filter_congr fun x hx => ?_
      rw [all x (List.mem_range.1 hx), Bool.eq_iff_iff, decide_eq_true_eq, beq_iff_eq]
    rw [this, range_one, if_pos (h.lt 0 hm)]
  have := h.cnt
  rw [e, List.length_singleton] at this
  exact this
end Brn
namespace Brn
open Go
set_option linter.unusedVariables false
variable {n : Int} {ws : W}
end Brn
namespace Brn
open Go
set_option linter.unusedVariables false
variable {n : Int} {ws : W}
def maxL : List Int → Int
  | [] => 0
  | x :: l => l.foldl max x
theorem fold_max_ge : ∀ (l : List Int) (x : Int), x ≤ l.foldl max x ∧ ∀ y ∈ l, y ≤ l.foldl max x
  | [], x => ⟨Int.le_refl _, fun y hy => by cases hy⟩
  | z :: l, x => by
    obtain ⟨h1, h2⟩ := fold_max_ge l (max x z)
    rw [List.foldl_cons]
    refine ⟨by omega, fun y hy => ?_⟩
    rcases List.mem_cons.1 hy with rfl | hy
    · omega
    · exact h2 y hy
theorem fold_max_mem : ∀ (l : List Int) (x : Int), l.foldl max x = x ∨ l.foldl max x ∈ l
  | [], x => .inl rfl
  | z :: l, x => by
    rw [List.foldl_cons]
    rcases fold_max_mem l (max x z) with h | h
    · by_cases c : x ≤ z
      · right; rw [h, Int.max_eq_right c]; simp
      · left; rw [h]; omega
    · right; exact List.mem_cons_of_mem _ h
theorem le_maxL {l : List Int} {x : Int} (h : x ∈ l) : x ≤ maxL l := by
  cases l with
  | nil => cases h
  | cons y l =>
    rcases List.mem_cons.1 h with rfl | h
    · exact (fold_max_ge l x).1
    · exact (fold_max_ge l y).2 x h
theorem maxL_mem {l : List Int} (h : l ≠ []) : maxL l ∈ l := by
  cases l with
  | nil => exact absurd rfl h
  | cons y l =>
    rcases fold_max_mem l y with h | h
    · show l.foldl max y ∈ _
      rw [h]; simp
    · exact List.mem_cons_of_mem _ h
def joined (n : Int) (ws : W) : Bool := (List.range n.toNat).all fun v => R (adjB ws) n.toNat n.toNat 0 v
end Brn
namespace Go.Ev.Burn
open Go Go.Ev
set_option maxRecDepth 1000000
set_option maxHeartbeats 0
set_option linter.unusedVariables false
abbrev qI (n : Int) : Row := ⟨[.sc (.int .i64 n)], true, 3, false, false, none⟩
abbrev qN : Row := ⟨[.sc (.slice none 0 0)], true, 25, false, false, none⟩
abbrev qS (l : List Int) : Row := ⟨[.sl (.int .i64) l false], true, 25, false, false, none⟩
abbrev qP : Row := ⟨[.fn (.func 56) [] [.ps 0 0 0 0, .ps 1 0 0 0, .ps 2 0 0 0, .ps 3 0 0 0, .ps 4 0 0 0]], true, 88, false, true, none⟩
abbrev f58 : AV := .fn (.func 58) [] [.ps 0 0 0 0, .ps 1 0 0 0, .ps 2 0 0 0]
noncomputable def V0 : Tab := { C4 with nest := true, flat := true, refm := fun f => match f with | 56 => [1, 2, 3, 4, 5] | 57 => [1] | 90 => [1] | 58 => [1, 2, 3] | f => C4.refm f }
theorem nf58 (q p a : Int) (D : List Int) : evBody V0 58 [vi q, ps 0, ps 1, ps 2] [some (rD D), some (qI p), some (qI a)] = (bif decide (0 ≤ p) then bif decide (p < (↑9 : Int)) then bif decide (0 ≤ q) then bif decide (q < (↑9 : Int)) then oM D[q.toNat + p.toNat * 9]? fun x => some (vb (decide (x < IntKind.i64.wrap (IntKind.i64.wrap (2 * a) - 1))), [some ⟨[.run (.int .i64) D], true, 74, false, false, none⟩, some ⟨[vi p], true, 3, false, false, none⟩, some ⟨[vi a], true, 3, false, false, none⟩]) else none else none else none else none) := by kernel_rfl
def _root_.Brn.near1 (D : List Int) (p a q : Int) : Bool := decide (Brn.at9 D p.toNat q.toNat < 2 * a - 1)
def c58t (q p a : Int) (D : List Int) : Tree (AV × Hp) := .br (decide (0 ≤ q) && decide (q < 9) && decide (0 ≤ p) && decide (p < 9) && decide (1 ≤ a) && decide (a ≤ 9) && decide (D.length = 81)) (.leaf (vb (Brn.near1 D p a q), [some (rD D), some (qI p), some (qI a)])) .fail
def c58 (args : List AV) (H : Hp) : Tree (AV × Hp) := match args, H with
  | [(.sc (.int .i64 q)), (.ps 0 0 0 0), (.ps 1 0 0 0), (.ps 2 0 0 0)], [some ⟨[.run (.int .i64) D], true, 74, false, false, none⟩, some ⟨[.sc (.int .i64 p)], true, 3, false, false, none⟩, some ⟨[.sc (.int .i64 a)], true, 3, false, false, none⟩] => c58t q p a D
  | _, _ => .fail
theorem c58_ok {T : Tab} (hT : TabOK T) (h : ∀ (q p a : Int) (D : List Int) (r : AV × Hp), (c58t q p a D).val = some r → evBody T 58 [vi q, ps 0, ps 1, ps 2] [some (rD D), some (qI p), some (qI a)] = some r) : ∀ args H v H', (c58 args H).val = some (v, H') → CallOK T 58 args H v H' := by
  intro args H v H' hv
  unfold c58 at hv
  split at hv
  · exact evBody_sound hT (h _ _ _ _ _ hv)
  · cases hv
noncomputable def V1 : Tab := (V0).addCall 58 c58
theorem nl90 (again : Ag) (p a i k : Int) (D l : List Int) : lpStep V1 90 2 3 (lpc V1 90 2) again [lI l, f58, vi 0, vi k, vi i] [some (rD D), some (qI p), some (qI a)] = (bif decide (i < k) then bif decide (0 ≤ i) then bif decide (i < (↑l.length : Int)) then oM l[i.toNat]? fun x => bif decide (0 ≤ x) && decide (x < 9) && decide (0 ≤ p) && decide (p < 9) && decide (1 ≤ a) && decide (a ≤ 9) && decide (D.length = 81) then bif Brn.near1 D p a x then some (.ret, [.sl (.int .i64) l false, .fn (Go.Fn.func 58) [] [.ps 0 0 0 0, .ps 1 0 0 0, .ps 2 0 0 0], vi i, vi k, vi i], [some ⟨[.run (.int .i64) D], true, 74, false, false, none⟩, some ⟨[vi p], true, 3, false, false, none⟩, some ⟨[vi a], true, 3, false, false, none⟩]) else again [.sl (.int .i64) l false, .fn (Go.Fn.func 58) [] [.ps 0 0 0 0, .ps 1 0 0 0, .ps 2 0 0 0], vi 0, vi k, vi (IntKind.i64.wrap (i + 1))] [some ⟨[.run (.int .i64) D], true, 74, false, false, none⟩, some ⟨[vi p], true, 3, false, false, none⟩, some ⟨[vi a], true, 3, false, false, none⟩] else none else none else none else some (.ext 0, [.sl (.int .i64) l false, .fn (Go.Fn.func 58) [] [.ps 0 0 0 0, .ps 1 0 0 0, .ps 2 0 0 0], vi 0, vi k, vi i], [some ⟨[.run (.int .i64) D], true, 74, false, false, none⟩, some ⟨[vi p], true, 3, false, false, none⟩, some ⟨[vi a], true, 3, false, false, none⟩])) := by kernel_rfl
def l90_2t (p a k : Int) (D l : List Int) : Tree (Out × List AV × Hp) := .br (decide (k = (l.length : Int)) && sm l && Brn.in9 l && decide (0 ≤ p) && decide (p < 9) && decide (1 ≤ a) && decide (a ≤ 9) && decide (D.length = 81)) (.br (l.any (Brn.near1 D p a)) (.leaf (.ret, [lI l, f58, vi (l.findIdx (Brn.near1 D p a)), vi k, vi (l.findIdx (Brn.near1 D p a))], [some (rD D), some (qI p), some (qI a)])) (.leaf (.ext 0, [lI l, f58, vi 0, vi k, vi k], [some (rD D), some (qI p), some (qI a)]))) .fail
def l90_2 (base : Nat) (kv : List AV) (H : Hp) : Tree (Out × List AV × Hp) := match Nat.beq base 3, kv, H with
  | true, [(.sl (.int .i64) l false), (.fn (.func 58) [] [.ps 0 0 0 0, .ps 1 0 0 0, .ps 2 0 0 0]), (.sc (.int .i64 0)), (.sc (.int .i64 k)), (.sc (.int .i64 0))], [some ⟨[.run (.int .i64) D], true, 74, false, false, none⟩, some ⟨[.sc (.int .i64 p)], true, 3, false, false, none⟩, some ⟨[.sc (.int .i64 a)], true, 3, false, false, none⟩] => l90_2t p a k D l
  | _, _, _ => .fail
theorem l90_2_ok {T : Tab} (hT : TabOK T) (hlo : loopOf T.fn 90 2 = some (lpc T 90 2)) (h : ∀ (p a k : Int) (D l : List Int) (r : Out × List AV × Hp), (l90_2t p a k D l).val = some r → ∃ mm, lpRun T 90 2 3 (lpc T 90 2) mm [lI l, f58, vi 0, vi k, vi 0] [some (rD D), some (qI p), some (qI a)] = some r) : ∀ base kv H o kv' H', (l90_2 base kv H).val = some (o, kv', H') → LoopOK T 90 2 base kv H o kv' H' := by
  intro base kv H o kv' H' hv
  unfold l90_2 at hv
  split at hv
  · rename_i hb
    obtain rfl := Nat.eq_of_beq_eq_true hb
    exact loop_ok hT hlo (h _ _ _ _ _ _ hv)
  · cases hv
def _root_.Brn.apG' (l D : List Int) (p a : Int) : Bool := sm l && Brn.in9 l && decide (0 ≤ p) && decide (p < 9) && decide (1 ≤ a) && decide (a ≤ 9) && decide (D.length = 81)
noncomputable def V2 : Tab := (V1).addLoop 90 2 l90_2
theorem nf90 (p a : Int) (D l : List Int) : evBody V2 90 [lI l, f58] [some (rD D), some (qI p), some (qI a)] = (bif decide ((↑l.length : Int) = (↑l.length : Int)) && sm l && Brn.in9 l && decide (0 ≤ p) && decide (p < 9) && decide (1 ≤ a) && decide (a ≤ 9) && decide (D.length = 81) then bif l.any (Brn.near1 D p a) then some (vi (↑(List.findIdx (Brn.near1 D p a) l) : Int), [some ⟨[.run (.int .i64) D], true, 74, false, false, none⟩, some ⟨[vi p], true, 3, false, false, none⟩, some ⟨[vi a], true, 3, false, false, none⟩]) else some (vi (-1), [some ⟨[.run (.int .i64) D], true, 74, false, false, none⟩, some ⟨[vi p], true, 3, false, false, none⟩, some ⟨[vi a], true, 3, false, false, none⟩]) else none) := by kernel_rfl
def c90t (p a : Int) (D l : List Int) : Tree (AV × Hp) := .br (Brn.apG' l D p a) (.br (l.any (Brn.near1 D p a)) (.leaf (vi (l.findIdx (Brn.near1 D p a)), [some (rD D), some (qI p), some (qI a)])) (.leaf (vi (-1), [some (rD D), some (qI p), some (qI a)]))) .fail
def c90 (args : List AV) (H : Hp) : Tree (AV × Hp) := match args, H with
  | [(.sl (.int .i64) l false), (.fn (.func 58) [] [.ps 0 0 0 0, .ps 1 0 0 0, .ps 2 0 0 0])], [some ⟨[.run (.int .i64) D], true, 74, false, false, none⟩, some ⟨[.sc (.int .i64 p)], true, 3, false, false, none⟩, some ⟨[.sc (.int .i64 a)], true, 3, false, false, none⟩] => c90t p a D l
  | _, _ => .fail
theorem c90_ok {T : Tab} (hT : TabOK T) (h : ∀ (p a : Int) (D l : List Int) (r : AV × Hp), (c90t p a D l).val = some r → evBody T 90 [lI l, f58] [some (rD D), some (qI p), some (qI a)] = some r) : ∀ args H v H', (c90 args H).val = some (v, H') → CallOK T 90 args H v H' := by
  intro args H v H' hv
  unfold c90 at hv
  split at hv
  · exact evBody_sound hT (h _ _ _ _ _ hv)
  · cases hv
noncomputable def V3 : Tab := (V2).addCall 90 c90
theorem nf57 (p a : Int) (D l : List Int) : evBody V3 57 [lI l, f58] [some (rD D), some (qI p), some (qI a)] = (bif Brn.apG' l D p a then bif l.any (Brn.near1 D p a) then some (vb true, [some ⟨[.run (.int .i64) D], true, 74, false, false, none⟩, some ⟨[vi p], true, 3, false, false, none⟩, some ⟨[vi a], true, 3, false, false, none⟩]) else some (vb false, [some ⟨[.run (.int .i64) D], true, 74, false, false, none⟩, some ⟨[vi p], true, 3, false, false, none⟩, some ⟨[vi a], true, 3, false, false, none⟩]) else none) := by kernel_rfl
def c57t (p a : Int) (D l : List Int) : Tree (AV × Hp) := .br (Brn.apG' l D p a) (.leaf (vb (l.any (Brn.near1 D p a)), [some (rD D), some (qI p), some (qI a)])) .fail
def c57 (args : List AV) (H : Hp) : Tree (AV × Hp) := match args, H with
  | [(.sl (.int .i64) l false), (.fn (.func 58) [] [.ps 0 0 0 0, .ps 1 0 0 0, .ps 2 0 0 0])], [some ⟨[.run (.int .i64) D], true, 74, false, false, none⟩, some ⟨[.sc (.int .i64 p)], true, 3, false, false, none⟩, some ⟨[.sc (.int .i64 a)], true, 3, false, false, none⟩] => c57t p a D l
  | _, _ => .fail
theorem c57_ok {T : Tab} (hT : TabOK T) (h : ∀ (p a : Int) (D l : List Int) (r : AV × Hp), (c57t p a D l).val = some r → evBody T 57 [lI l, f58] [some (rD D), some (qI p), some (qI a)] = some r) : ∀ args H v H', (c57 args H).val = some (v, H') → CallOK T 57 args H v H' := by
  intro args H v H' hv
  unfold c57 at hv
  split at hv
  · exact evBody_sound hT (h _ _ _ _ _ hv)
  · cases hv
def l59_5t (m : Int) (l : List Int) : Tree (Out × List AV × Hp) := .br (sm l && decide (0 < l.length) && decide (m = l.getD 0 0)) (.leaf (.ext 0, [lI l, vi (Brn.maxL l), vi l.length], [])) .fail
def l59_5 (base : Nat) (kv : List AV) (H : Hp) : Tree (Out × List AV × Hp) := match Nat.beq base 0, kv, H with
  | true, [(.sl (.int .i64) l false), (.sc (.int .i64 m)), (.sc (.int .i64 1))], [] => l59_5t m l
  | _, _, _ => .fail
theorem l59_5_ok {T : Tab} (hT : TabOK T) (hlo : loopOf T.fn 59 5 = some (lpc T 59 5)) (h : ∀ (m : Int) (l : List Int) (r : Out × List AV × Hp), (l59_5t m l).val = some r → ∃ mm, lpRun T 59 5 0 (lpc T 59 5) mm [lI l, vi m, vi 1] [] = some r) : ∀ base kv H o kv' H', (l59_5 base kv H).val = some (o, kv', H') → LoopOK T 59 5 base kv H o kv' H' := by
  intro base kv H o kv' H' hv
  unfold l59_5 at hv
  split at hv
  · rename_i hb
    obtain rfl := Nat.eq_of_beq_eq_true hb
    exact loop_ok hT hlo (h _ _ _ hv)
  · cases hv
noncomputable def V4 : Tab := ((V3).addCall 57 c57).addLoop 59 5 l59_5
theorem nf59 (l : List Int) : evBody V4 59 [lI l] [] = (bif decide ((↑l.length : Int) < 1) then none else bif decide (0 < (↑l.length : Int)) then oM l[0]? fun x => bif sm l && decide (0 < l.length) && decide (x = l.getD 0 0) then some (vi (Brn.maxL l), []) else none else none) := by kernel_rfl
def c59t (l : List Int) : Tree (AV × Hp) := .br (sm l && decide (0 < l.length)) (.leaf (vi (Brn.maxL l), [])) .fail
def c59 (args : List AV) (H : Hp) : Tree (AV × Hp) := match args, H with
  | [(.sl (.int .i64) l false)], [] => c59t l
  | _, _ => .fail
theorem c59_ok {T : Tab} (hT : TabOK T) (h : ∀ (l : List Int) (r : AV × Hp), (c59t l).val = some r → evBody T 59 [lI l] [] = some r) : ∀ args H v H', (c59 args H).val = some (v, H') → CallOK T 59 args H v H' := by
  intro args H v H' hv
  unfold c59 at hv
  split at hv
  · exact evBody_sound hT (h _ _ hv)
  · cases hv
noncomputable def V5 : Tab := (V4).addCall 59 c59
def _root_.Brn.bD (D : List Int) (a : Int) (n : Nat) : Nat → List Int → Option (List Int)
  | 0, l => some l
  | m + 1, l => ((List.range n).drop (Brn.frm l).toNat).findSome? fun (p : Nat) => bif !l.any (Brn.near1 D p a) then Brn.bD D a n m (l ++ [(p : Int)]) else none
def _root_.Brn.bR (D : List Int) (a n : Int) (l : List Int) : Option (List Int) := Brn.bD D a n.toNat (a + 1 - l.length).toNat l
def _root_.Brn.brG (n a : Int) (D l : List Int) : Bool := decide (1 ≤ n) && decide (n ≤ 9) && decide (1 ≤ a) && decide (a ≤ 9) && decide ((l.length : Int) ≤ a + 1) && (l.all fun x => decide (0 ≤ x) && decide (x < n)) && decide (D.length = 81)
def c56t (d : Nat) (l D : List Int) (a n : Int) : Tree (AV × Hp) := .br (Brn.brG n a D l && decide (a + 1 - l.length < (d : Int))) (.br (Brn.bR D a n l).isSome (.leaf (vb true, [some (qI a), some (qS (Brn.gotten (Brn.bR D a n l))), some (qI n), some (rD D), some qP])) (.leaf (vb false, [some (qI a), some qN, some (qI n), some (rD D), some qP]))) .fail
def c56 (d : Nat) (args : List AV) (H : Hp) : Tree (AV × Hp) := match args, H with
  | [(.sl (.int .i64) l false), (.ps 0 0 0 0), (.ps 1 0 0 0), (.ps 2 0 0 0), (.ps 3 0 0 0), (.ps 4 0 0 0)], [some ⟨[.sc (.int .i64 a)], true, 3, false, false, none⟩, some ⟨[.sc (.slice none 0 0)], true, 25, false, false, none⟩, some ⟨[.sc (.int .i64 n)], true, 3, false, false, none⟩, some ⟨[.run (.int .i64) D], true, 74, false, false, none⟩, some ⟨[.fn (.func 56) [] [.ps 0 0 0 0, .ps 1 0 0 0, .ps 2 0 0 0, .ps 3 0 0 0, .ps 4 0 0 0]], true, 88, false, true, none⟩] => c56t d l D a n
  | _, _ => .fail
theorem c56_ok (d : Nat) {T : Tab} (hT : TabOK T) (h : ∀ (l D : List Int) (a n : Int) (r : AV × Hp), (c56t d l D a n).val = some r → evBody T 56 [lI l, ps 0, ps 1, ps 2, ps 3, ps 4] [some (qI a), some (qN), some (qI n), some (rD D), some (qP)] = some r) : ∀ args H v H', (c56 d args H).val = some (v, H') → CallOK T 56 args H v H' := by
  intro args H v H' hv
  unfold c56 at hv
  split at hv
  · exact evBody_sound hT (h _ _ _ _ _ hv)
  · cases hv
noncomputable def V6 (d : Nat) : Tab := V5.addCall 56 (c56 d)
theorem nl56 (d : Nat) (again : Ag) (l D : List Int) (a n p : Int) : lpStep (V6 d) 56 8 5 (lpc (V6 d) 56 8) again [lI l, ps 0, ps 2, ps 3, ps 4, vb false, ps 5] [some (qI a), some qN, some (qI n), some (rD D), some qP, some (qI p)] = (bif decide (p < n) then bif Brn.apG' l D p a then bif !l.any (Brn.near1 D p a) then bif decide ((↑l.length : Int) ≤ (↑l.length : Int)) then bif decide ((↑l.length : Int) = (↑l.length : Int)) then bif room ((List.take (↑l.length : Int).toNat l).length + 1) 8 then bif Brn.brG n a D (List.take (↑l.length : Int).toNat l ++ [p]) && decide (a + 1 - (↑(List.take (↑l.length : Int).toNat l ++ [p]).length : Int) < (↑d : Int)) then bif (Brn.bR D a n (List.take (↑l.length : Int).toNat l ++ [p])).isSome then some (.ret, [.sl (.int .i64) l false, .ps 0 0 0 0, .ps 2 0 0 0, .ps 3 0 0 0, .ps 4 0 0 0, vb true, .ps 5 0 0 0], [some ⟨[vi a], true, 3, false, false, none⟩, some ⟨[.sl (.int .i64) (Brn.gotten (Brn.bR D a n (List.take (↑l.length : Int).toNat l ++ [p]))) false], true, 25, false, false, none⟩, some ⟨[vi n], true, 3, false, false, none⟩, some ⟨[.run (.int .i64) D], true, 74, false, false, none⟩, some ⟨[.fn (Go.Fn.func 56) [] [.ps 0 0 0 0, .ps 1 0 0 0, .ps 2 0 0 0, .ps 3 0 0 0, .ps 4 0 0 0]], true, 88, false, true, none⟩, some ⟨[vi p], true, 3, false, false, none⟩]) else again [.sl (.int .i64) l false, .ps 0 0 0 0, .ps 2 0 0 0, .ps 3 0 0 0, .ps 4 0 0 0, vb false, .ps 5 0 0 0] [some ⟨[vi a], true, 3, false, false, none⟩, some ⟨[.sc (.slice none 0 0)], true, 25, false, false, none⟩, some ⟨[vi n], true, 3, false, false, none⟩, some ⟨[.run (.int .i64) D], true, 74, false, false, none⟩, some ⟨[.fn (Go.Fn.func 56) [] [.ps 0 0 0 0, .ps 1 0 0 0, .ps 2 0 0 0, .ps 3 0 0 0, .ps 4 0 0 0]], true, 88, false, true, none⟩, some ⟨[vi (IntKind.i64.wrap (p + 1))], true, 3, false, false, none⟩] else none else none else none else none else again [.sl (.int .i64) l false, .ps 0 0 0 0, .ps 2 0 0 0, .ps 3 0 0 0, .ps 4 0 0 0, vb false, .ps 5 0 0 0] [some ⟨[vi a], true, 3, false, false, none⟩, some ⟨[.sc (.slice none 0 0)], true, 25, false, false, none⟩, some ⟨[vi n], true, 3, false, false, none⟩, some ⟨[.run (.int .i64) D], true, 74, false, false, none⟩, some ⟨[.fn (Go.Fn.func 56) [] [.ps 0 0 0 0, .ps 1 0 0 0, .ps 2 0 0 0, .ps 3 0 0 0, .ps 4 0 0 0]], true, 88, false, true, none⟩, some ⟨[vi (IntKind.i64.wrap (p + 1))], true, 3, false, false, none⟩] else none else some (.ext 0, [.sl (.int .i64) l false, .ps 0 0 0 0, .ps 2 0 0 0, .ps 3 0 0 0, .ps 4 0 0 0, vb false, .ps 5 0 0 0], [some ⟨[vi a], true, 3, false, false, none⟩, some ⟨[.sc (.slice none 0 0)], true, 25, false, false, none⟩, some ⟨[vi n], true, 3, false, false, none⟩, some ⟨[.run (.int .i64) D], true, 74, false, false, none⟩, some ⟨[.fn (Go.Fn.func 56) [] [.ps 0 0 0 0, .ps 1 0 0 0, .ps 2 0 0 0, .ps 3 0 0 0, .ps 4 0 0 0]], true, 88, false, true, none⟩, some ⟨[vi p], true, 3, false, false, none⟩])) := by kernel_rfl
end Go.Ev.Burn
