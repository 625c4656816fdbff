/- BurnBarred: places that bar days, the longest way, and the middle: plain. -/
import Derived.Test.YtpieoljeikpemaaDoorOj
import Derived.Test.YtpieoljeikpemaaDoorOa
import Derived.Test.YtpieoljeikpemaaDoorOi
import Derived.Test.YtpieoljeikpemaaDoorOd
set_option linter.unusedVariables false
set_option linter.unusedSimpArgs false
namespace Brn
open Go
set_option linter.unusedVariables false
variable {n : Int} {ws : W}
end Brn
namespace Brn
open Go
set_option linter.unusedVariables false
variable {n : Int} {ws : W}
structure Kr (m : Nat) (ws kept : W) (lab : Nat → Nat) : Prop where
  sub : ∀ w ∈ kept, w ∈ ws
  nd : kept.Nodup
  lt : ∀ x, x < m → lab x < m
  idem : ∀ x, x < m → lab (lab x) = lab x
  cnt : kept.length + ((List.range m).filter fun x => decide (lab x = x)).length = m
  con : ∀ x y, x < m → y < m → lab x = lab y → ∃ k, R (adjB kept) m k x y = true
  ends : ∀ w ∈ kept, lab w.1.toNat = lab w.2.toNat
def mrg (lab : Nat → Nat) (A B : Nat) (x : Nat) : Nat := if lab x = A then B else lab x
theorem cnt_drop {p : Nat → Bool} {A : Nat} (hA : p A = true) : ∀ m, ((List.range m).filter fun x => p x && !decide (x = A)).length + (if A < m then 1 else 0) = ((List.range m).filter p).length
  | 0 => by simp
  | m + 1 => by
    have ih := cnt_drop hA m
    rw [List.range_succ, List.filter_append, List.filter_append, List.length_append, List.length_append]
    by_cases c : m = A
    · subst c
      rw [if_neg (by omega)] at ih
      rw [if_pos (by omega), List.filter_cons_of_neg (by simp), List.filter_cons_of_pos (by simp [hA])]
      simp only [List.filter_nil, List.length_nil, List.length_cons]
      omega
    · have e : (List.filter (fun x => p x && !decide (x = A)) [m]).length = (List.filter p [m]).length := by
        cases hp : p m <;> simp [hp, c]
      rw [e]
      by_cases d : A < m
      · rw [if_pos d] at ih; rw [if_pos (by omega)]; omega
      · rw [if_neg d] at ih; rw [if_neg (by omega)]; omega
theorem adj_sub {ws ws' : W} (h : ∀ w ∈ ws, w ∈ ws') {p q : Nat} (ha : adjB ws p q = true) : adjB ws' p q = true := by
  rcases adj_iff.1 ha with h1 | h1
  · exact adj_iff.2 (.inl (h _ h1))
  · exact adj_iff.2 (.inr (h _ h1))
theorem R_sub {adj adj' : Nat → Nat → Bool} {m : Nat} (h : ∀ p q, adj p q = true → adj' p q = true) : ∀ {k p v : Nat}, R adj m k p v = true → R adj' m k p v = true
  | 0, p, v, hr => R_zero.2 (R_zero.1 hr)
  | k + 1, p, v, hr => by
    rcases R_succ.1 hr with h1 | ⟨q, hq, h1, h2⟩
    · exact R_succ.2 (.inl (R_sub h h1))
    · exact R_succ.2 (.inr ⟨q, hq, h p q h1, R_sub h h2⟩)
theorem R_edge {adj : Nat → Nat → Bool} {m p q : Nat} (hq : q < m) (h : adj p q = true) : R adj m 1 p q = true := R_succ.2 (.inr ⟨q, hq, h, R_zero.2 rfl⟩)
theorem Kr.join {m : Nat} {kept : W} {lab : Nat → Nat} (h : Kr m ws kept lab) {w : Int × Int} (hw : w ∈ ws) {a b : Nat} (hab : (w = ((a : Int), (b : Int))) ∨ (w = ((b : Int), (a : Int)))) (ha : a < m) (hb : b < m) (hne : lab a ≠ lab b) :
    Kr m ws (kept ++ [w]) (mrg lab (lab a) (lab b)) := by
  have la := h.lt a ha
  have lb := h.lt b hb
  have ia := h.idem a ha
  have ib := h.idem b hb
  have hnm : w ∉ kept := fun hm => by
    have := h.ends w hm
    rcases hab with rfl | rfl
    · exact hne (by simpa using this)
    · exact hne (by simpa using this.symm)
  have sub' : ∀ w' ∈ kept, w' ∈ kept ++ [w] := fun w' hw' => List.mem_append_left _ hw'
  have up : ∀ {k x y}, R (adjB kept) m k x y = true → R (adjB (kept ++ [w])) m k x y = true := fun hr => R_sub (fun p q => adj_sub sub') hr
  have e1 : adjB (kept ++ [w]) a b = true := by
    rcases hab with rfl | rfl
    · exact adj_iff.2 (.inl (by simp))
    · exact adj_iff.2 (.inr (by simp))
  have e2 : adjB (kept ++ [w]) b a = true := by rw [adjB_symm]; exact e1
  refine ⟨fun w' hw' => ?_, ?_, fun x hx => ?_, fun x hx => ?_, ?_, fun x y hx hy he => ?_, fun w' hw' => ?_⟩
  · rcases List.mem_append.1 hw' with h1 | h1
    · exact h.sub _ h1
    · rw [List.mem_singleton] at h1; subst h1; exact hw
  · rw [List.nodup_append]
    refine ⟨h.nd, by simp, fun x hx y hy => ?_⟩
    rw [List.mem_singleton] at hy
    subst hy
    intro e; subst e; exact hnm hx
  · unfold mrg; split
    · exact lb
    · exact h.lt x hx
  · unfold mrg
    by_cases c : lab x = lab a
    · rw [if_pos c, ib, if_neg (fun e => hne e.symm)]
    · rw [if_neg c, h.idem x hx, if_neg c]
  · have hp : ((List.range m).filter fun x => decide (mrg lab (lab a) (lab b) x = x)) = (List.range m).filter fun x => decide (lab x = x) && !decide (x = lab a) := by
      refine List.filter_congr fun x hx => ?_
      have hx := List.mem_range.1 hx
      rw [Bool.eq_iff_iff]
      simp only [Bool.and_eq_true, decide_eq_true_eq, Bool.not_eq_true', decide_eq_false_iff_not]
      unfold mrg
      by_cases c : lab x = lab a
      · rw [if_pos c]
        constructor
        · intro e; rw [← e, ib] at c; exact absurd c.symm hne
        · rintro ⟨e, e'⟩; rw [e] at c; exact absurd c e'
      · rw [if_neg c]
        constructor
        · intro e; exact ⟨e, fun e' => c (by rw [e', ia])⟩
        · rintro ⟨e, _⟩; exact e
    have hc := cnt_drop (p := fun x => decide (lab x = x)) (A := lab a) (by rw [ia]; exact decide_eq_true rfl) m
    rw [if_pos la] at hc
    rw [hp, List.length_append, List.length_singleton]
    have := h.cnt
    omega
  · unfold mrg at he
    have ab : ∀ {x y}, x < m → y < m → lab x = lab a → lab y = lab b → ∃ k, R (adjB (kept ++ [w])) m k x y = true := fun {x y} hx hy e f => by
      obtain ⟨k1, r1⟩ := h.con x a hx ha e
      obtain ⟨k2, r2⟩ := h.con b y hb hy f.symm
      exact ⟨_, R_trans (up r1) (R_trans (R_edge hb e1) (up r2))⟩
    have ba : ∀ {x y}, x < m → y < m → lab x = lab b → lab y = lab a → ∃ k, R (adjB (kept ++ [w])) m k x y = true := fun {x y} hx hy e f => by
      obtain ⟨k1, r1⟩ := h.con x b hx hb e
      obtain ⟨k2, r2⟩ := h.con a y ha hy f.symm
      exact ⟨_, R_trans (up r1) (R_trans (R_edge ha e2) (up r2))⟩
    by_cases c : lab x = lab a <;> by_cases d : lab y = lab a
    · obtain ⟨k, r⟩ := h.con x y hx hy (by rw [c, d]); exact ⟨k, up r⟩
    · rw [if_pos c, if_neg d] at he; exact ab hx hy c he.symm
    · rw [if_neg c, if_pos d] at he; exact ba hx hy he d
    · rw [if_neg c, if_neg d] at he; obtain ⟨k, r⟩ := h.con x y hx hy he; exact ⟨k, up r⟩
  · rcases List.mem_append.1 hw' with h1 | h1
    · unfold mrg; rw [h.ends _ h1]
    · rw [List.mem_singleton] at h1; subst h1
      have : mrg lab (lab a) (lab b) a = mrg lab (lab a) (lab b) b := by
        unfold mrg; rw [if_pos rfl, if_neg (fun e => hne e.symm)]
      rcases hab with rfl | rfl
      · simpa using this
      · simpa using this.symm
theorem Kr.start (m : Nat) (ws : W) : Kr m ws [] id :=
  ⟨fun w hw => (by cases hw), List.nodup_nil, fun x hx => hx, fun x _ => rfl, (by
    rw [List.filter_eq_self.2 (fun (x : Nat) _ => (decide_eq_true rfl : decide (id x = x) = true))]; simp), fun x y hx hy e => ⟨0, R_zero.2 e⟩, fun w hw => by cases hw⟩
theorem Kr.grow {m : Nat} {t : Nat → Nat} : ∀ (vs : List Nat) {kept : W} {lab : Nat → Nat}, Kr m ws kept lab → (∀ v ∈ vs, v < m ∧ lab v = v ∧ ∀ x, x < m → lab x = v → x = v) → vs.Pairwise (fun v v' => t v ≤ t v' ∧ v ≠ v') →
    (∀ v ∈ vs, ∃ u, u < m ∧ adjB ws u v = true ∧ t u < t v) → ∃ kept' lab', Kr m ws kept' lab' ∧ (∀ w ∈ kept, w ∈ kept') ∧ ∀ v ∈ vs, ∃ u, u < m ∧ adjB kept' u v = true ∧ t u < t v
  | [], kept, lab, h, _, _, _ => ⟨kept, lab, h, fun _ hw => hw, fun v hv => by cases hv⟩
  | v :: vs, kept, lab, h, hs, hp, hu => by
    obtain ⟨hp1, hp2⟩ := List.pairwise_cons.1 hp
    obtain ⟨v1, v2, v3⟩ := hs v (by simp)
    obtain ⟨u, u1, u2, u3⟩ := hu v (by simp)
    obtain ⟨w, hw, hab⟩ : ∃ w ∈ ws, (w = ((v : Int), (u : Int))) ∨ (w = ((u : Int), (v : Int))) := by
      rcases adj_iff.1 u2 with h1 | h1
      · exact ⟨_, h1, .inr rfl⟩
      · exact ⟨_, h1, .inl rfl⟩
    have huv : u ≠ v := fun e => by subst e; omega
    have hne : lab v ≠ lab u := fun e => huv (v3 u u1 (by rw [← e, v2]))
    have h' := h.join hw hab v1 u1 hne
    obtain ⟨k2, l2, g1, g2, g3⟩ := Kr.grow vs h' (fun v' hv' => by
      obtain ⟨a1, a2, a3⟩ := hs v' (by simp [hv'])
      obtain ⟨b1, b2⟩ := hp1 v' hv'
      have huv' : u ≠ v' := fun e => by subst e; omega
      refine ⟨a1, ?_, fun x hx e => ?_⟩
      · unfold mrg; rw [a2, if_neg (fun e => b2 (by rw [← v2, ← e]))]
      · unfold mrg at e
        by_cases c : lab x = lab v
        · rw [if_pos c] at e; exact absurd (a3 u u1 e) huv'
        · rw [if_neg c] at e; exact a3 x hx e) hp2 (fun v' hv' => hu v' (by simp [hv']))
    refine ⟨k2, l2, g1, fun w' hw' => g2 _ (List.mem_append_left _ hw'), fun v' hv' => ?_⟩
    rcases List.mem_cons.1 hv' with rfl | hv'
    · refine ⟨u, u1, ?_, u3⟩
      have hm := g2 w (by simp)
      rcases hab with rfl | rfl
      · exact adj_iff.2 (.inr hm)
      · exact adj_iff.2 (.inl hm)
    · exact g3 v' hv'
theorem Kr.finish {m : Nat} (hg : ∀ w ∈ ws, good (m : Int) w) : ∀ (E : W) {kept : W} {lab : Nat → Nat}, (∀ w ∈ E, w ∈ ws) → Kr m ws kept lab →
    ∃ kept' lab', Kr m ws kept' lab' ∧ (∀ w ∈ kept, w ∈ kept') ∧ (∀ x y, lab x = lab y → lab' x = lab' y) ∧ ∀ w ∈ E, lab' w.1.toNat = lab' w.2.toNat
  | [], kept, lab, _, h => ⟨kept, lab, h, fun _ hw => hw, fun _ _ e => e, fun w hw => by cases hw⟩
  | w :: E, kept, lab, hE, h => by
    have hw := hE w (by simp)
    obtain ⟨g1, g2, g3⟩ := hg w hw
    by_cases c : lab w.1.toNat = lab w.2.toNat
    · obtain ⟨k2, l2, a1, a2, a3, a4⟩ := Kr.finish hg E (fun w hw => hE w (by simp [hw])) h
      refine ⟨k2, l2, a1, a2, a3, fun w' hw' => ?_⟩
      rcases List.mem_cons.1 hw' with rfl | hw'
      · exact a3 _ _ c
      · exact a4 w' hw'
    · have h' := h.join hw (a := w.1.toNat) (b := w.2.toNat) (.inl (by obtain ⟨x, y⟩ := w; simp only [Prod.mk.injEq]; dsimp only at g1 g2 g3; omega)) (by omega) (by omega) c
      obtain ⟨k2, l2, a1, a2, a3, a4⟩ := Kr.finish hg E (fun w hw => hE w (by simp [hw])) h'
      refine ⟨k2, l2, a1, fun w' hw' => a2 _ (List.mem_append_left _ hw'), fun x y e => a3 _ _ (by unfold mrg; rw [e]), fun w' hw' => ?_⟩
      rcases List.mem_cons.1 hw' with rfl | hw'
      · exact a3 _ _ (by unfold mrg; rw [if_pos rfl, if_neg (fun e => c e.symm)])
      · exact a4 w' hw'
theorem Kr.tree {m : Nat} (hm : 0 < m) {kept : W} {lab : Nat → Nat} (h : Kr m ws kept lab) (he : ∀ w ∈ ws, lab w.1.toNat = lab w.2.toNat) (hc : ∀ v, v < m → ∃ k, R (adjB ws) m k 0 v = true) :
    kept.length + 1 = m ∧ ∀ v, v < m → ∃ k, R (adjB kept) m k 0 v = true := by
  have all : ∀ v, v < m → lab v = lab 0 := fun v hv => by
    obtain ⟨k, r⟩ := hc v hv
    have := closed_all (adj := adjB ws) (m := m) (S := fun x => decide (lab x = lab 0)) (fun u v hu hv hs ha => by
      rw [decide_eq_true_eq] at hs ⊢
      rw [← hs]
      rcases adj_iff.1 ha with h1 | h1
      · have := he _ h1; simpa using this.symm
      · have := he _ h1; simpa using this) k 0 v hm hv (decide_eq_true rfl) r
    exact of_decide_eq_true this
  refine ⟨?_, fun v hv => h.con 0 v hm hv (all v hv).symm⟩
  have e : ((List.range m).filter fun x => decide (lab x = x)) = [lab 0] := by
    have : ((List.range m).filter fun x => decide (lab x = x)) = (List.range m).filter fun v => lab 0 == v := by
      refine List.filter_congr fun x hx => ?_
      rw [all x (List.mem_range.1 hx), Bool.eq_iff_iff, decide_eq_true_eq, beq_iff_eq]
    rw [this, range_one, if_pos (h.lt 0 hm)]
  have := h.cnt
  rw [e, List.length_singleton] at this
  exact this
def tmB (adj : Nat → Nat → Bool) (m : Nat) (fs : List Int) (v : Nat) : Nat := (List.range fs.length).findIdx fun k => bSet adj m fs k v
theorem tmB_spec {adj : Nat → Nat → Bool} {m : Nat} {fs : List Int} {v k : Nat} (hk : k < fs.length) (h : bSet adj m fs k v = true) : tmB adj m fs v ≤ k ∧ bSet adj m fs (tmB adj m fs v) v = true ∧ ∀ j, j < tmB adj m fs v → bSet adj m fs j v = false := by
  have hx : (List.range fs.length).findIdx (fun k => bSet adj m fs k v) < (List.range fs.length).length := List.findIdx_lt_length_of_exists ⟨k, List.mem_range.2 hk, h⟩
  have h1 := List.findIdx_getElem (w := hx)
  simp only [List.getElem_range] at h1
  have h3 : ∀ j, j < tmB adj m fs v → bSet adj m fs j v = false := fun j hj => by
    have := List.not_of_lt_findIdx (xs := List.range fs.length) (p := fun k => bSet adj m fs k v) (i := j) hj
    simpa only [List.getElem_range, Bool.not_eq_true] using this
  refine ⟨?_, h1, h3⟩
  rcases Nat.lt_or_ge k (tmB adj m fs v) with c | c
  · rw [h3 k c] at h; cases h
  · exact c
theorem tree_of (h : Ok n ws) {fs : List Int} (hf : ∀ p ∈ fs, 0 ≤ p ∧ p < n) (h0 : 0 < fs.length) (he : enB n ws fs = true) :
    ∃ kept : W, (∀ w ∈ kept, w ∈ ws) ∧ kept.Nodup ∧ kept.length + 1 = n.toNat ∧ (∀ v, v < n.toNat → ∃ k, R (adjB kept) n.toNat k 0 v = true) ∧ ∀ v, v < n.toNat → bSet (adjB kept) n.toNat fs (fs.length - 1) v = true := by
  have hlo := h.lo
  have en : ((n.toNat : Nat) : Int) = n := by omega
  have hg : ∀ w ∈ ws, good (n.toNat : Int) w := by rw [en]; exact h.good
  have hb := (enB_iff h hf h0).1 he
  have sp := fun v hv => tmB_spec (show fs.length - 1 < fs.length by omega) (hb v hv)
  obtain ⟨t, ht⟩ : ∃ t, t = tmB (adjB ws) n.toNat fs := ⟨_, rfl⟩
  rw [← ht] at sp
  let vs : List Nat := (List.range fs.length).flatMap fun k => (List.range n.toNat).filter fun v => decide (t v = k) && !decide ((fs.getD k 0).toNat = v)
  have mem : ∀ v, v ∈ vs ↔ v < n.toNat ∧ t v < fs.length ∧ (fs.getD (t v) 0).toNat ≠ v := fun v => by
    simp only [vs, List.mem_flatMap, List.mem_filter, List.mem_range, Bool.and_eq_true, decide_eq_true_eq, Bool.not_eq_true', decide_eq_false_iff_not]
    constructor
    · rintro ⟨k, hk, h1, rfl, h3⟩; exact ⟨h1, hk, h3⟩
    · rintro ⟨h1, h2, h3⟩; exact ⟨t v, h2, h1, rfl, h3⟩
  have par : ∀ v ∈ vs, ∃ u, u < n.toNat ∧ adjB ws u v = true ∧ t u < t v := fun v hv => by
    obtain ⟨v1, v2, v3⟩ := (mem v).1 hv
    obtain ⟨s1, s2, s3⟩ := sp v v1
    obtain ⟨i, hi, r⟩ := (bSet_iff _ _ _ _ _).1 s2
    have gi := getD_lt hf (i := i) (by omega)
    obtain ⟨j, hj⟩ : ∃ j, j = t v - i := ⟨_, rfl⟩
    rw [← hj] at r
    cases j with
    | zero =>
      have := R_zero.1 r
      rw [show i = t v by omega] at this
      exact absurd this v3
    | succ j =>
      rcases (R_last' (by omega) v1).1 r with r1 | ⟨u, u1, r1, r2⟩
      · have := s3 (t v - 1) (by omega)
        rw [(bSet_iff _ _ _ _ _).2 ⟨i, by omega, by rw [show t v - 1 - i = j by omega]; exact r1⟩] at this
        cases this
      · refine ⟨u, u1, r2, ?_⟩
        have hu : bSet (adjB ws) n.toNat fs (t v - 1) u = true := (bSet_iff _ _ _ _ _).2 ⟨i, by omega, by rw [show t v - 1 - i = j by omega]; exact r1⟩
        have := (tmB_spec (show t v - 1 < fs.length by omega) hu).1
        rw [← ht] at this
        omega
  have pw : vs.Pairwise (fun v v' => t v ≤ t v' ∧ v ≠ v') := by
    rw [List.pairwise_flatMap]
    constructor
    · intro k hk
      refine List.Pairwise.imp_of_mem (fun {x y} hx hy hne => ?_) (List.Pairwise.filter _ List.nodup_range)
      simp only [List.mem_filter, Bool.and_eq_true, decide_eq_true_eq] at hx hy
      exact ⟨by omega, hne⟩
    · refine List.Pairwise.imp (fun {a b} hab x hx y hy => ?_) List.pairwise_lt_range
      simp only [List.mem_filter, Bool.and_eq_true, decide_eq_true_eq] at hx hy
      refine ⟨by omega, fun e => ?_⟩
      subst e; omega
  obtain ⟨k1, l1, a1, a2, a3⟩ := Kr.grow (t := t) vs (Kr.start n.toNat ws) (fun v hv => ⟨((mem v).1 hv).1, rfl, fun x _ e => e⟩) pw par
  obtain ⟨k2, l2, b1, b2, b3, b4⟩ := Kr.finish hg ws (fun _ hw => hw) a1
  obtain ⟨c1, c2⟩ := b1.tree (by omega) b4 (fun v hv => ⟨n.toNat, h.conn (by omega) (by omega) (by omega)⟩)
  refine ⟨k2, b1.sub, b1.nd, c1, c2, fun v hv => ?_⟩
  have main : ∀ j v, v < n.toNat → t v = j → bSet (adjB k2) n.toNat fs j v = true := by
    intro j
    induction j using Nat.strongRecOn with
    | ind j ih =>
      intro v hv htv
      obtain ⟨s1, s2, s3⟩ := sp v hv
      by_cases hm : v ∈ vs
      · obtain ⟨u, u1, u2, u3⟩ := a3 v hm
        have hu := ih (t u) (by omega) u u1 rfl
        have u2' := adj_sub b2 u2
        have up : ∀ d, t u ≤ d → bSet (adjB k2) n.toNat fs d u = true := fun d => by
          induction d with
          | zero => intro hd; rw [← show t u = 0 by omega]; exact hu
          | succ d ihd =>
            intro hd
            rcases Nat.lt_or_ge d (t u) with c | c
            · rw [← show t u = d + 1 by omega]; exact hu
            · exact bSet_up (ihd c)
        have := bSet_next (adj := adjB k2) (m := n.toNat) (fs := fs) (d := j - 1) (fun i hi => by have := getD_lt hf (i := i) (by omega); omega) hv u1 (up (j - 1) (by omega)) u2'
        rw [show j - 1 + 1 = j by omega] at this
        exact this
      · have : (fs.getD (t v) 0).toNat = v := by
          by_cases c : (fs.getD (t v) 0).toNat = v
          · exact c
          · exact absurd ((mem v).2 ⟨hv, by omega, c⟩) hm
        exact (bSet_iff _ _ _ _ _).2 ⟨j, by omega, by rw [Nat.sub_self, ← htv]; exact R_zero.2 this⟩
  have hmn := main _ v hv rfl
  obtain ⟨s1, _, _⟩ := sp v hv
  have up : ∀ d, t v ≤ d → bSet (adjB k2) n.toNat fs d v = true := fun d => by
    induction d with
    | zero => intro hd; rw [← show t v = 0 by omega]; exact hmn
    | succ d ihd =>
      intro hd
      rcases Nat.lt_or_ge d (t v) with c | c
      · rw [← show t v = d + 1 by omega]; exact hmn
      · exact bSet_up (ihd c)
  exact up _ s1
end Brn
namespace Brn
open Go
set_option linter.unusedVariables false
variable {n : Int} {ws : W}
theorem sol_mem {fs : List Int} (hn : 0 ≤ n) (hf : ∀ p ∈ fs, 0 ≤ p ∧ p < n) (he : enB n ws fs = true) : fs ∈ sols n ws (fs.length : Int) := by
  unfold sols solsF
  rw [List.mem_filter, Int.toNat_natCast]
  refine ⟨mem_exts.2 ⟨fs.map Int.toNat, by simp, fun p hp => ?_, ?_⟩, he⟩
  · obtain ⟨q, hq, rfl⟩ := List.mem_map.1 hp
    have := hf q hq
    omega
  · rw [List.nil_append, List.map_map]
    symm
    refine (List.map_congr_left (g := id) fun x hx => ?_).trans (by simp)
    have := hf x hx
    show (x.toNat : Int) = x
    omega
theorem days_le (h : Ok n ws) {fs : List Int} (hf : ∀ p ∈ fs, 0 ≤ p ∧ p < n) (h0 : 0 < fs.length) (he : enB n ws fs = true) : dd n ws ≤ fs.length := by
  rcases Nat.lt_or_ge fs.length (dd n ws) with c | c
  · have := (dd_spec h).2.2.2 fs.length h0 c
    have hm := sol_mem (by have := h.lo; omega) hf he
    rw [this] at hm
    cases hm
  · exact c
theorem en_sub {S : W} (h : Ok n ws) (h' : Ok n S) (hs : ∀ w ∈ S, w ∈ ws) {fs : List Int} (hf : ∀ p ∈ fs, 0 ≤ p ∧ p < n) (h0 : 0 < fs.length) (he : enB n S fs = true) : enB n ws fs = true :=
  (enB_iff h hf h0).2 fun v hv => by
    have := (enB_iff h' hf h0).1 he v hv
    obtain ⟨i, hi, r⟩ := (bSet_iff _ _ _ _ _).1 this
    exact (bSet_iff _ _ _ _ _).2 ⟨i, hi, R_sub (fun p q => adj_sub hs) r⟩
theorem sub_days {S : W} (h : Ok n ws) (h' : Ok n S) (hs : ∀ w ∈ S, w ∈ ws) : dd n ws ≤ dd n S := by
  obtain ⟨b1, b2, b3⟩ := best_in h'
  have d1 := (dd_spec h').1
  have := days_le h b1 (by omega) (en_sub h h' hs b1 (by omega) b3)
  omega
theorem sub_Ok {S : W} (h : Ok n ws) (hs : ∀ w ∈ S, w ∈ ws) (hn : S.Nodup) (hl : S.length ≤ 12) (hc : ∀ v, v < n.toNat → ∃ k, R (adjB S) n.toNat k 0 v = true) : Ok n S := by
  have hlo := h.lo
  refine ⟨h.lo, h.hi, hl, (waysErr_iff (n := n) S.length S rfl).2 ⟨fun w hw => h.good w (hs w hw), hn⟩, fun v hv => ?_⟩
  obtain ⟨k, r⟩ := hc v (by omega)
  exact R_bound (by omega) (by omega) r
theorem ways_nodup (h : Ok n ws) : ws.Nodup := ((waysErr_iff (n := n) ws.length ws rfl).1 h.ways).2
def selF (s : Nat) : Nat → W → W
  | _, [] => []
  | i, w :: ws => bif s.testBit i then w :: selF s (i + 1) ws else selF s (i + 1) ws
theorem selF_filter (p : Int × Int → Bool) : ∀ (ws : W) (i : Nat) (s : Nat), (∀ j w, ws[j]? = some w → s.testBit (i + j) = p w) → selF s i ws = ws.filter p
  | [], _, _, _ => rfl
  | w :: ws, i, s, h => by
    have h0 := h 0 w rfl
    rw [Nat.add_zero] at h0
    have ih := selF_filter p ws (i + 1) s fun j w' hw' => by
      have := h (j + 1) w' (by simpa using hw')
      rwa [show i + 1 + j = i + (j + 1) by omega]
    unfold selF
    rw [h0, ih, List.filter_cons]
    cases p w <;> rfl
theorem sel_of (p : Int × Int → Bool) (ws : W) : ∃ s, s < 2 ^ ws.length ∧ selF s 0 ws = ws.filter p := by
  refine ⟨mk (fun j => p (ws.getD j (0, 0))) ws.length, mk_lt _ _, selF_filter p ws 0 _ fun j w hw => ?_⟩
  have hj : j < ws.length := by
    rcases Nat.lt_or_ge j ws.length with c | c
    · exact c
    · rw [List.getElem?_eq_none c] at hw; cases hw
  rw [Nat.zero_add, testBit_mk, decide_eq_true hj, Bool.true_and, List.getD_eq_getElem?_getD, hw]
  rfl
theorem selF_sub (s : Nat) : ∀ (ws : W) (i : Nat), (selF s i ws).Sublist ws
  | [], _ => List.Sublist.slnil
  | w :: ws, i => by
    unfold selF
    cases s.testBit i with
    | true => exact (selF_sub s ws (i + 1)).cons_cons w
    | false => exact (selF_sub s ws (i + 1)).cons w
theorem tree_sel (h : Ok n ws) : ∃ s, s < 2 ^ ws.length ∧ ((selF s 0 ws).length : Int) = n - 1 ∧ Ok n (selF s 0 ws) ∧ dd n (selF s 0 ws) = dd n ws := by
  obtain ⟨b1, b2, b3⟩ := best_in h
  have d1 := (dd_spec h).1
  have hlo := h.lo
  obtain ⟨kept, k1, k2, k3, k4, k5⟩ := tree_of h b1 (by omega) b3
  obtain ⟨s, hs, he⟩ := sel_of (fun w => kept.contains w) ws
  have mem : ∀ w, w ∈ ws.filter (fun w => kept.contains w) ↔ w ∈ kept := fun w => by
    rw [List.mem_filter, List.contains_iff_mem]
    exact ⟨fun x => x.2, fun x => ⟨k1 w x, x⟩⟩
  have hn : (ws.filter (fun w => kept.contains w)).Nodup := (ways_nodup h).filter _
  have hp : (ws.filter (fun w => kept.contains w)).Perm kept := (List.perm_ext_iff_of_nodup hn k2).2 mem
  have hsub : ∀ w ∈ ws.filter (fun w => kept.contains w), w ∈ ws := fun w hw => (List.mem_filter.1 hw).1
  have ok : Ok n (ws.filter (fun w => kept.contains w)) := sub_Ok h hsub hn (by have := List.length_filter_le (fun w => kept.contains w) ws; have := h.few; omega) (fun v hv => by
    obtain ⟨k, r⟩ := k4 v hv
    exact ⟨k, R_sub (fun p q => adj_sub fun w hw => (mem w).2 hw) r⟩)
  refine ⟨s, hs, ?_, ?_, ?_⟩
  · rw [he, hp.length_eq]; omega
  · rw [he]; exact ok
  · rw [he]
    refine Nat.le_antisymm ?_ (sub_days h ok hsub)
    have hen : enB n (ws.filter (fun w => kept.contains w)) (headL (best n ws)) = true := (enB_iff ok b1 (by omega)).2 fun v hv => by
      obtain ⟨i, hi, r⟩ := (bSet_iff _ _ _ _ _).1 (k5 v hv)
      exact (bSet_iff _ _ _ _ _).2 ⟨i, hi, R_sub (fun p q => adj_sub fun w hw => (mem w).2 hw) r⟩
    have := days_le ok b1 (by omega) hen
    omega
end Brn
namespace Brn
open Go
set_option linter.unusedVariables false
variable {n : Int} {ws : W}
def maxL : List Int → Int
  | [] => 0
  | x :: l => l.foldl max x
theorem fold_max_ge : ∀ (l : List Int) (x : Int), x ≤ l.foldl max x ∧ ∀ y ∈ l, y ≤ l.foldl max x
  | [], x => ⟨Int.le_refl _, fun y hy => by cases hy⟩
  | z :: l, x => by
    obtain ⟨h1, h2⟩ := fold_max_ge l (max x z)
    rw [List.foldl_cons]
    refine ⟨by omega, fun y hy => ?_⟩
    rcases List.mem_cons.1 hy with rfl | hy
    · omega
    · exact h2 y hy
theorem fold_max_mem : ∀ (l : List Int) (x : Int), l.foldl max x = x ∨ l.foldl max x ∈ l
  | [], x => .inl rfl
  | z :: l, x => by
    rw [List.foldl_cons]
    rcases fold_max_mem l (max x z) with h | h
    · by_cases c : x ≤ z
      · right; rw [h, Int.max_eq_right c]; simp
      · left; rw [h]; omega
    · right; exact List.mem_cons_of_mem _ h
theorem le_maxL {l : List Int} {x : Int} (h : x ∈ l) : x ≤ maxL l := by
  cases l with
  | nil => cases h
  | cons y l =>
    rcases List.mem_cons.1 h with rfl | h
    · exact (fold_max_ge l x).1
    · exact (fold_max_ge l y).2 x h
theorem maxL_mem {l : List Int} (h : l ≠ []) : maxL l ∈ l := by
  cases l with
  | nil => exact absurd rfl h
  | cons y l =>
    rcases fold_max_mem l y with h | h
    · show l.foldl max y ∈ _
      rw [h]; simp
    · exact List.mem_cons_of_mem _ h
theorem dist_gen (h1 : 1 ≤ n) (hhi : n ≤ 9) (hg : ∀ w ∈ ws, good n w) : LB (adjB ws) (dist9 ws) ∧ UB (adjB ws) 9 (dist9 ws) := by
  have hinit := init_at hhi ws [] (f0 z81) (by rw [f0_len]; simp [z81]) (by simpa using hg) (fun i j hi hj => by rw [f0_at i hi j hj]; rfl)
  simp only [List.nil_append] at hinit
  have hlb : LB (adjB ws) (ws.foldl fWay (f0 z81)) := fun i j hi hj => by
    rw [hinit i j hi hj]
    split
    · rename_i ha
      exact ⟨by omega, fun _ => ⟨j, ha, rfl⟩⟩
    · split
      · rename_i he
        exact ⟨by omega, fun _ => he⟩
      · exact ⟨by omega, fun hh => absurd hh (by omega)⟩
  have hub : UB (adjB ws) 0 (ws.foldl fWay (f0 z81)) := fun i j m hi hj hw => by
    rw [hinit i j hi hj]
    match m, hw with
    | 0, hw =>
      simp only [WK] at hw
      subst hw
      split
      · rename_i ha
        exfalso
        unfold adjB at ha
        rcases Bool.or_eq_true _ _ ▸ ha with ha | ha <;> (have := way_good hg ha; omega)
      · simp
    | 1, hw => simp only [WK] at hw; rw [if_pos hw]; exact Int.le_refl _
    | m + 2, ⟨q, hq, _⟩ => omega
  obtain ⟨_, a, b⟩ := fw_ok (by rw [ways_len, f0_len]; simp [z81]) hlb hub 9 (Nat.le_refl _)
  exact ⟨a, b⟩
theorem adj_in (h1 : 1 ≤ n) (hg : ∀ w ∈ ws, good n w) {a b : Nat} (h : adjB ws a b = true) : b < n.toNat := by
  have en : ((n.toNat : Nat) : Int) = n := by omega
  exact (adj_lt (n := n.toNat) (by rw [en]; exact hg) h).2
theorem small_dist (ws : W) : smallF (dist9 ws) = true := by
  unfold dist9
  exact small_fold _ (fun l k h => small_fK l k h) _ _ (small_init ws)
theorem reach_gen {d : List Int} (h1 : 1 ≤ n) (hhi : n ≤ 9) (hg : ∀ w ∈ ws, good n w) (lb : LB (adjB ws) d) (ub : UB (adjB ws) 9 d) (hs : ∀ i, d.getD i 0 ≤ 100) {j : Nat} (hj : j < n.toNat) : (at9 d 0 j = 100 ↔ ¬ R (adjB ws) n.toNat n.toNat 0 j = true) ∧ at9 d 0 j ≤ 100 := by
  have l0 := lb 0 j (by omega) (by omega)
  have h0 : at9 d 0 j ≤ 100 := hs _
  refine ⟨⟨fun e r => ?_, fun hr => ?_⟩, h0⟩
  · have r' := R_bound (m := n.toNat - 1) (by omega) (by omega) r
    obtain ⟨m, hm, hw⟩ := Wk_of_R r'
    have := ub 0 j m (by omega) (by omega) (WK_of (fun a b hab => by have := adj_in h1 hg hab; omega) hw)
    omega
  · by_cases c : at9 d 0 j < 100
    · exfalso
      have := R_of_Wk (n := n.toNat) (fun a b hab => adj_in h1 hg hab) (l0.2 c)
      exact hr (R_bound (by omega) (by omega) this)
    · omega
theorem reach_dist (h1 : 1 ≤ n) (hhi : n ≤ 9) (hg : ∀ w ∈ ws, good n w) {j : Nat} (hj : j < n.toNat) : (at9 (dist9 ws) 0 j = 100 ↔ ¬ R (adjB ws) n.toNat n.toNat 0 j = true) ∧ at9 (dist9 ws) 0 j ≤ 100 := by
  obtain ⟨lb, ub⟩ := dist_gen h1 hhi hg
  exact reach_gen h1 hhi hg lb ub (fun i => (small_get (small_dist ws) i).2) hj
def far0 (n : Int) (ws : W) : Int := maxL ((distN n ws).take n.toNat)
def joined (n : Int) (ws : W) : Bool := (List.range n.toNat).all fun v => R (adjB ws) n.toNat n.toNat 0 v
theorem far0_iff (h1 : 1 ≤ n) (hhi : n ≤ 9) (hg : ∀ w ∈ ws, good n w) : decide (far0 n ws = 100) = !joined n ws := by
  unfold far0
  rw [distN_of h1]
  have hl := dist9_len ws
  have hrd := fun j hj => reach_dist (ws := ws) h1 hhi hg (j := j) hj
  generalize dist9 ws = D at hl hrd ⊢
  have hat' : ∀ (d : List Int) (j : Nat), j < d.length → d[j]? = some (at9 d 0 j) := fun d j hj => by
    unfold at9
    rw [List.getD_eq_getElem?_getD, Nat.zero_mul, Nat.add_zero, List.getElem?_eq_getElem hj]; rfl
  have hat : ∀ j, j < n.toNat → D[j]? = some (at9 D 0 j) := fun j hj => hat' _ j (by omega)
  have mem : ∀ x, x ∈ D.take n.toNat ↔ ∃ j, j < n.toNat ∧ x = at9 D 0 j := fun x => by
    rw [List.mem_iff_getElem?]
    constructor
    · rintro ⟨j, hj⟩
      by_cases c : j < n.toNat
      · rw [List.getElem?_take_of_lt c, hat j c] at hj
        exact ⟨j, c, (Option.some.inj hj).symm⟩
      · rw [List.getElem?_take_eq_none (by omega)] at hj; cases hj
    · rintro ⟨j, hj, rfl⟩
      exact ⟨j, by rw [List.getElem?_take_of_lt hj, hat j hj]⟩
  have hne : D.take n.toNat ≠ [] := fun e => by
    have := (mem (at9 D 0 0)).2 ⟨0, by omega, rfl⟩
    rw [e] at this; cases this
  rw [Bool.eq_iff_iff, decide_eq_true_eq, Bool.not_eq_true']
  unfold joined
  rw [List.all_eq_false]
  constructor
  · intro e
    obtain ⟨j, hj, hx⟩ := (mem _).1 (maxL_mem hne)
    exact ⟨j, List.mem_range.2 hj, by simpa using (hrd _ hj).1.1 (by rw [← hx, e])⟩
  · rintro ⟨j, hj, hr⟩
    have hj := List.mem_range.1 hj
    have e := (hrd _ hj).1.2 hr
    have := le_maxL ((mem _).2 ⟨j, hj, rfl⟩)
    obtain ⟨i, hi, hx⟩ := (mem _).1 (maxL_mem hne)
    have := (hrd _ hi).2
    omega
theorem sub_chk (h : Ok n ws) {S : W} (hs : ∀ w ∈ S, w ∈ ws) (hn : S.Nodup) (hl : S.length ≤ 12) : chk n S = (bif joined n S then 0 else 5) ∧ (joined n S = true → Ok n S) := by
  have hlo := h.lo
  have hhi := h.hi
  have hg : ∀ w ∈ S, good n w := fun w hw => h.good w (hs w hw)
  have hj : joined n S = true → Ok n S := fun hj => sub_Ok h hs hn hl fun v hv => by
    unfold joined at hj
    rw [List.all_eq_true] at hj
    exact ⟨_, hj v (List.mem_range.2 hv)⟩
  refine ⟨?_, hj⟩
  cases c : joined n S with
  | true => exact chk_of (hj c)
  | false =>
    unfold chk
    rw [show inR n 1 9 = true by unfold inR; rw [decide_eq_true hlo, decide_eq_true hhi]; rfl, decide_eq_false (show ¬ 12 < S.length by omega), (waysErr_iff (n := n) S.length S rfl).2 ⟨hg, hn⟩]
    have e2 : near n S 0 n = fil n (R (adjB S) n.toNat n.toNat 0) := by
      unfold near
      rw [Int.min_self]
      exact nearK_fil hg (a := 0) (by omega) _
    have : decide (((near n S 0 n).length : Int) < n) = true := by
      rw [decide_eq_true_eq, e2]
      unfold joined at c
      rw [List.all_eq_false] at c
      obtain ⟨v, hv, hr⟩ := c
      exact fil_len.2 ⟨v, by have := List.mem_range.1 hv; omega, by simpa using hr⟩
    rw [this]
    rfl
end Brn
namespace Go.Ev.Burn
open Go Go.Ev
set_option maxRecDepth 1000000
set_option maxHeartbeats 0
set_option linter.unusedVariables false
noncomputable def W0 : Tab := { ((S22.addCall 53 c53).addCall 63 c63) with nest := true, flat := true, refm := fun f => match f with | 60 => [0] | f => S22.refm f }
noncomputable def WD : Tab := { W0 with ext := true }
theorem nf60 (ws : Ws) (t : TypeId) (i j : Int) : evBody WD 60 [osW 0 ws.length, vi i, vi j] [some (rW ws t)] = (bif decide (0 ≤ i) then bif decide (i ≤ j) then bif decide (j ≤ (↑(List.length ws) : Int)) then bif decide ((↑(List.length ws) : Int) = j) then bif i == j then some (osW 0 (List.length ws), [some ⟨[.run (.pair .i64) ws], false, t, false, false, none⟩]) else bif decide ((↑(List.length ws) : Int) < i) then bif decide (0 + i.toNat ≤ List.length ws) then bif decide (0 ≤ j) then bif decide (j ≤ (↑(List.length ws) : Int)) then bif decide (j.toNat + (List.length ws - j.toNat) ≤ List.length ws) then bif decide (0 + i.toNat + (dropTake ws j.toNat (List.length ws - j.toNat)).length ≤ List.length ws) then bif decide ((↑(i.toNat + (dropTake ws j.toNat (List.length ws - j.toNat)).length) : Int) < (↑(List.length ws) : Int)) then bif decide (0 + (↑(List.length ws) : Int).toNat ≤ (over ws (0 + i.toNat) (dropTake ws j.toNat (List.length ws - j.toNat)).length (dropTake ws j.toNat (List.length ws - j.toNat))).length) then bif decide ((↑(i.toNat + (dropTake ws j.toNat (List.length ws - j.toNat)).length) : Int) ≤ (↑(↑(List.length ws) : Int).toNat : Int)) then bif decide ((↑(i.toNat + (dropTake ws j.toNat (List.length ws - j.toNat)).length) : Int).toNat + ((↑(List.length ws) : Int).toNat - (↑(i.toNat + (dropTake ws j.toNat (List.length ws - j.toNat)).length) : Int).toNat) ≤ (over ws (0 + i.toNat) (dropTake ws j.toNat (List.length ws - j.toNat)).length (dropTake ws j.toNat (List.length ws - j.toNat))).length) then some (.os 0 0 0 (i.toNat + (dropTake ws j.toNat (List.length ws - j.toNat)).length) false false true, [some ⟨[.run (.pair .i64) (over (over ws (0 + i.toNat) (dropTake ws j.toNat (List.length ws - j.toNat)).length (dropTake ws j.toNat (List.length ws - j.toNat))) (↑(i.toNat + (dropTake ws j.toNat (List.length ws - j.toNat)).length) : Int).toNat ((↑(List.length ws) : Int).toNat - (↑(i.toNat + (dropTake ws j.toNat (List.length ws - j.toNat)).length) : Int).toNat) (List.replicate ((↑(List.length ws) : Int).toNat - (↑(i.toNat + (dropTake ws j.toNat (List.length ws - j.toNat)).length) : Int).toNat) (0, 0)))], false, t, false, false, none⟩]) else none else none else none else bif decide ((↑(i.toNat + (dropTake ws j.toNat (List.length ws - j.toNat)).length) : Int) ≤ (↑(List.length ws) : Int)) then bif decide ((↑(List.length ws) : Int) ≤ (↑(i.toNat + (dropTake ws j.toNat (List.length ws - j.toNat)).length) : Int)) then bif decide ((↑(i.toNat + (dropTake ws j.toNat (List.length ws - j.toNat)).length) : Int).toNat + ((↑(List.length ws) : Int).toNat - (↑(i.toNat + (dropTake ws j.toNat (List.length ws - j.toNat)).length) : Int).toNat) ≤ (over ws (0 + i.toNat) (dropTake ws j.toNat (List.length ws - j.toNat)).length (dropTake ws j.toNat (List.length ws - j.toNat))).length) then some (.os 0 0 0 (i.toNat + (dropTake ws j.toNat (List.length ws - j.toNat)).length) false false true, [some ⟨[.run (.pair .i64) (over (over ws (0 + i.toNat) (dropTake ws j.toNat (List.length ws - j.toNat)).length (dropTake ws j.toNat (List.length ws - j.toNat))) (↑(i.toNat + (dropTake ws j.toNat (List.length ws - j.toNat)).length) : Int).toNat ((↑(List.length ws) : Int).toNat - (↑(i.toNat + (dropTake ws j.toNat (List.length ws - j.toNat)).length) : Int).toNat) (List.replicate ((↑(List.length ws) : Int).toNat - (↑(i.toNat + (dropTake ws j.toNat (List.length ws - j.toNat)).length) : Int).toNat) (0, 0)))], false, t, false, false, none⟩]) else none else none else none else none else none else none else none else none else bif decide (0 ≤ i) then bif decide (i ≤ (↑(List.length ws) : Int)) then bif decide (0 ≤ j) then bif decide (j ≤ (↑(List.length ws) : Int)) then bif decide (j.toNat + (List.length ws - j.toNat) ≤ List.length ws) then bif decide (0 + i.toNat + (dropTake ws j.toNat (List.length ws - j.toNat)).length ≤ List.length ws) then bif decide ((↑(i.toNat + (dropTake ws j.toNat (List.length ws - j.toNat)).length) : Int) < (↑(List.length ws) : Int)) then bif decide (0 + (↑(List.length ws) : Int).toNat ≤ (over ws (0 + i.toNat) (dropTake ws j.toNat (List.length ws - j.toNat)).length (dropTake ws j.toNat (List.length ws - j.toNat))).length) then bif decide ((↑(i.toNat + (dropTake ws j.toNat (List.length ws - j.toNat)).length) : Int) ≤ (↑(↑(List.length ws) : Int).toNat : Int)) then bif decide ((↑(i.toNat + (dropTake ws j.toNat (List.length ws - j.toNat)).length) : Int).toNat + ((↑(List.length ws) : Int).toNat - (↑(i.toNat + (dropTake ws j.toNat (List.length ws - j.toNat)).length) : Int).toNat) ≤ (over ws (0 + i.toNat) (dropTake ws j.toNat (List.length ws - j.toNat)).length (dropTake ws j.toNat (List.length ws - j.toNat))).length) then some (.os 0 0 0 (i.toNat + (dropTake ws j.toNat (List.length ws - j.toNat)).length) false false true, [some { c := [.run (.pair .i64) (over (over ws (0 + i.toNat) (dropTake ws j.toNat (List.length ws - j.toNat)).length (dropTake ws j.toNat (List.length ws - j.toNat))) (↑(i.toNat + (dropTake ws j.toNat (List.length ws - j.toNat)).length) : Int).toNat ((↑(List.length ws) : Int).toNat - (↑(i.toNat + (dropTake ws j.toNat (List.length ws - j.toNat)).length) : Int).toNat) (List.replicate ((↑(List.length ws) : Int).toNat - (↑(i.toNat + (dropTake ws j.toNat (List.length ws - j.toNat)).length) : Int).toNat) (0, 0)))], vr := false, ty := t, fz := false, loose := false : Row }]) else none else none else none else bif decide ((↑(i.toNat + (dropTake ws j.toNat (List.length ws - j.toNat)).length) : Int) ≤ (↑(List.length ws) : Int)) then bif decide ((↑(List.length ws) : Int) ≤ (↑(i.toNat + (dropTake ws j.toNat (List.length ws - j.toNat)).length) : Int)) then bif decide ((↑(i.toNat + (dropTake ws j.toNat (List.length ws - j.toNat)).length) : Int).toNat + ((↑(List.length ws) : Int).toNat - (↑(i.toNat + (dropTake ws j.toNat (List.length ws - j.toNat)).length) : Int).toNat) ≤ (over ws (0 + i.toNat) (dropTake ws j.toNat (List.length ws - j.toNat)).length (dropTake ws j.toNat (List.length ws - j.toNat))).length) then some (.os 0 0 0 (i.toNat + (dropTake ws j.toNat (List.length ws - j.toNat)).length) false false true, [some { c := [.run (.pair .i64) (over (over ws (0 + i.toNat) (dropTake ws j.toNat (List.length ws - j.toNat)).length (dropTake ws j.toNat (List.length ws - j.toNat))) (↑(i.toNat + (dropTake ws j.toNat (List.length ws - j.toNat)).length) : Int).toNat ((↑(List.length ws) : Int).toNat - (↑(i.toNat + (dropTake ws j.toNat (List.length ws - j.toNat)).length) : Int).toNat) (List.replicate ((↑(List.length ws) : Int).toNat - (↑(i.toNat + (dropTake ws j.toNat (List.length ws - j.toNat)).length) : Int).toNat) (0, 0)))], vr := false, ty := t, fz := false, loose := false : Row }]) else none else none else none else none else none else none else none else none else none else bif decide (j ≤ (↑(List.length ws) : Int)) && decide ((↑(List.length ws) : Int) ≤ (↑(List.length ws) : Int)) then bif i == j then some (osW 0 (List.length ws), [some ⟨[.run (.pair .i64) ws], false, t, false, false, none⟩]) else bif decide ((↑(List.length ws) : Int) < i) then bif decide (0 + i.toNat ≤ List.length ws) then bif decide (0 ≤ j) then bif decide (j ≤ (↑(List.length ws) : Int)) then bif decide (j.toNat + (List.length ws - j.toNat) ≤ List.length ws) then bif decide (0 + i.toNat + (dropTake ws j.toNat (List.length ws - j.toNat)).length ≤ List.length ws) then bif decide ((↑(i.toNat + (dropTake ws j.toNat (List.length ws - j.toNat)).length) : Int) < (↑(List.length ws) : Int)) then bif decide (0 + (↑(List.length ws) : Int).toNat ≤ (over ws (0 + i.toNat) (dropTake ws j.toNat (List.length ws - j.toNat)).length (dropTake ws j.toNat (List.length ws - j.toNat))).length) then bif decide ((↑(i.toNat + (dropTake ws j.toNat (List.length ws - j.toNat)).length) : Int) ≤ (↑(↑(List.length ws) : Int).toNat : Int)) then bif decide ((↑(i.toNat + (dropTake ws j.toNat (List.length ws - j.toNat)).length) : Int).toNat + ((↑(List.length ws) : Int).toNat - (↑(i.toNat + (dropTake ws j.toNat (List.length ws - j.toNat)).length) : Int).toNat) ≤ (over ws (0 + i.toNat) (dropTake ws j.toNat (List.length ws - j.toNat)).length (dropTake ws j.toNat (List.length ws - j.toNat))).length) then some (.os 0 0 0 (i.toNat + (dropTake ws j.toNat (List.length ws - j.toNat)).length) false false true, [some { c := [.run (.pair .i64) (over (over ws (0 + i.toNat) (dropTake ws j.toNat (List.length ws - j.toNat)).length (dropTake ws j.toNat (List.length ws - j.toNat))) (↑(i.toNat + (dropTake ws j.toNat (List.length ws - j.toNat)).length) : Int).toNat ((↑(List.length ws) : Int).toNat - (↑(i.toNat + (dropTake ws j.toNat (List.length ws - j.toNat)).length) : Int).toNat) (List.replicate ((↑(List.length ws) : Int).toNat - (↑(i.toNat + (dropTake ws j.toNat (List.length ws - j.toNat)).length) : Int).toNat) (0, 0)))], vr := false, ty := t, fz := false, loose := false : Row }]) else none else none else none else bif decide ((↑(i.toNat + (dropTake ws j.toNat (List.length ws - j.toNat)).length) : Int) ≤ (↑(List.length ws) : Int)) then bif decide ((↑(List.length ws) : Int) ≤ (↑(i.toNat + (dropTake ws j.toNat (List.length ws - j.toNat)).length) : Int)) then bif decide ((↑(i.toNat + (dropTake ws j.toNat (List.length ws - j.toNat)).length) : Int).toNat + ((↑(List.length ws) : Int).toNat - (↑(i.toNat + (dropTake ws j.toNat (List.length ws - j.toNat)).length) : Int).toNat) ≤ (over ws (0 + i.toNat) (dropTake ws j.toNat (List.length ws - j.toNat)).length (dropTake ws j.toNat (List.length ws - j.toNat))).length) then some (.os 0 0 0 (i.toNat + (dropTake ws j.toNat (List.length ws - j.toNat)).length) false false true, [some { c := [.run (.pair .i64) (over (over ws (0 + i.toNat) (dropTake ws j.toNat (List.length ws - j.toNat)).length (dropTake ws j.toNat (List.length ws - j.toNat))) (↑(i.toNat + (dropTake ws j.toNat (List.length ws - j.toNat)).length) : Int).toNat ((↑(List.length ws) : Int).toNat - (↑(i.toNat + (dropTake ws j.toNat (List.length ws - j.toNat)).length) : Int).toNat) (List.replicate ((↑(List.length ws) : Int).toNat - (↑(i.toNat + (dropTake ws j.toNat (List.length ws - j.toNat)).length) : Int).toNat) (0, 0)))], vr := false, ty := t, fz := false, loose := false : Row }]) else none else none else none else none else none else none else none else none else bif decide (0 ≤ i) then bif decide (i ≤ (↑(List.length ws) : Int)) then bif decide (0 ≤ j) then bif decide (j ≤ (↑(List.length ws) : Int)) then bif decide (j.toNat + (List.length ws - j.toNat) ≤ List.length ws) then bif decide (0 + i.toNat + (dropTake ws j.toNat (List.length ws - j.toNat)).length ≤ List.length ws) then bif decide ((↑(i.toNat + (dropTake ws j.toNat (List.length ws - j.toNat)).length) : Int) < (↑(List.length ws) : Int)) then bif decide (0 + (↑(List.length ws) : Int).toNat ≤ (over ws (0 + i.toNat) (dropTake ws j.toNat (List.length ws - j.toNat)).length (dropTake ws j.toNat (List.length ws - j.toNat))).length) then bif decide ((↑(i.toNat + (dropTake ws j.toNat (List.length ws - j.toNat)).length) : Int) ≤ (↑(↑(List.length ws) : Int).toNat : Int)) then bif decide ((↑(i.toNat + (dropTake ws j.toNat (List.length ws - j.toNat)).length) : Int).toNat + ((↑(List.length ws) : Int).toNat - (↑(i.toNat + (dropTake ws j.toNat (List.length ws - j.toNat)).length) : Int).toNat) ≤ (over ws (0 + i.toNat) (dropTake ws j.toNat (List.length ws - j.toNat)).length (dropTake ws j.toNat (List.length ws - j.toNat))).length) then some (.os 0 0 0 (i.toNat + (dropTake ws j.toNat (List.length ws - j.toNat)).length) false false true, [some { c := [.run (.pair .i64) (over (over ws (0 + i.toNat) (dropTake ws j.toNat (List.length ws - j.toNat)).length (dropTake ws j.toNat (List.length ws - j.toNat))) (↑(i.toNat + (dropTake ws j.toNat (List.length ws - j.toNat)).length) : Int).toNat ((↑(List.length ws) : Int).toNat - (↑(i.toNat + (dropTake ws j.toNat (List.length ws - j.toNat)).length) : Int).toNat) (List.replicate ((↑(List.length ws) : Int).toNat - (↑(i.toNat + (dropTake ws j.toNat (List.length ws - j.toNat)).length) : Int).toNat) (0, 0)))], vr := false, ty := t, fz := false, loose := false : Row }]) else none else none else none else bif decide ((↑(i.toNat + (dropTake ws j.toNat (List.length ws - j.toNat)).length) : Int) ≤ (↑(List.length ws) : Int)) then bif decide ((↑(List.length ws) : Int) ≤ (↑(i.toNat + (dropTake ws j.toNat (List.length ws - j.toNat)).length) : Int)) then bif decide ((↑(i.toNat + (dropTake ws j.toNat (List.length ws - j.toNat)).length) : Int).toNat + ((↑(List.length ws) : Int).toNat - (↑(i.toNat + (dropTake ws j.toNat (List.length ws - j.toNat)).length) : Int).toNat) ≤ (over ws (0 + i.toNat) (dropTake ws j.toNat (List.length ws - j.toNat)).length (dropTake ws j.toNat (List.length ws - j.toNat))).length) then some (.os 0 0 0 (i.toNat + (dropTake ws j.toNat (List.length ws - j.toNat)).length) false false true, [some { c := [.run (.pair .i64) (over (over ws (0 + i.toNat) (dropTake ws j.toNat (List.length ws - j.toNat)).length (dropTake ws j.toNat (List.length ws - j.toNat))) (↑(i.toNat + (dropTake ws j.toNat (List.length ws - j.toNat)).length) : Int).toNat ((↑(List.length ws) : Int).toNat - (↑(i.toNat + (dropTake ws j.toNat (List.length ws - j.toNat)).length) : Int).toNat) (List.replicate ((↑(List.length ws) : Int).toNat - (↑(i.toNat + (dropTake ws j.toNat (List.length ws - j.toNat)).length) : Int).toNat) (0, 0)))], vr := false, ty := t, fz := false, loose := false : Row }]) else none else none else none else none else none else none else none else none else none else none else none else none else none) := by kernel_rfl
theorem nf61 (ws : Ws) : evBody W0 61 [.sl (.pair .i64) ws false] [] = (bif decide (0 < List.length ws) then bif bif decide (0 < List.length ws) then true else ([] : List Int).isEmpty then bif room (0 + List.length ws) 16 then some (osW 0 (0 + List.length ws), [some ⟨[.run (.pair .i64) ws], false, 66, false, false, none⟩]) else none else none else none) := by kernel_rfl
theorem nf62 (n : Int) (ws : Ws) : evBody W0 62 [.agg [.sc (.int .i64 n), .sl (.pair .i64) ws false] false] [] = (bif sm ws && decide (1 ≤ n) && List.all ws fun w => decide (0 ≤ w.fst) && decide (w.fst < 9) && decide (0 ≤ w.snd) && decide (w.snd < 9) then bif decide (List.map (fun (x : AV) => match x with | .run e l => l.length * e.size | _ => 1) [.run (.int .i64) (Brn.distN n ws)] = List.map (fun (x : AV) => match x with | .run e l => l.length * e.size | _ => 1) ((some [.run (.int .i64) (List.replicate 81 0)]).getD [])) then bif decide (0 ≤ n) then bif decide (n ≤ (↑9 : Int)) then bif decide (9 ≤ (Brn.distN n ws).length) then some (.os 0 0 0 n.toNat false false false, [some ⟨[.run (.int .i64) (bif decide (n = 0) then [] else Brn.dist9 ws)], true, 74, false, false, none⟩]) else none else none else none else none else none) := by kernel_rfl
theorem nl59 (again : Ag) (m i : Int) (l : List Int) : lpStep W0 59 5 0 (lpc W0 59 5) again [lI l, vi m, vi i] [] = (bif decide (i < (↑l.length : Int)) then bif decide (0 ≤ i) then bif decide (i < (↑l.length : Int)) then oM l[i.toNat]? fun x => again [.sl (.int .i64) l false, vi (if x > m then x else m), vi (IntKind.i64.wrap (i + 1))] [] else none else none else some (.ext 0, [.sl (.int .i64) l false, vi m, vi i], [])) := by kernel_rfl
def l59_5t (m : Int) (l : List Int) : Tree (Out × List AV × Hp) := .br (sm l && decide (0 < l.length) && decide (m = l.getD 0 0)) (.leaf (.ext 0, [lI l, vi (Brn.maxL l), vi l.length], [])) .fail
def l59_5 (base : Nat) (kv : List AV) (H : Hp) : Tree (Out × List AV × Hp) := match Nat.beq base 0, kv, H with
  | true, [(.sl (.int .i64) l false), (.sc (.int .i64 m)), (.sc (.int .i64 1))], [] => l59_5t m l
  | _, _, _ => .fail
theorem l59_5_ok {T : Tab} (hT : TabOK T) (hlo : loopOf T.fn 59 5 = some (lpc T 59 5)) (h : ∀ (m : Int) (l : List Int) (r : Out × List AV × Hp), (l59_5t m l).val = some r → ∃ mm, lpRun T 59 5 0 (lpc T 59 5) mm [lI l, vi m, vi 1] [] = some r) : ∀ base kv H o kv' H', (l59_5 base kv H).val = some (o, kv', H') → LoopOK T 59 5 base kv H o kv' H' := by
  intro base kv H o kv' H' hv
  unfold l59_5 at hv
  split at hv
  · rename_i hb
    obtain rfl := Nat.eq_of_beq_eq_true hb
    exact loop_ok hT hlo (h _ _ _ hv)
  · cases hv
noncomputable def W1 : Tab := (W0).addLoop 59 5 l59_5
theorem nf59 (l : List Int) : evBody W1 59 [lI l] [] = (bif decide ((↑l.length : Int) < 1) then none else bif decide (0 < (↑l.length : Int)) then oM l[0]? fun x => bif sm l && decide (0 < l.length) && decide (x = l.getD 0 0) then some (vi (Brn.maxL l), []) else none else none) := by kernel_rfl
end Go.Ev.Burn
namespace Go.Ev.Burn
open Go Go.Ev
set_option maxRecDepth 1000000
set_option maxHeartbeats 0
set_option linter.unusedVariables false
abbrev aHx (n : Int) (ws : Ws) : AV := .agg [.sc (.int .i64 n), .sl (.pair .i64) ws false] false
def _root_.Brn.delW (ws : Ws) (i : Nat) : Ws := ws.eraseIdx i ++ [(0, 0)]
def c60t (ws : Ws) (t : TypeId) (i j : Int) (k : Nat) : Tree (AV × Hp) := .br (decide (0 ≤ i) && decide (j = i + 1) && decide (i < (ws.length : Int)) && decide (k = ws.length) && sm ws) (.leaf (.os 0 0 0 (k - 1) false false true, [some (rW (Brn.delW ws i.toNat) t)])) .fail
def c60 (args : List AV) (H : Hp) : Tree (AV × Hp) := match args, H with
  | [(.os 0 0 0 k true false true), (.sc (.int .i64 i)), (.sc (.int .i64 j))], [some ⟨[.run (.pair .i64) ws], false, t, false, false, none⟩] => c60t ws t i j k
  | _, _ => .fail
theorem c60_ok {T : Tab} (hT : TabOK T) (h : ∀ (ws : Ws) (t : TypeId) (i j : Int) (k : Nat) (r : AV × Hp), (c60t ws t i j k).val = some r → evBody T 60 [osW 0 k, vi i, vi j] [some (rW ws t)] = some r) : ∀ args H v H', (c60 args H).val = some (v, H') → CallOK T 60 args H v H' := by
  intro args H v H' hv
  unfold c60 at hv
  split at hv
  · exact evBody_sound hT (h _ _ _ _ _ _ hv)
  · cases hv
def c61t (ws : Ws) : Tree (AV × Hp) := .br (sm ws && decide (0 < ws.length)) (.leaf (osW 0 ws.length, [some (rW ws 66)])) .fail
def c61 (args : List AV) (H : Hp) : Tree (AV × Hp) := match args, H with
  | [.sl (.pair .i64) ws false], [] => c61t ws
  | _, _ => .fail
theorem c61_ok {T : Tab} (hT : TabOK T) (h : ∀ (ws : Ws) (r : AV × Hp), (c61t ws).val = some r → evBody T 61 [.sl (.pair .i64) ws false] [] = some r) : ∀ args H v H', (c61 args H).val = some (v, H') → CallOK T 61 args H v H' := by
  intro args H v H' hv
  unfold c61 at hv
  split at hv
  · exact evBody_sound hT (h _ _ hv)
  · cases hv
def _root_.Brn.wIn9 (ws : Ws) : Bool := ws.all fun w => decide (0 ≤ w.1) && decide (w.1 < 9) && decide (0 ≤ w.2) && decide (w.2 < 9)
def c62t (n : Int) (ws : Ws) : Tree (AV × Hp) := .br (sm ws && decide (1 ≤ n) && decide (n ≤ 9) && Brn.wIn9 ws) (.leaf (.os 0 0 0 n.toNat false false false, [some (rD (Brn.distN n ws))])) .fail
def c62 (args : List AV) (H : Hp) : Tree (AV × Hp) := match args, H with
  | [(.agg [.sc (.int .i64 n), .sl (.pair .i64) ws false] false)], [] => c62t n ws
  | _, _ => .fail
theorem c62_ok {T : Tab} (hT : TabOK T) (h : ∀ (n : Int) (ws : Ws) (r : AV × Hp), (c62t n ws).val = some r → evBody T 62 [aHx n ws] [] = some r) : ∀ args H v H', (c62 args H).val = some (v, H') → CallOK T 62 args H v H' := by
  intro args H v H' hv
  unfold c62 at hv
  split at hv
  · exact evBody_sound hT (h _ _ _ hv)
  · cases hv
def c59t (l : List Int) : Tree (AV × Hp) := .br (sm l && decide (0 < l.length)) (.leaf (vi (Brn.maxL l), [])) .fail
def c59 (args : List AV) (H : Hp) : Tree (AV × Hp) := match args, H with
  | [(.sl (.int .i64) l false)], [] => c59t l
  | _, _ => .fail
theorem c59_ok {T : Tab} (hT : TabOK T) (h : ∀ (l : List Int) (r : AV × Hp), (c59t l).val = some r → evBody T 59 [lI l] [] = some r) : ∀ args H v H', (c59 args H).val = some (v, H') → CallOK T 59 args H v H' := by
  intro args H v H' hv
  unfold c59 at hv
  split at hv
  · exact evBody_sound hT (h _ _ hv)
  · cases hv
noncomputable def W2 : Tab := ((((W1).addCall 59 c59).addCall 60 c60).addCall 61 c61).addCall 62 c62
theorem nl13_7 (again : Ag) (n d m i : Int) (ws : Ws) (z : Bool) : lpStep W2 13 7 0 (lpc W2 13 7) again [vb false, ps 0, vi n, vi d, vi m, vi i] [some (rHo n 1 ws.length), some (rWz ws 66 z)] = (bif decide (i < m) then bif sm ws && decide (0 < List.length ws) then bif decide (0 ≤ i) && decide (IntKind.i64.wrap (i + 1) = i + 1) && decide (i < (↑(List.length ws) : Int)) && decide (List.length ws = List.length ws) && sm ws then bif decide (0 + (List.length ws - 1) ≤ List.length (Brn.delW ws i.toNat)) then bif sm (dropTake (Brn.delW ws i.toNat) 0 (List.length ws - 1)) then bif decide (0 + (List.length ws - 1) ≤ List.length (Brn.delW ws i.toNat)) then bif sm (dropTake (Brn.delW ws i.toNat) 0 (List.length ws - 1)) && decide (1 ≤ n) && decide (n ≤ 9) && Brn.wIn9 (dropTake (Brn.delW ws i.toNat) 0 (List.length ws - 1)) then bif decide (0 + n.toNat ≤ (Brn.distN n (dropTake (Brn.delW ws i.toNat) 0 (List.length ws - 1))).length) then bif sm (dropTake (Brn.distN n (dropTake (Brn.delW ws i.toNat) 0 (List.length ws - 1))) 0 n.toNat) && decide (0 < (dropTake (Brn.distN n (dropTake (Brn.delW ws i.toNat) 0 (List.length ws - 1))) 0 n.toNat).length) then bif Brn.maxL (dropTake (Brn.distN n (dropTake (Brn.delW ws i.toNat) 0 (List.length ws - 1))) 0 n.toNat) == 100 then bif Brn.chk n (dropTake (Brn.delW ws i.toNat) 0 (List.length ws - 1)) != 5 then some (.ret, [vb false, .ps 0 0 0 0, vi n, vi d, vi m, vi i], [some ⟨[vi n, osW 1 (List.length ws)], true, 24, false, true, none⟩, some ⟨[.run (.pair .i64) ws], false, 66, z, false, none⟩]) else again [vb false, .ps 0 0 0 0, vi n, vi d, vi m, vi (IntKind.i64.wrap (i + 1))] [some ⟨[vi n, osW 1 (List.length ws)], true, 24, false, true, none⟩, some ⟨[.run (.pair .i64) ws], false, 66, z, false, none⟩] else bif Brn.chk n (dropTake (Brn.delW ws i.toNat) 0 (List.length ws - 1)) != 0 then some (.ret, [vb false, .ps 0 0 0 0, vi n, vi d, vi m, vi i], [some ⟨[vi n, osW 1 (List.length ws)], true, 24, false, true, none⟩, some ⟨[.run (.pair .i64) ws], false, 66, z, false, none⟩]) else bif decide (Brn.dayV n (dropTake (Brn.delW ws i.toNat) 0 (List.length ws - 1)) < d) then some (.ret, [vb false, .ps 0 0 0 0, vi n, vi d, vi m, vi i], [some ⟨[vi n, osW 1 (List.length ws)], true, 24, false, true, none⟩, some ⟨[.run (.pair .i64) ws], false, 66, z, false, none⟩]) else again [vb false, .ps 0 0 0 0, vi n, vi d, vi m, vi (IntKind.i64.wrap (i + 1))] [some ⟨[vi n, osW 1 (List.length ws)], true, 24, false, true, none⟩, some ⟨[.run (.pair .i64) ws], false, 66, z, false, none⟩] else none else none else none else none else none else none else none else none else some (.ext 0, [vb false, .ps 0 0 0 0, vi n, vi d, vi m, vi i], [some ⟨[vi n, osW 1 (List.length ws)], true, 24, false, true, none⟩, some ⟨[.run (.pair .i64) ws], false, 66, z, false, none⟩])) := by kernel_rfl
theorem nl13_23n (again : Ag) (n d s q7 i7 m i : Int) (fo z : Bool) (ws : Ws) : lpStep W2 13 23 0 (lpc W2 13 23) again [ps 0, vi n, vi d, vb fo, vi s, ps 1, vi q7, vi i7, osW 2 ws.length, vi m, vi i] [some (rHo n 2 ws.length), some (rHz n), some (rWz ws 66 z)] = (bif decide (i < m) then bif decide (0 ≤ i) then bif decide (i < (↑(List.length ws) : Int)) then oM ws[i.toNat]? fun x => bif decide (0 ≤ i) then bif IntKind.i64.wrap (↑(BitVec.ofInt 64 (s.fdiv (2 ^ Min.min i.toNat 64)) &&& BitVec.ofInt 64 1).toNat : Int) == 1 then again [.ps 0 0 0 0, vi n, vi d, vb fo, vi s, .ps 1 0 0 0, vi q7, vi i7, osW 2 (List.length ws), vi m, vi (IntKind.i64.wrap (i + 1))] [some ⟨[vi n, osW 2 (List.length ws)], true, 24, false, true, none⟩, some ⟨[vi n, osW 3 1], true, 24, false, true, none⟩, some ⟨[.run (.pair .i64) ws], false, 66, z, false, none⟩, some ⟨[.run (.pair .i64) [(x.fst, x.snd)]], false, 66, false, false, none⟩] else again [.ps 0 0 0 0, vi n, vi d, vb fo, vi s, .ps 1 0 0 0, vi q7, vi i7, osW 2 (List.length ws), vi m, vi (IntKind.i64.wrap (i + 1))] [some ⟨[vi n, osW 2 (List.length ws)], true, 24, false, true, none⟩, some ⟨[vi n, .sc (.slice none 0 0)], true, 24, false, false, none⟩, some ⟨[.run (.pair .i64) ws], false, 66, z, false, none⟩] else none else none else none else some (.ext 4, [.ps 0 0 0 0, vi n, vi d, vb fo, vi s, .ps 1 0 0 0, vi q7, vi i7, osW 2 (List.length ws), vi m, vi i], [some ⟨[vi n, osW 2 (List.length ws)], true, 24, false, true, none⟩, some ⟨[vi n, .sc (.slice none 0 0)], true, 24, false, false, none⟩, some ⟨[.run (.pair .i64) ws], false, 66, z, false, none⟩])) := by kernel_rfl
theorem nl13_23s (again : Ag) (n d s q7 i7 m i : Int) (fo z : Bool) (ws vs : Ws) (t : TypeId) : lpStep W2 13 23 0 (lpc W2 13 23) again [ps 0, vi n, vi d, vb fo, vi s, ps 1, vi q7, vi i7, osW 2 ws.length, vi m, vi i] [some (rHo n 2 ws.length), some (rHo n 3 vs.length), some (rWz ws 66 z), some (rW vs t)] = (bif decide (i < m) then bif decide (0 ≤ i) then bif decide (i < (↑(List.length ws) : Int)) then oM ws[i.toNat]? fun x => bif decide (0 ≤ i) then bif IntKind.i64.wrap (↑(BitVec.ofInt 64 (s.fdiv (2 ^ Min.min i.toNat 64)) &&& BitVec.ofInt 64 1).toNat : Int) == 1 then bif room (List.length vs + 1) 16 then again [.ps 0 0 0 0, vi n, vi d, vb fo, vi s, .ps 1 0 0 0, vi q7, vi i7, osW 2 (List.length ws), vi m, vi (IntKind.i64.wrap (i + 1))] [some ⟨[vi n, osW 2 (List.length ws)], true, 24, false, true, none⟩, some ⟨[vi n, osW 3 (List.length vs + 1)], true, 24, false, true, none⟩, some ⟨[.run (.pair .i64) ws], false, 66, z, false, none⟩, some ⟨[.run (.pair .i64) (vs ++ [(x.fst, x.snd)])], false, 66, false, false, none⟩] else none else again [.ps 0 0 0 0, vi n, vi d, vb fo, vi s, .ps 1 0 0 0, vi q7, vi i7, osW 2 (List.length ws), vi m, vi (IntKind.i64.wrap (i + 1))] [some ⟨[vi n, osW 2 (List.length ws)], true, 24, false, true, none⟩, some ⟨[vi n, osW 3 (List.length vs)], true, 24, false, true, none⟩, some ⟨[.run (.pair .i64) ws], false, 66, z, false, none⟩, some ⟨[.run (.pair .i64) vs], false, t, false, false, none⟩] else none else none else none else some (.ext 4, [.ps 0 0 0 0, vi n, vi d, vb fo, vi s, .ps 1 0 0 0, vi q7, vi i7, osW 2 (List.length ws), vi m, vi i], [some ⟨[vi n, osW 2 (List.length ws)], true, 24, false, true, none⟩, some ⟨[vi n, osW 3 (List.length vs)], true, 24, false, true, none⟩, some ⟨[.run (.pair .i64) ws], false, 66, z, false, none⟩, some ⟨[.run (.pair .i64) vs], false, t, false, false, none⟩])) := by kernel_rfl
end Go.Ev.Burn
