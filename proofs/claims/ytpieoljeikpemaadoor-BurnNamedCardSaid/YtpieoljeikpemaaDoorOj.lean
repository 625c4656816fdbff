/- Other numbers of the places: as many days, and as many lists of fires. -/
import Derived.Test.YtpieoljeikpemaaDoorOe
set_option linter.unusedVariables false
set_option linter.unusedSimpArgs false
namespace Brn
open Go
set_option linter.unusedVariables false
variable {n : Int} {ws : W}
structure Bij (m : Nat) (f g : Nat → Nat) : Prop where
  lt : ∀ i, i < m → f i < m
  ltg : ∀ i, i < m → g i < m
  gf : ∀ i, i < m → g (f i) = i
  fg : ∀ i, i < m → f (g i) = i
def ren (f : Nat → Nat) (w : Int × Int) : Int × Int := (min (f w.1.toNat : Int) (f w.2.toNat), max (f w.1.toNat : Int) (f w.2.toNat))
def renW (f : Nat → Nat) (ws : W) : W := (ws.map (ren f)).reverse
def renL (f : Nat → Nat) (l : List Int) : List Int := l.map fun y => (f y.toNat : Int)
theorem way_mem {ws : W} {a b : Int} : way ws a b = true ↔ (a, b) ∈ ws := by
  unfold way
  rw [List.any_eq_true]
  constructor
  · rintro ⟨w, hw, h⟩
    have h' : w.1 = a ∧ w.2 = b := by simpa using h
    obtain ⟨x, y⟩ := w
    obtain ⟨rfl, rfl⟩ := h'
    exact hw
  · intro h; exact ⟨_, h, by simp⟩
theorem wayErr_iff {before : W} {w : Int × Int} : wayErr n before w = 0 ↔ good n w ∧ w ∉ before := by
  constructor
  · intro h
    unfold wayErr at h
    cases a : (!inR w.1 0 (n - 1) || !inR w.2 0 (n - 1)) with
    | true => rw [a] at h; cases h
    | false =>
      rw [a] at h
      simp only [cond_false] at h
      have a' : (0 ≤ w.1 ∧ w.1 ≤ n - 1) ∧ 0 ≤ w.2 ∧ w.2 ≤ n - 1 := by simpa [inR] using a
      cases b : decide (w.2 ≤ w.1) with
      | true => rw [b] at h; cases h
      | false =>
        rw [b] at h
        simp only [cond_false] at h
        have b' := of_decide_eq_false b
        cases c : way before w.1 w.2 with
        | true => rw [c] at h; cases h
        | false =>
          refine ⟨⟨by omega, by omega, by omega⟩, fun hm => ?_⟩
          rw [way_mem.2 hm] at c
          cases c
  · rintro ⟨hg, hn⟩
    refine wayErr_zero hg ?_
    cases c : way before w.1 w.2 with
    | false => rfl
    | true => exact absurd (way_mem.1 c) hn
theorem waysErr_iff : ∀ (k : Nat) (ws : W), ws.length = k → (waysErr n ws = 0 ↔ (∀ w ∈ ws, good n w) ∧ ws.Nodup)
  | 0, ws, h => by
    obtain rfl := List.length_eq_zero_iff.1 h
    exact ⟨fun _ => ⟨fun w hw => (by cases hw), List.nodup_nil⟩, fun _ => rfl⟩
  | k + 1, ws, h => by
    rcases List.eq_nil_or_concat ws with rfl | ⟨l, w, rfl⟩
    · cases h
    · have ih := waysErr_iff k l (by simpa using h)
      have e : l.concat w = l ++ [w] := by simp
      rw [e] at h ⊢
      rw [waysErr_snoc]
      cases hc : waysErr n l == 0 with
      | false =>
        have hc := beq_eq_false_iff_ne.1 hc
        simp only [cond_false]
        constructor
        · intro h0; exact absurd h0 hc
        · rintro ⟨h1, h2⟩
          exact absurd (ih.2 ⟨fun x hx => h1 x (by simp [hx]), (List.nodup_append.1 h2).1⟩) hc
      | true =>
        have hc := ih.1 (beq_iff_eq.1 hc)
        simp only [cond_true]
        rw [wayErr_iff, List.nodup_append]
        constructor
        · rintro ⟨h1, h2⟩
          refine ⟨fun x hx => ?_, hc.2, by simp, fun a ha b hb e9 => ?_⟩
          · rcases List.mem_append.1 hx with hx | hx
            · exact hc.1 x hx
            · rw [List.mem_singleton] at hx; subst hx; exact h1
          · rw [List.mem_singleton] at hb; subst hb; subst e9; exact h2 ha
        · rintro ⟨h1, h2, h3, h4⟩
          exact ⟨h1 w (by simp), fun hm => h4 w hm w (by simp) rfl⟩
theorem adj_iff {p q : Nat} : adjB ws p q = true ↔ ((p : Int), (q : Int)) ∈ ws ∨ ((q : Int), (p : Int)) ∈ ws := by
  unfold adjB
  rw [Bool.or_eq_true, way_mem, way_mem]
theorem mem_renW {f : Nat → Nat} {x : Int × Int} : x ∈ renW f ws ↔ ∃ w ∈ ws, ren f w = x := by
  unfold renW
  rw [List.mem_reverse, List.mem_map]
theorem ren_adj {m : Nat} {f g : Nat → Nat} (hb : Bij m f g) (hg : ∀ w ∈ ws, good (m : Int) w) {p q : Nat} (hp : p < m) (hq : q < m) : adjB (renW f ws) (f p) (f q) = adjB ws p q := by
  have inj : ∀ a b, a < m → b < m → f a = f b → a = b := fun a b ha hb' e => by rw [← hb.gf a ha, e, hb.gf b hb']
  have key : ∀ x y : Nat, x < m → y < m → ((f x : Int), (f y : Int)) ∈ renW f ws → ((x : Int), (y : Int)) ∈ ws ∨ ((y : Int), (x : Int)) ∈ ws := fun x y hx hy h => by
    obtain ⟨⟨a, b⟩, hw, e⟩ := mem_renW.1 h
    obtain ⟨h1, h2, h3⟩ := hg _ hw
    dsimp only at h1 h2 h3
    obtain ⟨a, rfl⟩ := Int.eq_ofNat_of_zero_le h1
    obtain ⟨b, rfl⟩ := Int.eq_ofNat_of_zero_le (show 0 ≤ b by omega)
    unfold ren at e
    simp only [Int.toNat_natCast, Prod.mk.injEq] at e
    rcases Nat.le_total (f a) (f b) with hle | hle
    · have e1 := inj a x (by omega) hx (by omega)
      have e2 := inj b y (by omega) hy (by omega)
      subst e1 e2
      exact .inl hw
    · have e1 := inj b x (by omega) hx (by omega)
      have e2 := inj a y (by omega) hy (by omega)
      subst e1 e2
      exact .inr hw
  have key2 : ∀ x y : Nat, ((x : Int), (y : Int)) ∈ ws → ((f x : Int), (f y : Int)) ∈ renW f ws ∨ ((f y : Int), (f x : Int)) ∈ renW f ws := fun x y h => by
    have e : ren f ((x : Int), (y : Int)) ∈ renW f ws := mem_renW.2 ⟨_, h, rfl⟩
    unfold ren at e
    simp only [Int.toNat_natCast] at e
    rcases Nat.le_total (f x) (f y) with hle | hle
    · rw [show min (f x : Int) (f y) = f x by omega, show max (f x : Int) (f y) = f y by omega] at e
      exact .inl e
    · rw [show min (f x : Int) (f y) = f y by omega, show max (f x : Int) (f y) = f x by omega] at e
      exact .inr e
  rw [Bool.eq_iff_iff, adj_iff, adj_iff]
  constructor
  · rintro (h | h)
    · exact key p q hp hq h
    · exact (key q p hq hp h).symm
  · rintro (h | h)
    · exact key2 p q h
    · exact (key2 q p h).symm
theorem ren_R {m : Nat} {f g : Nat → Nat} {adj adj' : Nat → Nat → Bool} (hb : Bij m f g) (ha : ∀ p q, p < m → q < m → adj' (f p) (f q) = adj p q) : ∀ (k p v : Nat), p < m → v < m → R adj' m k (f p) (f v) = R adj m k p v
  | 0, p, v, hp, hv => by
    rw [Bool.eq_iff_iff, R_zero, R_zero]
    exact ⟨fun e => by rw [← hb.gf p hp, e, hb.gf v hv], fun e => by rw [e]⟩
  | k + 1, p, v, hp, hv => by
    rw [Bool.eq_iff_iff, R_succ, R_succ, ren_R hb ha k p v hp hv]
    constructor
    · rintro (h | ⟨q, hq, h1, h2⟩)
      · exact .inl h
      · refine .inr ⟨g q, hb.ltg q hq, ?_, ?_⟩
        · rw [← ha p (g q) hp (hb.ltg q hq), hb.fg q hq]; exact h1
        · rw [← ren_R hb ha k (g q) v (hb.ltg q hq) hv, hb.fg q hq]; exact h2
    · rintro (h | ⟨q, hq, h1, h2⟩)
      · exact .inl h
      · exact .inr ⟨f q, hb.lt q hq, by rw [ha p q hp hq]; exact h1, by rw [ren_R hb ha k q v hq hv]; exact h2⟩
theorem ren_good {m : Nat} {f g : Nat → Nat} (hb : Bij m f g) (hg : ∀ w ∈ ws, good (m : Int) w) : ∀ w ∈ renW f ws, good (m : Int) w := fun w hw0 => by
  obtain ⟨⟨a, b⟩, hw, rfl⟩ := mem_renW.1 hw0
  obtain ⟨h1, h2, h3⟩ := hg _ hw
  dsimp only at h1 h2 h3
  obtain ⟨a, rfl⟩ := Int.eq_ofNat_of_zero_le h1
  obtain ⟨b, rfl⟩ := Int.eq_ofNat_of_zero_le (show 0 ≤ b by omega)
  have la := hb.lt a (by omega)
  have lb := hb.lt b (by omega)
  have hne : f a ≠ f b := fun e => by
    have : a = b := by rw [← hb.gf a (by omega), e, hb.gf b (by omega)]
    omega
  unfold ren good
  simp only [Int.toNat_natCast]
  omega
theorem ren_nodup {m : Nat} {f g : Nat → Nat} (hb : Bij m f g) (hg : ∀ w ∈ ws, good (m : Int) w) (hn : ws.Nodup) : (renW f ws).Nodup := by
  unfold renW
  rw [(List.reverse_perm (ws.map (ren f))).nodup_iff]
  unfold List.Nodup
  rw [List.pairwise_map]
  refine List.Pairwise.imp_of_mem (fun {x y} hx hy hne e => hne ?_) hn
  obtain ⟨a, b⟩ := x
  obtain ⟨c, d⟩ := y
  obtain ⟨h1, h2, h3⟩ := hg _ hx
  obtain ⟨k1, k2, k3⟩ := hg _ hy
  dsimp only at h1 h2 h3 k1 k2 k3
  have inj : ∀ a b, a < m → b < m → f a = f b → a = b := fun a b ha hb' e => by rw [← hb.gf a ha, e, hb.gf b hb']
  obtain ⟨a, rfl⟩ := Int.eq_ofNat_of_zero_le h1
  obtain ⟨b, rfl⟩ := Int.eq_ofNat_of_zero_le (show 0 ≤ b by omega)
  obtain ⟨c, rfl⟩ := Int.eq_ofNat_of_zero_le k1
  obtain ⟨d, rfl⟩ := Int.eq_ofNat_of_zero_le (show 0 ≤ d by omega)
  unfold ren at e
  simp only [Int.toNat_natCast, Prod.mk.injEq] at e
  have hc : (f a = f c ∧ f b = f d) ∨ (f a = f d ∧ f b = f c) := by omega
  rcases hc with ⟨e1, e2⟩ | ⟨e1, e2⟩
  · rw [inj a c (by omega) (by omega) e1, inj b d (by omega) (by omega) e2]
  · have x1 := inj a d (by omega) (by omega) e1
    have x2 := inj b c (by omega) (by omega) e2
    omega
theorem chk_of (h : Ok n ws) : chk n ws = 0 := by
  have hlo := h.lo
  have hhi := h.hi
  have hf := h.few
  unfold chk
  rw [show inR n 1 9 = true by unfold inR; rw [decide_eq_true h.lo, decide_eq_true h.hi]; rfl, decide_eq_false (show ¬ 12 < ws.length by omega), h.ways]
  have e2 : near n ws 0 n = fil n (R (adjB ws) n.toNat n.toNat 0) := by
    unfold near
    rw [Int.min_self]
    exact nearK_fil h.good (a := 0) (by omega) _
  have : decide (((near n ws 0 n).length : Int) < n) = false := by
    rw [decide_eq_false_iff_not, e2]
    intro hlt
    obtain ⟨v, hv, hb⟩ := fil_len.1 hlt
    rw [h.all v hv] at hb; cases hb
  rw [this]
  rfl
theorem ren_Ok {f g : Nat → Nat} (h : Ok n ws) (hb : Bij n.toNat f g) : Ok n (renW f ws) := by
  have hlo := h.lo
  have en : ((n.toNat : Nat) : Int) = n := by omega
  have hg : ∀ w ∈ ws, good (n.toNat : Int) w := by rw [en]; exact h.good
  have hw := (waysErr_iff (n := n) ws.length ws rfl).1 h.ways
  refine ⟨h.lo, h.hi, by unfold renW; rw [List.length_reverse, List.length_map]; exact h.few, ?_, fun v hv => ?_⟩
  · refine (waysErr_iff (n := n) _ _ rfl).2 ⟨?_, ren_nodup hb hg hw.2⟩
    have := ren_good hb hg
    rw [en] at this
    exact this
  · have h0 := hb.fg 0 (by omega)
    have hv' := hb.fg v (by omega)
    have l0 := hb.ltg 0 (by omega)
    have lv := hb.ltg v (by omega)
    have e := ren_R hb (fun p q hp hq => ren_adj hb hg hp hq) n.toNat (g 0) (g v) l0 lv
    rw [h0, hv'] at e
    rw [e]
    exact h.conn (by omega) (by omega) (by omega)
theorem enB_iff (h : Ok n ws) {fs : List Int} (hf : ∀ p ∈ fs, 0 ≤ p ∧ p < n) (h0 : 0 < fs.length) : enB n ws fs = true ↔ ∀ v : Nat, v < n.toNat → bSet (adjB ws) n.toNat fs (fs.length - 1) v = true := by
  have hlo := h.lo
  rw [← enough_enB h hf h0]
  unfold enoughD
  rw [List.all_eq_true]
  constructor
  · intro ha v hv
    rw [← enD_eq h hf h0 (by omega)]
    exact ha v (List.mem_range.2 hv)
  · intro ha v hv
    have hv := List.mem_range.1 hv
    rw [enD_eq h hf h0 (by omega)]
    exact ha v hv
theorem renL_len (f : Nat → Nat) (l : List Int) : (renL f l).length = l.length := by simp [renL]
theorem renL_in {f g : Nat → Nat} (hn : 1 ≤ n) (hb : Bij n.toNat f g) {fs : List Int} (hf : ∀ p ∈ fs, 0 ≤ p ∧ p < n) : ∀ p ∈ renL f fs, 0 ≤ p ∧ p < n := fun p hp => by
  obtain ⟨y, hy, rfl⟩ := List.mem_map.1 hp
  have := hf y hy
  have := hb.lt y.toNat (by omega)
  omega
theorem renL_get (f : Nat → Nat) {fs : List Int} {i : Nat} (hi : i < fs.length) : (renL f fs).getD i 0 = (f (fs.getD i 0).toNat : Int) := by
  unfold renL
  rw [List.getD_eq_getElem?_getD, List.getElem?_map, List.getElem?_eq_getElem hi, List.getD_eq_getElem?_getD, List.getElem?_eq_getElem hi]
  rfl
theorem ren_enB {f g : Nat → Nat} (h : Ok n ws) (hb : Bij n.toNat f g) {fs : List Int} (hf : ∀ p ∈ fs, 0 ≤ p ∧ p < n) (h0 : 0 < fs.length) : enB n (renW f ws) (renL f fs) = enB n ws fs := by
  have hlo := h.lo
  have en : ((n.toNat : Nat) : Int) = n := by omega
  have hg : ∀ w ∈ ws, good (n.toNat : Int) w := by rw [en]; exact h.good
  have key : ∀ v, v < n.toNat → bSet (adjB (renW f ws)) n.toNat (renL f fs) (fs.length - 1) (f v) = bSet (adjB ws) n.toNat fs (fs.length - 1) v := fun v hv => by
    unfold bSet
    refine any_congr' fun i hi => ?_
    have a := getD_lt hf (i := i) (by omega)
    rw [renL_get f (by omega), Int.toNat_natCast]
    exact ren_R hb (fun p q hp hq => ren_adj hb hg hp hq) _ _ _ (by omega) hv
  rw [Bool.eq_iff_iff, enB_iff (ren_Ok h hb) (renL_in hlo hb hf) (by rw [renL_len]; exact h0), enB_iff h hf h0, renL_len]
  constructor
  · intro ha v hv
    rw [← key v hv]
    exact ha _ (hb.lt v hv)
  · intro ha v hv
    rw [← hb.fg v hv, key _ (hb.ltg v hv)]
    exact ha _ (hb.ltg v hv)
theorem range_bij {m : Nat} {f g : Nat → Nat} (hb : Bij m f g) : ((List.range m).map f).Perm (List.range m) := by
  have hnd : ((List.range m).map f).Nodup := by
    unfold List.Nodup
    rw [List.pairwise_map]
    refine List.Pairwise.imp_of_mem (fun {x y} hx hy hne e => hne ?_) List.nodup_range
    rw [← hb.gf x (List.mem_range.1 hx), e, hb.gf y (List.mem_range.1 hy)]
  refine (List.perm_ext_iff_of_nodup hnd List.nodup_range).2 fun x => ?_
  rw [List.mem_map, List.mem_range]
  exact ⟨fun ⟨y, hy, e⟩ => by rw [← e]; exact hb.lt y (List.mem_range.1 hy), fun hx => ⟨g x, List.mem_range.2 (hb.ltg x hx), hb.fg x hx⟩⟩
theorem perm_flatMap_l {α β : Type} {F G : α → List β} : ∀ l : List α, (∀ x ∈ l, (F x).Perm (G x)) → (l.flatMap F).Perm (l.flatMap G)
  | [], _ => List.Perm.nil
  | x :: l, h => by
    rw [List.flatMap_cons, List.flatMap_cons]
    exact List.Perm.append (h x (by simp)) (perm_flatMap_l l fun y hy => h y (by simp [hy]))
theorem perm_flatMap_r {α β : Type} (F : α → List β) {a b : List α} (h : a.Perm b) : (a.flatMap F).Perm (b.flatMap F) := by
  induction h with
  | nil => exact List.Perm.nil
  | cons x _ ih => rw [List.flatMap_cons, List.flatMap_cons]; exact List.Perm.append (List.Perm.refl _) ih
  | swap x y l =>
    simp only [List.flatMap_cons]
    rw [← List.append_assoc, ← List.append_assoc]
    exact List.Perm.append List.perm_append_comm (List.Perm.refl _)
  | trans _ _ ih1 ih2 => exact ih1.trans ih2
theorem exts_bij {m : Nat} {f g : Nat → Nat} (hb : Bij m f g) : ∀ (l : Nat) (fs : List Int), ((exts m l fs).map (renL f)).Perm (exts m l (renL f fs))
  | 0, fs => by simp [exts]
  | l + 1, fs => by
    simp only [exts]
    rw [List.map_flatMap]
    refine List.Perm.trans (perm_flatMap_l (G := fun p => exts m l (renL f fs ++ [(f p : Int)])) _ fun p _ => ?_) ?_
    · have := exts_bij hb l (fs ++ [(p : Int)])
      have e : renL f (fs ++ [(p : Int)]) = renL f fs ++ [(f p : Int)] := by simp [renL]
      rw [e] at this
      exact this
    · have e : (List.range m).flatMap (fun p => exts m l (renL f fs ++ [(f p : Int)])) = ((List.range m).map f).flatMap fun (q : Nat) => exts m l (renL f fs ++ [(q : Int)]) := by rw [List.flatMap_map]
      rw [e]
      exact perm_flatMap_r _ (range_bij hb)
theorem ren_sols {f g : Nat → Nat} (h : Ok n ws) (hb : Bij n.toNat f g) {m : Nat} (h1 : 1 ≤ m) : (sols n (renW f ws) (m : Int)).length = (sols n ws (m : Int)).length := by
  have hlo := h.lo
  unfold sols solsF
  rw [Int.toNat_natCast]
  have hp := (exts_bij hb m []).filter (enB n (renW f ws))
  have e : renL f [] = [] := rfl
  rw [e] at hp
  rw [← hp.length_eq, List.filter_map, List.length_map]
  congr 1
  refine List.filter_congr fun x hx => ?_
  have hr := exts_rng hx
  have hl := exts_len hx
  rw [List.length_nil] at hl
  exact ren_enB h hb (fun p hp => by have := hr p hp; omega) (by omega)
theorem ren_dd {f g : Nat → Nat} (h : Ok n ws) (hb : Bij n.toNat f g) : dd n (renW f ws) = dd n ws := by
  unfold dd
  congr 2
  funext k
  have := ren_sols h hb (m := k + 1) (by omega)
  cases a : sols n (renW f ws) ((k + 1 : Nat) : Int) <;> cases b : sols n ws ((k + 1 : Nat) : Int) <;> rw [a, b] at this <;> simp_all
theorem ren_best {f g : Nat → Nat} (h : Ok n ws) (hb : Bij n.toNat f g) : (best n (renW f ws)).length = (best n ws).length := by
  unfold best
  rw [ren_dd h hb]
  exact ren_sols h hb (dd_spec h).1
theorem best_mem (h : Ok n ws) : headL (best n ws) ∈ sols n ws (dd n ws : Int) := by
  obtain ⟨_, _, h3, _⟩ := dd_spec h
  unfold best at *
  cases hb : sols n ws (dd n ws : Int) with
  | nil => exact absurd hb h3
  | cons x l => simp [headL]
theorem best_in (h : Ok n ws) : (∀ p ∈ headL (best n ws), 0 ≤ p ∧ p < n) ∧ (headL (best n ws)).length = dd n ws ∧ enB n ws (headL (best n ws)) = true := by
  have hm := best_mem h
  have hlo := h.lo
  unfold sols solsF at hm
  rw [List.mem_filter] at hm
  have hr := exts_rng hm.1
  exact ⟨fun p hp => by have := hr p hp; omega, head_len h, hm.2⟩
theorem ren_enough {f g : Nat → Nat} (h : Ok n ws) (hb : Bij n.toNat f g) : enoughV n (renW f ws) (renL f (headL (best n ws))) = 0 := by
  obtain ⟨b1, b2, b3⟩ := best_in h
  obtain ⟨d1, d2, _⟩ := dd_spec h
  have hhi := h.hi
  have e := ren_enB h hb b1 (by omega)
  rw [b3] at e
  unfold enoughV
  rw [laid_ok (chk_of (ren_Ok h hb)) (renL_in h.lo hb b1) (by rw [renL_len]; omega) (by rw [renL_len]; omega)]
  unfold enB at e
  rw [e]
  rfl
end Brn
