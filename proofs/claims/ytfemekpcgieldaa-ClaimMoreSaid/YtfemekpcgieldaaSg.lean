/- Who claims more gets no less, and loses no less. -/
import Derived.Test.YtfemekpcgieldaaSf
set_option linter.unusedVariables false
set_option linter.unusedSimpArgs false
namespace Clm
open Go
set_option linter.unusedVariables false
theorem rank_gain {w : Int} {cs : List Int} (h : OkW w cs) {i j : Nat} (hi : i < cs.length) (hj : j < cs.length) (hc : at0 cs j ≤ at0 cs i) : at0 (gainV w cs) j ≤ at0 (gainV w cs) i ∧ 120 * at0 cs j - at0 (gainV w cs) j ≤ 120 * at0 cs i - at0 (gainV w cs) i := by
  obtain ⟨L, h0, h1, _⟩ := gain_lv h
  rw [h1 i hi, h1 j hj]
  omega
theorem rank_loss {w : Int} {cs : List Int} (h : OkW w cs) {i j : Nat} (hi : i < cs.length) (hj : j < cs.length) (hc : at0 cs j ≤ at0 cs i) : at0 (lossV w cs) j ≤ at0 (lossV w cs) i ∧ 120 * at0 cs j - at0 (lossV w cs) j ≤ 120 * at0 cs i - at0 (lossV w cs) i := by
  obtain ⟨L, h0, h1, _⟩ := loss_lv h
  have a := h1 i hi
  have b := h1 j hj
  omega
theorem rank_rule {w : Int} {cs : List Int} (h : OkW w cs) {i j : Nat} (hi : i < cs.length) (hj : j < cs.length) (hc : at0 cs j ≤ at0 cs i) : at0 (divV w cs) j ≤ at0 (divV w cs) i ∧ 120 * at0 cs j - at0 (divV w cs) j ≤ 120 * at0 cs i - at0 (divV w cs) i := by
  have hlo := h.lo
  have hhi := h.hi
  have hl := times_len 120 cs
  rcases div_cases h with ⟨h1, e⟩ | ⟨h1, e⟩
  · have L := h.lv (n := 60) (t := 120 * w) (.inl rfl) (by omega) ⟨2 * w, by omega⟩ (by omega)
    rw [e, L.gt i hi, L.gt j hj]
    omega
  · have L := h.lv (n := 60) (t := 120 * (sumI cs - w)) (.inl rfl) (by omega) ⟨2 * (sumI cs - w), by omega⟩ (by omega)
    rw [e, at0_less (i := i) (by omega) (by rw [L.len]; exact hi), at0_less (i := j) (by omega) (by rw [L.len]; exact hj), times_at hi, times_at hj, L.gt i hi, L.gt j hj]
    omega
end Clm
namespace Clm
open Go
set_option linter.unusedVariables false
theorem lv_mono {n t u : Int} {cs : List Int} (a : Lv n t cs) (b : Lv n u cs) (h : t ≤ u) {i : Nat} (hi : i < cs.length) : at0 (capped t (times n cs)) i ≤ at0 (capped u (times n cs)) i := by
  obtain ⟨j, hj, hx⟩ := a.ex
  have hle : (lev t (times n cs) : Int) ≤ (lev u (times n cs) : Int) := by
    rcases Int.lt_or_le (lev u (times n cs) : Int) (lev t (times n cs) : Int) with hlt | hle
    · exfalso
      have S := sum_lt (a := capped u (times n cs)) (b := capped t (times n cs)) (by rw [a.len, b.len]) fun k hk => by
        rw [b.len] at hk
        rw [a.gt k hk, b.gt k hk]
        omega
      have := S.2 ⟨j, by rw [b.len]; exact hj, by rw [a.gt j hj, b.gt j hj]; omega⟩
      rw [a.sum, b.sum] at this
      omega
    · exact hle
  rw [a.gt i hi, b.gt i hi]
  omega
theorem more_gain {w v : Int} {cs : List Int} (h : OkW w cs) (k : OkW v cs) (hwv : w ≤ v) {i : Nat} (hi : i < cs.length) : at0 (gainV w cs) i ≤ at0 (gainV v cs) i := by
  have a1 := h.lo
  have a2 := h.hi
  have b1 := k.lo
  have b2 := k.hi
  rw [(gain_div h).2, (gain_div k).2]
  exact lv_mono (h.lv (n := 120) (t := 120 * w) (.inr rfl) (by omega) ⟨2 * w, by omega⟩ (by omega)) (k.lv (n := 120) (t := 120 * v) (.inr rfl) (by omega) ⟨2 * v, by omega⟩ (by omega)) (by omega) hi
theorem more_loss {w v : Int} {cs : List Int} (h : OkW w cs) (k : OkW v cs) (hwv : w ≤ v) {i : Nat} (hi : i < cs.length) : at0 (lossV w cs) i ≤ at0 (lossV v cs) i := by
  have a1 := h.lo
  have a2 := h.hi
  have b1 := k.lo
  have b2 := k.hi
  have hl := times_len 120 cs
  have A := h.lv (n := 120) (t := 120 * (sumI cs - w)) (.inr rfl) (by omega) ⟨2 * (sumI cs - w), by omega⟩ (by omega)
  have B := k.lv (n := 120) (t := 120 * (sumI cs - v)) (.inr rfl) (by omega) ⟨2 * (sumI cs - v), by omega⟩ (by omega)
  have := lv_mono B A (by omega) hi
  rw [(loss_div h).2, (loss_div k).2, at0_less (by omega) (by rw [A.len]; exact hi), at0_less (by omega) (by rw [B.len]; exact hi)]
  omega
theorem more_rule {w v : Int} {cs : List Int} (h : OkW w cs) (k : OkW v cs) (hwv : w ≤ v) {i : Nat} (hi : i < cs.length) : at0 (divV w cs) i ≤ at0 (divV v cs) i := by
  have a1 := h.lo
  have a2 := h.hi
  have b1 := k.lo
  have b2 := k.hi
  have hl := times_len 120 cs
  rcases div_cases h with ⟨h1, e⟩ | ⟨h1, e⟩ <;> rcases div_cases k with ⟨h2, f⟩ | ⟨h2, f⟩
  · rw [e, f]
    exact lv_mono (h.lv (n := 60) (t := 120 * w) (.inl rfl) (by omega) ⟨2 * w, by omega⟩ (by omega)) (k.lv (n := 60) (t := 120 * v) (.inl rfl) (by omega) ⟨2 * v, by omega⟩ (by omega)) (by omega) hi
  · have A := h.lv (n := 60) (t := 120 * w) (.inl rfl) (by omega) ⟨2 * w, by omega⟩ (by omega)
    have B := k.lv (n := 60) (t := 120 * (sumI cs - v)) (.inl rfl) (by omega) ⟨2 * (sumI cs - v), by omega⟩ (by omega)
    rw [e, f, at0_less (by omega) (by rw [B.len]; exact hi), times_at hi, A.gt i hi, B.gt i hi]
    omega
  · omega
  · have A := h.lv (n := 60) (t := 120 * (sumI cs - w)) (.inl rfl) (by omega) ⟨2 * (sumI cs - w), by omega⟩ (by omega)
    have B := k.lv (n := 60) (t := 120 * (sumI cs - v)) (.inl rfl) (by omega) ⟨2 * (sumI cs - v), by omega⟩ (by omega)
    have := lv_mono B A (by omega) hi
    rw [e, f, at0_less (by omega) (by rw [A.len]; exact hi), at0_less (by omega) (by rw [B.len]; exact hi)]
    omega
end Clm
namespace Clm
open Go
set_option linter.unusedVariables false
set_option maxRecDepth 100000
def swp (l : List Int) (i k : Nat) : List Int := (l.set i (at0 l k)).set k (at0 l i)
def tauI (i k y : Int) : Int := if y = i then k else if y = k then i else y
theorem tau_tau (i k y : Int) : tauI i k (tauI i k y) = y := by unfold tauI; split <;> split <;> (try split) <;> omega
theorem tau_inj (i k x y : Int) (h : tauI i k x = tauI i k y) : x = y := by rw [← tau_tau i k x, h, tau_tau]
theorem tau_nat (i k x : Nat) : ∃ y : Nat, tauI i k x = y := by
  unfold tauI; split
  · exact ⟨k, rfl⟩
  · split
    · exact ⟨i, rfl⟩
    · exact ⟨x, rfl⟩
theorem tau_lt {n i k : Nat} (hi : i < n) (hk : k < n) {x : Nat} (hx : x < n) : ∃ y : Nat, y < n ∧ tauI i k x = y := by
  unfold tauI; split
  · exact ⟨k, hk, rfl⟩
  · split
    · exact ⟨i, hi, rfl⟩
    · exact ⟨x, hx, rfl⟩
theorem swp_len (l : List Int) (i k : Nat) : (swp l i k).length = l.length := by simp [swp]
theorem at0_set {l : List Int} {i : Nat} {v : Int} {x : Nat} (hi : i < l.length) : at0 (l.set i v) x = if x = i then v else at0 l x := by
  unfold at0
  rw [Int.toNat_natCast]
  exact getD_set' l i x v hi
theorem swp_at {l : List Int} {i k : Nat} (hi : i < l.length) (hk : k < l.length) (x : Nat) : at0 (swp l i k) x = at0 l (tauI i k x) := by
  unfold swp tauI
  rw [at0_set (by simpa using hk), at0_set hi]
  by_cases h1 : x = i
  · subst h1
    by_cases h2 : x = k
    · subst h2; simp
    · rw [if_neg h2, if_pos rfl, if_pos rfl]
  · rw [if_neg (show ¬ (x : Int) = (i : Int) by omega)]
    by_cases h2 : x = k
    · subst h2; simp
    · rw [if_neg h2, if_neg h1, if_neg (show ¬ (x : Int) = (k : Int) by omega)]
theorem swp_map {l : List Int} (f : Int → Int) {i k : Nat} (hi : i < l.length) (hk : k < l.length) : (swp l i k).map f = swp (l.map f) i k := by
  refine list_at (by simp [swp_len]) fun x hx => ?_
  rw [List.length_map, swp_len] at hx
  obtain ⟨y, hy, e⟩ := tau_lt hi hk hx
  rw [at0_map (by rw [swp_len]; exact hx), swp_at hi hk, swp_at (by simpa using hi) (by simpa using hk), e, at0_map hy]
theorem swp_perm {l : List Int} {i k : Nat} (hi : i < l.length) (hk : k < l.length) : (swp l i k).Perm l := by
  unfold swp
  have e1 : at0 l k = l[k] := at0_lt hk
  have e2 : at0 l i = l[i] := at0_lt hi
  rw [e1, e2]
  exact List.set_set_perm hi hk
theorem swp_sum {l : List Int} {i k : Nat} (hi : i < l.length) (hk : k < l.length) : sumI (swp l i k) = sumI l := sumI_perm (swp_perm hi hk)
theorem swp_less {a b : List Int} (hl : b.length = a.length) {i k : Nat} (hi : i < a.length) (hk : k < a.length) : lessL (swp a i k) (swp b i k) = swp (lessL a b) i k := by
  have hll := lessL_len (a := a) (b := b) hl
  have hl2 := lessL_len (a := swp a i k) (b := swp b i k) (by rw [swp_len, swp_len, hl])
  rw [swp_len] at hl2
  refine list_at (by rw [hl2, swp_len, hll]) fun x hx => ?_
  rw [hl2] at hx
  obtain ⟨y, hy, e⟩ := tau_lt hi hk hx
  rw [at0_less (by rw [swp_len]; exact hx) (by rw [swp_len]; omega), swp_at hi hk, swp_at (by omega) (by omega), swp_at (by omega) (by omega), e, at0_less hy (by omega)]
theorem swp_times {l : List Int} (n : Int) {i k : Nat} (hi : i < l.length) (hk : k < l.length) : times n (swp l i k) = swp (times n l) i k := swp_map _ hi hk
theorem swp_lev {l : List Int} (t : Int) {i k : Nat} (hi : i < l.length) (hk : k < l.length) : lev t (swp l i k) = lev t l := by
  unfold lev
  have : (fun (L : Nat) => decide (t ≤ reach (L : Int) (swp l i k))) = fun (L : Nat) => decide (t ≤ reach (L : Int) l) := by
    funext L; rw [reach_perm (swp_perm hi hk)]
  rw [this]
theorem swp_capped {l : List Int} (t : Int) {i k : Nat} (hi : i < l.length) (hk : k < l.length) : capped t (swp l i k) = swp (capped t l) i k := by
  unfold capped
  rw [swp_lev t hi hk]
  exact swp_map _ hi hk
theorem ok_swp {w : Int} {cs : List Int} (h : OkW w cs) {i k : Nat} (hi : i < cs.length) (hk : k < cs.length) : OkW w (swp cs i k) :=
  ⟨fun e => h.ne (List.length_eq_zero_iff.1 (by rw [← swp_len cs i k, e]; rfl)), by rw [swp_len]; exact h.len, fun x hx => h.rng x ((swp_perm hi hk).mem_iff.1 hx), h.lo, by rw [swp_sum hi hk]; exact h.hi⟩
theorem capped_len' (t n : Int) (cs : List Int) : (capped t (times n cs)).length = cs.length := by simp [capped, times]
theorem gain_swp {w : Int} {cs : List Int} (h : OkW w cs) {i k : Nat} (hi : i < cs.length) (hk : k < cs.length) : gainV w (swp cs i k) = swp (gainV w cs) i k := by
  have hl := times_len 120 cs
  rw [(gain_div h).2, (gain_div (ok_swp h hi hk)).2, swp_times 120 hi hk, swp_capped _ (by omega) (by omega)]
theorem loss_swp {w : Int} {cs : List Int} (h : OkW w cs) {i k : Nat} (hi : i < cs.length) (hk : k < cs.length) : lossV w (swp cs i k) = swp (lossV w cs) i k := by
  have hl := times_len 120 cs
  have hc := capped_len' (120 * (sumI cs - w)) 120 cs
  rw [(loss_div h).2, (loss_div (ok_swp h hi hk)).2, swp_sum hi hk, swp_times 120 hi hk, swp_capped _ (by omega) (by omega), swp_less (by omega) (by omega) (by omega)]
theorem rule_swp {w : Int} {cs : List Int} (h : OkW w cs) {i k : Nat} (hi : i < cs.length) (hk : k < cs.length) : divV w (swp cs i k) = swp (divV w cs) i k := by
  have hl := times_len 120 cs
  have hl6 := times_len 60 cs
  have hc := capped_len' (120 * (sumI cs - w)) 60 cs
  have k1 := ok_swp h hi hk
  unfold divV
  rw [ok_iff h, ok_iff k1, swp_sum hi hk, swp_times 120 hi hk, swp_times 60 hi hk, swp_capped _ (by omega) (by omega), swp_capped _ (by omega) (by omega), swp_less (by omega) (by omega) (by omega)]
  cases decide (2 * w ≤ sumI cs) <;> rfl
theorem tauP_all : ((List.range 6).all fun n => (List.range n).all fun i => (List.range n).all fun k => List.isPerm (((List.range n).map Int.ofNat).map (tauI i k)) ((List.range n).map Int.ofNat)) = true := by decide +kernel
theorem tau_perm {n : Nat} (hn : n ≤ 5) {i k : Nat} (hi : i < n) (hk : k < n) : (((List.range n).map Int.ofNat).map (tauI i k)).Perm ((List.range n).map Int.ofNat) := by
  have h := tauP_all
  rw [List.all_eq_true] at h
  have h := h n (List.mem_range.2 (by omega))
  rw [List.all_eq_true] at h
  have h := h i (List.mem_range.2 hi)
  rw [List.all_eq_true] at h
  exact List.isPerm_iff.1 (h k (List.mem_range.2 hk))
theorem tau_orders {n : Nat} (hn : n ≤ 5) {i k : Nat} (hi : i < n) (hk : k < n) : ((orders n).map (List.map (tauI i k))).Perm (orders n) :=
  orders_inv hn _ (fun o ho => mem_orders (((orders_perm hn ho).map _).trans (tau_perm hn hi hk))) fun o _ => by
    rw [List.map_map]
    exact (List.map_congr_left fun x _ => tau_tau i k x).trans (List.map_id o)
theorem pre_tau (o : List Int) {i k x y : Nat} (e : tauI i k x = y) : pre (o.map (tauI i k)) y = (pre o x).map (tauI i k) := by
  unfold pre
  rw [List.takeWhile_map]
  congr 2
  funext z
  show (tauI i k z != (y : Int)) = (z != (x : Int))
  rw [← e, Bool.eq_iff_iff]
  simp only [bne_iff_ne]
  exact ⟨fun h e => h (by rw [e]), fun h e => h (tau_inj _ _ _ _ e)⟩
theorem pre_mem {o : List Int} {k : Nat} {x : Int} (h : x ∈ pre o k) : x ∈ o ∧ x ≠ k := by
  unfold pre at h
  refine ⟨(List.takeWhile_sublist _).mem h, ?_⟩
  have := List.all_takeWhile (p := fun x : Int => x != (k : Int)) (l := o)
  rw [List.all_eq_true] at this
  have := this x h
  simpa using this
theorem ord_nat {n : Nat} (hn : n ≤ 5) {o : List Int} (ho : o ∈ orders n) {x : Int} (hx : x ∈ o) : ∃ y : Nat, y < n ∧ x = y := by
  obtain ⟨y, hy, rfl⟩ := List.mem_map.1 ((orders_perm hn ho).mem_iff.1 hx)
  exact ⟨y, List.mem_range.1 hy, rfl⟩
theorem ord_nodup {n : Nat} (hn : n ≤ 5) {o : List Int} (ho : o ∈ orders n) : o.Nodup := (orders_perm hn ho).nodup_iff.2 (List.Pairwise.map _ (fun a b h e => h (Int.ofNat.inj e)) List.nodup_range)
theorem ordS_tau {w : Int} {cs : List Int} (hn : cs.length ≤ 5) {i k : Nat} (hi : i < cs.length) (hk : k < cs.length) {x y : Nat} (e : tauI i k x = y) :
    ordS w cs y = sumI ((orders cs.length).map fun o => val w cs (sumAt cs ((pre o x).map (tauI i k))) y) := by
  unfold ordS
  rw [← sum_map_perm (tau_orders hn hi hk), List.map_map]
  congr 1
  refine List.map_congr_left fun o _ => ?_
  show val w cs (sumAt cs (pre (o.map (tauI i k)) y)) y = _
  rw [pre_tau o e]
theorem avg_swp' {w : Int} {cs : List Int} (h : OkW w cs) {i k : Nat} (hi : i < cs.length) (hk : k < cs.length) {x y : Nat} (hx : x < cs.length) (hy : y < cs.length) (e : tauI i k x = y) : avgK w (swp cs i k) x = avgK w cs y := by
  have hf : (0 : Int) < fac cs.length := by exact_mod_cast fac_pos _
  have hsl := swp_len cs i k
  refine cancel_eq hf ?_
  have e1 := avgK_ord (w := w) (cs := swp cs i k) (k := x) (by rw [hsl]; exact h.len) (by rw [hsl]; exact hx)
  rw [hsl] at e1
  have key : ordS w (swp cs i k) x = sumI ((orders cs.length).map fun o => val w cs (sumAt cs ((pre o x).map (tauI i k))) y) := by
    unfold ordS
    rw [hsl]
    refine congrArg sumI (List.map_congr_left fun o ho => ?_)
    have e2 : sumAt (swp cs i k) (pre o x) = sumAt cs ((pre o x).map (tauI i k)) := by
      unfold sumAt
      rw [List.map_map]
      refine congrArg sumI (List.map_congr_left fun z hz => ?_)
      obtain ⟨m, hm, rfl⟩ := ord_nat h.len ho (pre_mem hz).1
      exact swp_at hi hk m
    rw [e2]
    unfold val
    rw [swp_at hi hk x, e]
  rw [e1, avgK_ord h.len hy, ordS_tau h.len hi hk e, key]
theorem avg_swp {w : Int} {cs : List Int} (h : OkW w cs) {i k : Nat} (hi : i < cs.length) (hk : k < cs.length) : avgV w (swp cs i k) = swp (avgV w cs) i k := by
  rw [(avg_div h).2, (avg_div (ok_swp h hi hk)).2]
  refine list_at (by rw [avgL_len, swp_len, swp_len, avgL_len]) fun x hx => ?_
  rw [avgL_len, swp_len] at hx
  obtain ⟨y, hy, e⟩ := tau_lt hi hk hx
  rw [avgL_at (by rw [swp_len]; exact hx), swp_at (by rw [avgL_len]; exact hi) (by rw [avgL_len]; exact hk), e, avgL_at hy, avg_swp' h hi hk hx hy e]
theorem sum_tau (cs : List Int) {i j : Nat} : ∀ p : List Int, p.Nodup → (i : Int) ∉ p → sumAt cs (p.map (tauI i j)) = sumAt cs p ∨ sumAt cs (p.map (tauI i j)) = sumAt cs p + at0 cs i - at0 cs j
  | [], _, _ => .inl rfl
  | x :: p, hnd, hi => by
    rw [List.map_cons, sumAt_cons, sumAt_cons]
    rw [List.nodup_cons] at hnd
    have hxi : x ≠ (i : Int) := fun e => hi (by simp [e])
    have hip : (i : Int) ∉ p := fun hm => hi (by simp [hm])
    by_cases hxj : x = (j : Int)
    · have e : tauI i j x = i := by unfold tauI; rw [if_neg hxi, if_pos hxj]
      have e3 : ∀ y ∈ p, tauI i j y = id y := fun y hy => by
        have h1 : y ≠ (i : Int) := fun e => hip (by rw [← e]; exact hy)
        have h2 : y ≠ (j : Int) := fun e => hnd.1 (by rw [hxj, ← e]; exact hy)
        unfold tauI
        rw [if_neg h1, if_neg h2]; rfl
      have : p.map (tauI i j) = p := (List.map_congr_left e3).trans (List.map_id p)
      rw [e, this, hxj]
      exact .inr (by omega)
    · have e : tauI i j x = x := by unfold tauI; rw [if_neg hxi, if_neg hxj]
      rw [e]
      rcases sum_tau cs (j := j) p hnd.2 hip with h | h
      · exact .inl (by omega)
      · exact .inr (by omega)
theorem rank_avg {w : Int} {cs : List Int} (h : OkW w cs) {i j : Nat} (hi : i < cs.length) (hj : j < cs.length) (hc : at0 cs j ≤ at0 cs i) : at0 (avgV w cs) j ≤ at0 (avgV w cs) i ∧ 120 * at0 cs j - at0 (avgV w cs) j ≤ 120 * at0 cs i - at0 (avgV w cs) i := by
  have hf : (0 : Int) < fac cs.length := by exact_mod_cast fac_pos _
  rw [(avg_div h).2, avgL_at hi, avgL_at hj]
  have ei : tauI i j i = j := by unfold tauI; rw [if_pos rfl]
  have eJ := ordS_tau (w := w) h.len hi hj ei
  have key : ∀ o ∈ orders cs.length, val w cs (sumAt cs ((pre o i).map (tauI i j))) j ≤ val w cs (sumAt cs (pre o i)) i ∧ at0 cs j - val w cs (sumAt cs ((pre o i).map (tauI i j))) j ≤ at0 cs i - val w cs (sumAt cs (pre o i)) i := fun o ho => by
    have hnd : (pre o i).Nodup := (ord_nodup h.len ho).sublist (List.takeWhile_sublist _)
    have hn : (i : Int) ∉ pre o i := fun hm => (pre_mem hm).2 rfl
    have h1 := h.nn i
    have h2 := h.nn j
    unfold val
    rcases sum_tau cs (j := j) (pre o i) hnd hn with e | e <;> rw [e] <;> omega
  have l1 := sum_le (orders cs.length) fun o ho => (key o ho).1
  have l2 := sum_le (f := fun o => at0 cs j - val w cs (sumAt cs ((pre o i).map (tauI i j))) j) (g := fun o => at0 cs i - val w cs (sumAt cs (pre o i)) i) (orders cs.length) fun o ho => (key o ho).2
  have s1 := sum_add (fun o => at0 cs j - val w cs (sumAt cs ((pre o i).map (tauI i j))) j) (fun o => val w cs (sumAt cs ((pre o i).map (tauI i j))) j) (orders cs.length)
  have s2 := sum_add (fun o => at0 cs i - val w cs (sumAt cs (pre o i)) i) (fun o => val w cs (sumAt cs (pre o i)) i) (orders cs.length)
  simp only [Int.sub_add_cancel] at s1 s2
  rw [sum_const, orders_len h.len] at s1 s2
  change _ ≤ ordS w cs i at l1
  change _ + ordS w cs i = _ at s2
  rw [← eJ] at l1 s1
  have a := avgK_ord (w := w) h.len hi
  have b := avgK_ord (w := w) h.len hj
  refine ⟨cancel hf (by omega), cancel hf ?_⟩
  rw [Int.mul_sub, Int.mul_sub, a, b, Int.mul_left_comm, Int.mul_left_comm (fac cs.length : Int) 120 (at0 cs i)]
  omega
def swpAll (ps : List (Nat × Nat)) (l : List Int) : List Int := ps.foldl (fun l p => swp l p.1 p.2) l
theorem swpAll_len (ps : List (Nat × Nat)) : ∀ l : List Int, (swpAll ps l).length = l.length := by
  induction ps with
  | nil => intro l; rfl
  | cons p ps ih => intro l; show (swpAll ps (swp l p.1 p.2)).length = _; rw [ih, swp_len]
theorem swpAll_goes {n : Nat} {F : List Int → List Int} {ok : List Int → Prop} (hok : ∀ l i k, ok l → i < n → k < n → ok (swp l i k)) (hF : ∀ l i k, ok l → i < n → k < n → F (swp l i k) = swp (F l) i k) :
    ∀ (ps : List (Nat × Nat)) (l : List Int), (∀ p ∈ ps, p.1 < n ∧ p.2 < n) → ok l → F (swpAll ps l) = swpAll ps (F l) ∧ ok (swpAll ps l)
  | [], l, _, h => ⟨rfl, h⟩
  | p :: ps, l, hp, h => by
    have := hp p (by simp)
    have ih := swpAll_goes hok hF ps (swp l p.1 p.2) (fun q hq => hp q (by simp [hq])) (hok l _ _ h this.1 this.2)
    refine ⟨?_, ih.2⟩
    show F (swpAll ps (swp l p.1 p.2)) = swpAll ps (swp (F l) p.1 p.2)
    rw [ih.1, hF l _ _ h this.1 this.2]
theorem swpAll_from {n : Nat} : ∀ (ps : List (Nat × Nat)) (l fr : List Int) (g : List Int), (∀ p ∈ ps, p.1 < n ∧ p.2 < n) → l.length = n → fr.length = n → (∀ x : Nat, x < n → at0 l x = at0 g (at0 fr x)) →
    ∀ x : Nat, x < n → at0 (swpAll ps l) x = at0 g (at0 (swpAll ps fr) x)
  | [], l, fr, g, _, _, _, h => h
  | p :: ps, l, fr, g, hp, h1, h2, h => by
    have hq := hp p (by simp)
    refine swpAll_from ps (swp l p.1 p.2) (swp fr p.1 p.2) g (fun q hq => hp q (by simp [hq])) (by rw [swp_len, h1]) (by rw [swp_len, h2]) fun x hx => ?_
    obtain ⟨y, hy, e⟩ := tau_lt hq.1 hq.2 hx
    rw [swp_at (by omega) (by omega), swp_at (by omega) (by omega), e]
    exact h y hy
end Clm
