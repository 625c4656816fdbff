/- Houses change places by numbers. -/
import Derived.Test.YtfemekpcgieldaaTp
set_option linter.unusedVariables false
set_option linter.unusedSimpArgs false
namespace Clm
open Go
set_option linter.unusedVariables false
theorem rkK_le {bs : List Int} (hb : ∀ x ∈ bs, 0 ≤ x) (i : Nat) : rkK bs i ≤ i := by
  unfold rkK
  have h0 : 0 ≤ at0 bs i := by
    unfold at0
    rw [List.getD_eq_getElem?_getD]
    cases hx : bs[(i : Int).toNat]? with
    | none => simp
    | some x => exact hb x (List.mem_of_getElem? hx)
  have := tmod_in h0 (show 0 < (i : Int) + 1 by omega)
  omega
theorem rkO_len (bs cs : List Int) : ∀ i, (rkO bs cs i).length = cs.length
  | 0 => rfl
  | i + 1 => by unfold rkO; rw [swp_len, rkO_len bs cs i]
theorem rkF_len (bs : List Int) (n : Nat) : ∀ i, (rkF bs n i).length = n
  | 0 => by simp [rkF]
  | i + 1 => by unfold rkF; rw [swp_len, List.length_set, rkF_len bs n i]
theorem tau_cases {i k x : Nat} (hk : k ≤ i) : (x < i + 1 ∧ ∃ y : Nat, y < i + 1 ∧ tauI i k x = y) ∨ (i + 1 ≤ x ∧ tauI i k x = x) := by
  rcases Nat.lt_or_ge x (i + 1) with h | h
  · exact .inl ⟨h, tau_lt (by omega) (by omega) h⟩
  · refine .inr ⟨h, ?_⟩
    unfold tauI
    rw [if_neg (by omega), if_neg (by omega)]
theorem rk_ok {bs : List Int} (hb : ∀ x ∈ bs, 0 ≤ x) {n : Nat} {g : List Int} (hg : g.length = n) : ∀ i : Nat, i ≤ n → ∀ x : Nat, x < n →
    (x < i → (∃ y : Nat, y < n ∧ at0 (rkF bs n i) x = y) ∧ at0 (rkO bs g i) x = at0 g (at0 (rkF bs n i) x)) ∧ (i ≤ x → at0 (rkO bs g i) x = at0 g x)
  | 0, _, x, hx => ⟨fun h => by omega, fun _ => rfl⟩
  | i + 1, hi, x, hx => by
    have ih := rk_ok hb hg i (by omega)
    have hk := rkK_le hb i
    have l1 := rkO_len bs g i
    have l2 := rkF_len bs n i
    have e1 : at0 (rkO bs g (i + 1)) x = at0 (rkO bs g i) (tauI i (rkK bs i) x) := by
      show at0 (swp (rkO bs g i) i (rkK bs i)) x = _
      exact swp_at (by omega) (by omega) x
    have e2 : at0 (rkF bs n (i + 1)) x = at0 ((rkF bs n i).set i (i : Int)) (tauI i (rkK bs i) x) := by
      show at0 (swp ((rkF bs n i).set i (i : Int)) i (rkK bs i)) x = _
      exact swp_at (by rw [List.length_set]; omega) (by rw [List.length_set]; omega) x
    rw [e1, e2]
    rcases tau_cases (x := x) hk with ⟨h, y, hy, e⟩ | ⟨h, e⟩
    · rw [e]
      have e3 : at0 ((rkF bs n i).set i (i : Int)) y = if y = i then (i : Int) else at0 (rkF bs n i) y := at0_set (by omega)
      rw [e3]
      refine ⟨fun _ => ?_, fun h' => by omega⟩
      rcases Nat.lt_or_ge y i with h' | h'
      · rw [if_neg (by omega)]
        exact (ih y (by omega)).1 h'
      · obtain rfl : y = i := by omega
        rw [if_pos rfl]
        exact ⟨⟨y, by omega, rfl⟩, (ih y (by omega)).2 (Nat.le_refl _)⟩
    · rw [e]
      exact ⟨fun h' => by omega, fun _ => (ih x hx).2 (by omega)⟩
theorem rk_goes {bs : List Int} (hb : ∀ x ∈ bs, 0 ≤ x) {n : Nat} {F : List Int → List Int} {ok : List Int → Prop} (hok : ∀ l i k, ok l → i < n → k < n → ok (swp l i k)) (hF : ∀ l i k, ok l → i < n → k < n → F (swp l i k) = swp (F l) i k) {cs : List Int} (h : ok cs) :
    ∀ i : Nat, i ≤ n → ok (rkO bs cs i) ∧ F (rkO bs cs i) = rkO bs (F cs) i
  | 0, _ => ⟨h, rfl⟩
  | i + 1, hi => by
    have ih := rk_goes hb hok hF h i (by omega)
    have hk := rkK_le hb i
    refine ⟨hok _ _ _ ih.1 (by omega) (by omega), ?_⟩
    show F (swp (rkO bs cs i) i (rkK bs i)) = swp (rkO bs (F cs) i) i (rkK bs i)
    rw [hF _ _ _ ih.1 (by omega) (by omega), ih.2]
theorem rk_from {w : Int} {cs bs : List Int} (h : OkW w cs) (hb : ∀ x ∈ bs, 0 ≤ x) {F : Int → List Int → List Int} (hl : (F w cs).length = cs.length) (hF : ∀ l i k, OkW w l ∧ l.length = cs.length → i < cs.length → k < cs.length → F w (swp l i k) = swp (F w l) i k) :
    fromL (rkF bs cs.length cs.length) (F w cs) (F w (rkO bs cs cs.length)) = true := by
  have g := rk_goes (ok := fun l => OkW w l ∧ l.length = cs.length) (F := F w) hb (n := cs.length) (fun l i k hl hi hk => ⟨ok_swp hl.1 (by omega) (by omega), by rw [swp_len]; exact hl.2⟩) hF ⟨h, rfl⟩ cs.length (Nat.le_refl _)
  have hm : (F w (rkO bs cs cs.length)).length = cs.length := by rw [g.2, rkO_len, hl]
  have hfl := rkF_len bs cs.length cs.length
  unfold fromL fromB
  simp only [hl, hm, hfl, decide_true, Bool.true_and, List.all_eq_true, List.mem_range, Bool.and_eq_true, decide_eq_true_eq, beq_iff_eq]
  intro i hi
  obtain ⟨⟨y, hy, e⟩, e2⟩ := (rk_ok hb (g := F w cs) hl cs.length (Nat.le_refl _) i hi).1 hi
  rw [g.2, e2, e]
  exact ⟨⟨⟨by omega, by omega⟩, hi⟩, rfl⟩
theorem rankB_of {cs l : List Int} (hl : l.length = cs.length) (hs : sb l = true) (h : ∀ i j : Nat, i < cs.length → j < cs.length → at0 cs j ≤ at0 cs i → at0 l j ≤ at0 l i ∧ 120 * at0 cs j - at0 l j ≤ 120 * at0 cs i - at0 l i) : rankB cs l = true := by
  unfold rankB
  rw [decide_eq_true hl, hs]
  simp only [Bool.true_and, List.all_eq_true, List.mem_range]
  intro i hi j hj
  cases hc : decide (at0 cs i ≥ at0 cs j) with
  | false => rfl
  | true =>
    have := h i j hi hj (by have := of_decide_eq_true hc; omega)
    rw [decide_eq_true this.1, decide_eq_true this.2]; rfl
end Clm
