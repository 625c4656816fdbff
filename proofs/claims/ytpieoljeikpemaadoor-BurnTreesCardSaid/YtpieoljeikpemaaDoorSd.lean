/- The program's functions of the burn chapter that are called from outside: tables and normal forms. -/
import Derived.Test.YtpieoljeikpemaaDoorSc
import Derived.Test.YtpieoljeikpemaaDoorSa
set_option linter.unusedVariables false
set_option linter.unusedSimpArgs false
namespace Go.Ev.Burn
open Go Go.Ev
set_option maxRecDepth 1000000
set_option linter.unusedVariables false
def c65t (n : Int) (ws : Ws) (pl : List Int) : Tree (AV × Hp) := .br (sm ws && sm pl) (.br (Brn.openErr n ws pl == 0) (.leaf (.tuple [ps 0, vi 0], [some (rG n (Brn.ground n ws))])) (.leaf (.tuple [nilP, vi (Brn.openErr n ws pl)], []))) .fail
def c65 (args : List AV) (H : Hp) : Tree (AV × Hp) := match args, H with
  | [(.agg [.sc (.int .i64 n), .sl (.pair .i64) ws false] false), (.sl (.int .i64) pl false)], [] => c65t n ws pl
  | _, _ => .fail
theorem c65_ok {T : Tab} (hT : TabOK T) (h : ∀ (n : Int) (ws : Ws) (pl : List Int) (r : AV × Hp), (c65t n ws pl).val = some r → evBody T 65 [aH n ws, lI pl] [] = some r) : ∀ args H v H', (c65 args H).val = some (v, H') → CallOK T 65 args H v H' := by
  intro args H v H' hv
  unfold c65 at hv
  split at hv
  · exact evBody_sound hT (h _ _ _ _ hv)
  · cases hv
noncomputable def S6 : Tab := (S5).addCall 65 c65
noncomputable def S7 : Tab := S6
noncomputable def S8 : Tab := S7
noncomputable def S9 : Tab := S8
noncomputable def S10 : Tab := S9
noncomputable def S11 : Tab := S10
end Go.Ev.Burn
namespace Go.Ev.Burn
open Go Go.Ev
set_option maxRecDepth 1000000
set_option linter.unusedVariables false
noncomputable def S12 : Tab := S11
noncomputable def S13 : Tab := S12
noncomputable def S14 : Tab := S13
def c16 (args : List AV) (H : Hp) : Tree (AV × Hp) := match args, H with
  | [], [] => .leaf (vb true, [])
  | _, _ => .fail
noncomputable def S15 : Tab := (S14).addCall 16 c16
end Go.Ev.Burn
namespace Go.Ev.Burn
open Go Go.Ev
set_option maxRecDepth 1000000
set_option linter.unusedVariables false
set_option linter.unusedSimpArgs false
theorem c65_run : ∀ args H v H', (c65 args H).val = some (v, H') → CallOK S5 65 args H v H' := c65_ok S5_ok (by
  intro n ws pl r hv
  obtain ⟨hl, hv⟩ := guard_val hv
  simp only [Bool.and_eq_true] at hl
  obtain ⟨hws, hpl⟩ := hl
  rw [nf65]
  unfold Brn.openErr Brn.chkP at hv
  cases a1 : Brn.inR n 1 9 with
  | false =>
    simp only [a1, Bool.not_false, cond_true, show ((1 : Int) == 0) = false from rfl, cond_false] at hv ⊢
    rw [leaf_val hv]
  | true =>
    obtain ⟨h1, h9⟩ := chk_range (ws := ws) a1
    have n1 : decide (1 ≤ n) = true := decide_eq_true h1
    have n2 : decide (n ≤ 9) = true := decide_eq_true h9
    have n3 : decide (0 ≤ n) = true := decide_eq_true (by omega)
    simp only [a1, Bool.not_true, cond_false] at hv ⊢
    by_cases h2 : 12 < ws.length
    · simp only [decide_eq_true h2, decide_eq_true (show ((ws.length : Int) > 12) by omega), cond_true, show ((3 : Int) == 0) = false from rfl, cond_false] at hv ⊢
      rw [leaf_val hv]
    · simp only [decide_eq_false h2, decide_eq_false (show ¬ ((ws.length : Int) > 12) by omega), cond_false] at hv ⊢
      have hn := Brn.nextL_ok h9 ws
      have e1 : (Brn.waysP n ws 0 (List.replicate 9 0)).2.2 = Brn.nextL n ws := rfl
      have e2 : (Brn.waysP n ws 0 (List.replicate 9 0)).1 = Brn.wayE n ws := rfl
      have e3 : (Brn.rounds n.toNat (Brn.nextL n ws) 9 0 (List.replicate 81 0) (Brn.initN n.toNat (List.replicate 9 0))).1 = Brn.ground n ws := rfl
      have e4 : decide ((Brn.initN n.toNat (List.replicate 9 0)).length = 9) = true := decide_eq_true (by rw [Brn.initN_len']; rfl)
      have e5 : ((Brn.nextL n ws).all fun x => decide (0 ≤ x) && decide (x < 512)) = true := List.all_eq_true.2 fun x hx => by
        have := hn.2 x hx
        simp [this]
      have e6 : (Brn.ground n ws)[8]? = some ((Brn.ground n ws).getD 8 0) := get9 (Brn.ground_len n ws) (by omega)
      simp only [e1, e2, e3, e4, e5, e6, n1, n2, n3, hws, hpl, decide_true, Bool.and_self, cond_true, oM, decide_eq_true hn.1]
      cases hw : Brn.wayE n ws == 0 with
      | false =>
        simp only [hw, cond_false] at hv ⊢
        rw [leaf_val hv]
      | true =>
        simp only [hw, cond_true] at hv ⊢
        generalize decide ((Brn.rounds n.toNat (Brn.nextL n ws) 9 0 (List.replicate 81 0) (Brn.initN n.toNat (List.replicate 9 0))).2.2 < 9) = dd
        cases hg : (Brn.ground n ws).getD 8 0 != Brn.allN n with
        | true =>
          simp only [hg, cond_true, show ((5 : Int) == 0) = false from rfl, cond_false] at hv ⊢
          rw [leaf_val hv]
          cases dd <;> rfl
        | false =>
          simp only [hg, cond_false, show ((0 : Int) == 0) = true from rfl, cond_true] at hv ⊢
          cases ha : pl.all fun p => Brn.inR p 0 (n - 1) with
          | true =>
            simp only [ha, cond_true] at hv ⊢
            rw [leaf_val (show (Tree.leaf _).val = some r from hv)]
            cases dd <;> rfl
          | false =>
            simp only [ha, cond_false] at hv ⊢
            rw [leaf_val (show (Tree.leaf _).val = some r from hv)]
            cases dd <;> rfl)
theorem S6_ok : TabOK S6 := by
  have h := S5_ok
  have h := h.addCall (g := 65) (r := c65) fun a H v H' hv => by refine CallOK.tab ?_ ?_ (c65_run a H v H' hv) <;> rfl
  exact h
theorem S7_ok : TabOK S7 := by
  have h := S6_ok
  exact h
end Go.Ev.Burn
namespace Go.Ev.Burn
open Go Go.Ev
set_option maxRecDepth 1000000
set_option linter.unusedVariables false
set_option linter.unusedSimpArgs false
theorem S8_ok : TabOK S8 := by
  have h := S7_ok
  exact h
theorem S9_ok : TabOK S9 := by
  have h := S8_ok
  exact h
theorem S10_ok : TabOK S10 := by
  have h := S9_ok
  exact h
theorem S11_ok : TabOK S11 := by
  have h := S10_ok
  exact h
end Go.Ev.Burn
namespace Go.Ev.Burn
open Go Go.Ev
set_option maxRecDepth 1000000
set_option linter.unusedVariables false
set_option linter.unusedSimpArgs false
theorem S12_ok : TabOK S12 := by
  have h := S11_ok
  exact h
theorem S13_ok : TabOK S13 := by
  have h := S12_ok
  exact h
theorem S14_ok : TabOK S14 := by
  have h := S13_ok
  exact h
end Go.Ev.Burn
