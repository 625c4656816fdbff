/- The program's functions of the burn chapter that are called from outside: tables and normal forms. -/
import Derived.Test.YtpieoljeikpemaaDoorSc
import Derived.Test.YtpieoljeikpemaaDoorSa
set_option linter.unusedVariables false
set_option linter.unusedSimpArgs false
namespace Go.Ev.Burn
open Go Go.Ev
set_option maxRecDepth 1000000
set_option linter.unusedVariables false
def c65t (n : Int) (ws : Ws) (pl : List Int) : Tree (AV × Hp) := .br (sm ws && sm pl) (.br (Brn.openErr n ws pl == 0) (.leaf (.tuple [ps 0, vi 0], [some (rG n (Brn.ground n ws))])) (.leaf (.tuple [nilP, vi (Brn.openErr n ws pl)], []))) .fail
def c65 (args : List AV) (H : Hp) : Tree (AV × Hp) := match args, H with
  | [(.agg [.sc (.int .i64 n), .sl (.pair .i64) ws false] false), (.sl (.int .i64) pl false)], [] => c65t n ws pl
  | _, _ => .fail
theorem c65_ok {T : Tab} (hT : TabOK T) (h : ∀ (n : Int) (ws : Ws) (pl : List Int) (r : AV × Hp), (c65t n ws pl).val = some r → evBody T 65 [aH n ws, lI pl] [] = some r) : ∀ args H v H', (c65 args H).val = some (v, H') → CallOK T 65 args H v H' := by
  intro args H v H' hv
  unfold c65 at hv
  split at hv
  · exact evBody_sound hT (h _ _ _ _ hv)
  · cases hv
def l93_2t (l : List Int) (to n : Int) : Tree (Out × List AV × Hp) := .br (sm l && decide (0 ≤ to) && decide (n = l.length)) (.br (l.any fun x => Brn.bitU x to) (.leaf (.ret, [lU l, .fn (.func 94) [] [pI to], vi ((l.findIdx fun x => Brn.bitU x to) : Nat), vi n, vi ((l.findIdx fun x => Brn.bitU x to) : Nat)], [])) (.leaf (.ext 0, [lU l, .fn (.func 94) [] [pI to], vi 0, vi n, vi n], []))) .fail
def l93_2 (base : Nat) (kv : List AV) (H : Hp) : Tree (Out × List AV × Hp) := match Nat.beq base 0, kv, H with
  | true, [(.sl (.int .u64) l false), .fn (.func 94) [] [(.pt [.sc (.int .i64 to)] (some 3) 0 0 0)], (.sc (.int .i64 0)), (.sc (.int .i64 n)), (.sc (.int .i64 0))], [] => l93_2t l to n
  | _, _, _ => .fail
theorem l93_2_ok {T : Tab} (hT : TabOK T) (hlo : loopOf T.fn 93 2 = some (lpc T 93 2)) (h : ∀ (l : List Int) (to n : Int) (r : Out × List AV × Hp), (l93_2t l to n).val = some r → ∃ mm, lpRun T 93 2 0 (lpc T 93 2) mm [lU l, .fn (.func 94) [] [pI to], vi 0, vi n, vi 0] [] = some r) : ∀ base kv H o kv' H', (l93_2 base kv H).val = some (o, kv', H') → LoopOK T 93 2 base kv H o kv' H' := by
  intro base kv H o kv' H' hv
  unfold l93_2 at hv
  split at hv
  · rename_i hb
    obtain rfl := Nat.eq_of_beq_eq_true hb
    exact loop_ok hT hlo (h _ _ _ _ hv)
  · cases hv
noncomputable def S6 : Tab := ((S5).addCall 65 c65).addLoop 93 2 l93_2
theorem nf93 (l : List Int) (to : Int) : evBody S6 93 [lU l, .fn (.func 94) [] [pI to]] [] = (bif sm l && decide (0 ≤ to) && decide ((↑l.length : Int) = (↑l.length : Int)) then bif l.any fun x => Brn.bitU x to then some (vi (↑(List.findIdx (fun x => Brn.bitU x to) l) : Int), []) else some (vi (-1), []) else none) := by kernel_rfl
def c93t (l : List Int) (to : Int) : Tree (AV × Hp) := .br (sm l && decide (0 ≤ to)) (.br (l.any fun x => Brn.bitU x to) (.leaf (vi ((l.findIdx fun x => Brn.bitU x to) : Nat), [])) (.leaf (vi (-1), []))) .fail
def c93 (args : List AV) (H : Hp) : Tree (AV × Hp) := match args, H with
  | [(.sl (.int .u64) l false), .fn (.func 94) [] [(.pt [.sc (.int .i64 to)] (some 3) 0 0 0)]], [] => c93t l to
  | _, _ => .fail
theorem c93_ok {T : Tab} (hT : TabOK T) (h : ∀ (l : List Int) (to : Int) (r : AV × Hp), (c93t l to).val = some r → evBody T 93 [lU l, .fn (.func 94) [] [pI to]] [] = some r) : ∀ args H v H', (c93 args H).val = some (v, H') → CallOK T 93 args H v H' := by
  intro args H v H' hv
  unfold c93 at hv
  split at hv
  · exact evBody_sound hT (h _ _ _ hv)
  · cases hv
noncomputable def S7 : Tab := (S6).addCall 93 c93
theorem nf66 (n : Int) (l : List Int) (a b : Int) : evBody S7 66 [aG n l, vi a, vi b] [] = (bif decide (0 ≤ a) then bif decide (a < (↑9 : Int)) then bif decide (9 + a.toNat * 9 ≤ l.length) then bif sm (List.take 9 (List.drop (a.toNat * 9) l)) && decide (0 ≤ b) then bif (List.take 9 (List.drop (a.toNat * 9) l)).any fun x => Brn.bitU x b then some (.sc (.int .i64 (↑(List.findIdx (fun x => Brn.bitU x b) (List.take 9 (List.drop (a.toNat * 9) l))) : Int)), []) else some (vi (-1), []) else none else none else none else none) := by kernel_rfl
def c66t (n : Int) (l : List Int) (a b : Int) : Tree (AV × Hp) := .br (decide (0 ≤ a) && decide (a < 9) && decide (0 ≤ b) && decide (l.length = 81)) (.leaf (vi (Brn.idx9 (Brn.farI l a b)), [])) .fail
def c66 (args : List AV) (H : Hp) : Tree (AV × Hp) := match args, H with
  | [(.pt [.sc (.int .i64 n), .run (.int .u64) l] (some 111) 0 0 0), (.sc (.int .i64 a)), (.sc (.int .i64 b))], [] => c66t n l a b
  | _, _ => .fail
theorem c66_ok {T : Tab} (hT : TabOK T) (h : ∀ (n : Int) (l : List Int) (a b : Int) (r : AV × Hp), (c66t n l a b).val = some r → evBody T 66 [aG n l, vi a, vi b] [] = some r) : ∀ args H v H', (c66 args H).val = some (v, H') → CallOK T 66 args H v H' := by
  intro args H v H' hv
  unfold c66 at hv
  split at hv
  · exact evBody_sound hT (h _ _ _ _ _ hv)
  · cases hv
noncomputable def S8 : Tab := (S7).addCall 66 c66
noncomputable def S9 : Tab := S8
noncomputable def S10 : Tab := S9
noncomputable def S11 : Tab := S10
end Go.Ev.Burn
namespace Go.Ev.Burn
open Go Go.Ev
set_option maxRecDepth 1000000
set_option linter.unusedVariables false
noncomputable def S12 : Tab := S11
noncomputable def S13 : Tab := S12
noncomputable def S14 : Tab := S13
def c16 (args : List AV) (H : Hp) : Tree (AV × Hp) := match args, H with
  | [], [] => .leaf (vb true, [])
  | _, _ => .fail
noncomputable def S15 : Tab := (S14).addCall 16 c16
end Go.Ev.Burn
namespace Go.Ev.Burn
open Go Go.Ev
set_option maxRecDepth 1000000
set_option linter.unusedVariables false
set_option linter.unusedSimpArgs false
theorem c65_run : ∀ args H v H', (c65 args H).val = some (v, H') → CallOK S5 65 args H v H' := c65_ok S5_ok (by
  intro n ws pl r hv
  obtain ⟨hl, hv⟩ := guard_val hv
  simp only [Bool.and_eq_true] at hl
  obtain ⟨hws, hpl⟩ := hl
  rw [nf65]
  unfold Brn.openErr Brn.chkP at hv
  cases a1 : Brn.inR n 1 9 with
  | false =>
    simp only [a1, Bool.not_false, cond_true, show ((1 : Int) == 0) = false from rfl, cond_false] at hv ⊢
    rw [leaf_val hv]
  | true =>
    obtain ⟨h1, h9⟩ := chk_range (ws := ws) a1
    have n1 : decide (1 ≤ n) = true := decide_eq_true h1
    have n2 : decide (n ≤ 9) = true := decide_eq_true h9
    have n3 : decide (0 ≤ n) = true := decide_eq_true (by omega)
    simp only [a1, Bool.not_true, cond_false] at hv ⊢
    by_cases h2 : 12 < ws.length
    · simp only [decide_eq_true h2, decide_eq_true (show ((ws.length : Int) > 12) by omega), cond_true, show ((3 : Int) == 0) = false from rfl, cond_false] at hv ⊢
      rw [leaf_val hv]
    · simp only [decide_eq_false h2, decide_eq_false (show ¬ ((ws.length : Int) > 12) by omega), cond_false] at hv ⊢
      have hn := Brn.nextL_ok h9 ws
      have e1 : (Brn.waysP n ws 0 (List.replicate 9 0)).2.2 = Brn.nextL n ws := rfl
      have e2 : (Brn.waysP n ws 0 (List.replicate 9 0)).1 = Brn.wayE n ws := rfl
      have e3 : (Brn.rounds n.toNat (Brn.nextL n ws) 9 0 (List.replicate 81 0) (Brn.initN n.toNat (List.replicate 9 0))).1 = Brn.ground n ws := rfl
      have e4 : decide ((Brn.initN n.toNat (List.replicate 9 0)).length = 9) = true := decide_eq_true (by rw [Brn.initN_len']; rfl)
      have e5 : ((Brn.nextL n ws).all fun x => decide (0 ≤ x) && decide (x < 512)) = true := List.all_eq_true.2 fun x hx => by
        have := hn.2 x hx
        simp [this]
      have e6 : (Brn.ground n ws)[8]? = some ((Brn.ground n ws).getD 8 0) := get9 (Brn.ground_len n ws) (by omega)
      simp only [e1, e2, e3, e4, e5, e6, n1, n2, n3, hws, hpl, decide_true, Bool.and_self, cond_true, oM, decide_eq_true hn.1]
      cases hw : Brn.wayE n ws == 0 with
      | false =>
        simp only [hw, cond_false] at hv ⊢
        rw [leaf_val hv]
      | true =>
        simp only [hw, cond_true] at hv ⊢
        generalize decide ((Brn.rounds n.toNat (Brn.nextL n ws) 9 0 (List.replicate 81 0) (Brn.initN n.toNat (List.replicate 9 0))).2.2 < 9) = dd
        cases hg : (Brn.ground n ws).getD 8 0 != Brn.allN n with
        | true =>
          simp only [hg, cond_true, show ((5 : Int) == 0) = false from rfl, cond_false] at hv ⊢
          rw [leaf_val hv]
          cases dd <;> rfl
        | false =>
          simp only [hg, cond_false, show ((0 : Int) == 0) = true from rfl, cond_true] at hv ⊢
          cases ha : pl.all fun p => Brn.inR p 0 (n - 1) with
          | true =>
            simp only [ha, cond_true] at hv ⊢
            rw [leaf_val (show (Tree.leaf _).val = some r from hv)]
            cases dd <;> rfl
          | false =>
            simp only [ha, cond_false] at hv ⊢
            rw [leaf_val (show (Tree.leaf _).val = some r from hv)]
            cases dd <;> rfl)
theorem l93_2_run : ∀ base kv H o kv' H', (l93_2 base kv H).val = some (o, kv', H') → LoopOK S5 93 2 base kv H o kv' H' := l93_2_ok S5_ok (by kernel_rfl) (by
  intro l to n r hv
  obtain ⟨hl, hv⟩ := guard_val hv
  simp only [Bool.and_eq_true, decide_eq_true_eq] at hl
  obtain ⟨⟨hs, h0⟩, rfl⟩ := hl
  have hsl := sm_le hs
  obtain ⟨mm, hm⟩ := scan_of (T := S5) (fid := 93) (lid := 2) (base := 0) (c := lpc S5 93 2) l (fun x => Brn.bitU x to) (fun i => [lU l, .fn (.func 94) [] [pI to], vi 0, vi l.length, vi i]) []
    (fun i => (.ret, [lU l, .fn (.func 94) [] [pI to], vi i, vi l.length, vi i], [])) (.ext 0, [lU l, .fn (.func 94) [] [pI to], vi 0, vi l.length, vi l.length], [])
    (fun i x hx hlt again => by
      rw [nl93]
      simp only [dec_lt hlt, dec_ge, cond_true, toNat_cast, hx, oM, decide_eq_true h0]
      rw [wrap_succ (by omega)])
    (fun again => by
      rw [nl93]
      simp only [dec_ll, cond_false])
  refine ⟨mm, hm.trans ?_⟩
  rcases br_val hv with ⟨h, hv⟩ | ⟨h, hv⟩ <;> rw [leaf_val hv, h] <;> rfl)
theorem S6_ok : TabOK S6 := by
  have h := S5_ok
  have h := h.addCall (g := 65) (r := c65) fun a H v H' hv => by refine CallOK.tab ?_ ?_ (c65_run a H v H' hv) <;> rfl
  have h := h.addLoop (g := 93) (lid := 2) (r := l93_2) fun b k H o k' H' hv => by refine LoopOK.tab ?_ ?_ ?_ ?_ (l93_2_run b k H o k' H' hv) <;> rfl
  exact h
theorem c93_run : ∀ args H v H', (c93 args H).val = some (v, H') → CallOK S6 93 args H v H' := c93_ok S6_ok (by
  intro l to r hv
  obtain ⟨hl, hv⟩ := guard_val hv
  rw [nf93, cond_t (by simpa using hl)]
  rcases br_val hv with ⟨h, hv⟩ | ⟨h, hv⟩ <;> rw [leaf_val hv, h] <;> rfl)
theorem S7_ok : TabOK S7 := by
  have h := S6_ok
  have h := h.addCall (g := 93) (r := c93) fun a H v H' hv => by refine CallOK.tab ?_ ?_ (c93_run a H v H' hv) <;> rfl
  exact h
end Go.Ev.Burn
namespace Go.Ev.Burn
open Go Go.Ev
set_option maxRecDepth 1000000
set_option linter.unusedVariables false
set_option linter.unusedSimpArgs false
theorem getD_drop (l : List Int) (a k : Nat) : ((l.drop a).take 9).getD k 0 = if k < 9 then l.getD (k + a) 0 else 0 := by
  simp only [List.getD_eq_getElem?_getD, List.getElem?_take, List.getElem?_drop]
  by_cases h : k < 9
  · rw [if_pos h, if_pos h, Nat.add_comm]
  · rw [if_neg h, if_neg h]; rfl
theorem any_findIdx {l : List Int} {p : Int → Bool} : (bif l.any p then (((l.findIdx p : Nat)) : Int) else -1) = Brn.idx9 (l.findIdx p) ∨ l.length ≠ 9 := by
  by_cases hl : l.length = 9
  · left
    unfold Brn.idx9
    cases h : l.any p with
    | true =>
      have : l.findIdx p < l.length := List.findIdx_lt_length_of_exists (by simpa using h)
      rw [decide_eq_true (by omega)]
    | false =>
      have : l.findIdx p = l.length := List.findIdx_eq_length_of_false (by simpa using h)
      rw [decide_eq_false (by omega)]
  · exact .inr hl
theorem c66_run : ∀ args H v H', (c66 args H).val = some (v, H') → CallOK S7 66 args H v H' := c66_ok S7_ok (by
  intro n l a b r hv
  obtain ⟨hl, hv⟩ := guard_val hv
  simp only [Bool.and_eq_true, decide_eq_true_eq] at hl
  obtain ⟨⟨⟨h0, h9⟩, hb⟩, hlen⟩ := hl
  obtain ⟨a, rfl⟩ := Int.eq_ofNat_of_zero_le h0
  have e1 : decide (9 + a * 9 ≤ l.length) = true := decide_eq_true (by omega)
  have hll : ((l.drop (a * 9)).take 9).length = 9 := by rw [List.length_take, List.length_drop]; omega
  have hs : sm ((l.drop (a * 9)).take 9) = true := sm_of (Nat.le_of_eq hll) (by omega)
  rw [leaf_val hv, nf66]
  simp only [dec_ge, decide_eq_true h9, toNat_cast, e1, cond_true, hs, decide_eq_true hb, Bool.and_self]
  have hfar : Brn.farI l a b = ((l.drop (a * 9)).take 9).findIdx fun x => Brn.bitU x b := by
    unfold Brn.farI
    rw [toNat_cast]
    have : (l.drop (a * 9)).take 9 = (List.range 9).map fun k => l.getD (k + a * 9) 0 := by
      apply List.ext_getElem?
      intro k
      rw [List.getElem?_map]
      by_cases hk : k < 9
      · rw [List.getElem?_range hk, get9 hll hk, getD_drop, if_pos hk]; rfl
      · rw [List.getElem?_eq_none (by omega), List.getElem?_eq_none (by simpa using hk)]; rfl
    rw [this, List.findIdx_map]
    rfl
  rw [hfar]
  rcases any_findIdx (l := (l.drop (a * 9)).take 9) (p := fun x => Brn.bitU x b) with h | h
  · rw [← h]
    cases ((l.drop (a * 9)).take 9).any fun x => Brn.bitU x b <;> rfl
  · exact absurd hll h)
theorem S8_ok : TabOK S8 := by
  have h := S7_ok
  have h := h.addCall (g := 66) (r := c66) fun a H v H' hv => by refine CallOK.tab ?_ ?_ (c66_run a H v H' hv) <;> rfl
  exact h
theorem S9_ok : TabOK S9 := by
  have h := S8_ok
  exact h
theorem S10_ok : TabOK S10 := by
  have h := S9_ok
  exact h
theorem S11_ok : TabOK S11 := by
  have h := S10_ok
  exact h
end Go.Ev.Burn
namespace Go.Ev.Burn
open Go Go.Ev
set_option maxRecDepth 1000000
set_option linter.unusedVariables false
set_option linter.unusedSimpArgs false
theorem S12_ok : TabOK S12 := by
  have h := S11_ok
  exact h
theorem S13_ok : TabOK S13 := by
  have h := S12_ok
  exact h
theorem S14_ok : TabOK S14 := by
  have h := S13_ok
  exact h
end Go.Ev.Burn
