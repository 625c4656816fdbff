/- Ways by lists: plain definitions. -/
import Derived.Test.YtlckdhlepjimeaaSb
set_option linter.unusedVariables false
set_option linter.unusedSimpArgs false
namespace Lan
open Go
def lastI (l : List Int) : Int := l.getD (l.length - 1) 0
def wB (to : Int) (l : List Int) : List (List Int) := bif lastI l == to then [l] else []
def wF (b to : Int) (sh : List Int) (f : Nat) (l : List Int) : List (List Int) :=
  match f with
  | 0 => []
  | f + 1 => bif has sh (lastI l) then [] else wB to l ++ (List.range f).flatMap fun (k : Nat) => bif stepR b (lastI l) (lastI l + 1 + k) then wF b to sh (f - k) (l ++ [lastI l + 1 + k]) else []
termination_by f
decreasing_by omega
def wN (b to : Int) (sh : List Int) (f : Nat) (l : List Int) (i : Nat) : List (List Int) := wB to l ++ (List.range i).flatMap fun (k : Nat) => bif stepR b (lastI l) (lastI l + 1 + k) then wF b to sh (f - k) (l ++ [lastI l + 1 + k]) else []
theorem wF_succ (b to : Int) (sh : List Int) (f : Nat) (l : List Int) : wF b to sh (f + 1) l = bif has sh (lastI l) then [] else wN b to sh f l f := by
  rw [wF]; rfl
theorem wN_succ (b to : Int) (sh : List Int) (f : Nat) (l : List Int) (i : Nat) : wN b to sh f l (i + 1) = wN b to sh f l i ++ bif stepR b (lastI l) (lastI l + 1 + i) then wF b to sh (f - i) (l ++ [lastI l + 1 + i]) else [] := by
  unfold wN
  rw [List.range_succ, List.flatMap_append, List.append_assoc]
  simp only [List.flatMap_cons, List.flatMap_nil, List.append_nil]
def wR (a b to : Int) (sh l : List Int) : List (List Int) := wF b to sh (a * b - lastI l).toNat l
def wayG (a b : Int) (sh l : List Int) : Bool := side a b && Ev.sm sh && !l.isEmpty && decide (0 ≤ lastI l) && decide (lastI l < a * b) && decide ((l.length : Int) ≤ lastI l + 1)
def tyW (b to : Int) (l : List Int) (i : Nat) : TypeId := bif (lastI l == to) || ((List.range i).any fun (k : Nat) => stepR b (lastI l) (lastI l + 1 + k)) then 22 else 0
theorem tyW_succ (b to : Int) (l : List Int) (i : Nat) : tyW b to l (i + 1) = bif stepR b (lastI l) (lastI l + 1 + i) then 22 else tyW b to l i := by
  unfold tyW
  rw [List.range_succ, List.any_append]
  simp only [List.any_cons, List.any_nil, Bool.or_false]
  cases lastI l == to <;> cases (List.range i).any (fun (k : Nat) => stepR b (lastI l) (lastI l + 1 + k)) <;> cases stepR b (lastI l) (lastI l + 1 + i) <;> rfl
def tyR (a b to : Int) (sh l : List Int) : TypeId := bif has sh (lastI l) then 0 else tyW b to l (a * b - lastI l - 1).toNat
end Lan
namespace Go.Ev.Lane
open Go Go.Ev
set_option maxRecDepth 1000000
set_option maxHeartbeats 0
set_option linter.unusedVariables false
def c71t (d : Nat) (l sh : List Int) (a b to : Int) : Tree (AV × Hp) := .br (Lan.wayG a b sh l && decide (a * b - Lan.lastI l ≤ (d : Int))) (.leaf (osW 0 (Lan.wR a b to sh l).length, [some (rowL (Lan.wR a b to sh l) (Lan.tyR a b to sh l))])) .fail
def c71 (d : Nat) (args : List AV) (H : Hp) : Tree (AV × Hp) := match args, H with
  | [(.agg [.sc (.int .i64 a), .sc (.int .i64 b), .sl (.int .i64) sh false] false), (.sl (.int .i64) l false), (.sc (.int .i64 to))], [] => c71t d l sh a b to
  | _, _ => .fail
theorem c71_ok (d : Nat) {T : Tab} (hT : TabOK T) (h : ∀ (l sh : List Int) (a b to : Int) (r : AV × Hp), (c71t d l sh a b to).val = some r → evBody T 71 [aP a b sh, lI l, vi to] [] = some r) : ∀ args H v H', (c71 d args H).val = some (v, H') → CallOK T 71 args H v H' := by
  intro args H v H' hv
  unfold c71 at hv
  split at hv
  · exact evBody_sound hT (h _ _ _ _ _ _ hv)
  · cases hv
noncomputable def U0 (d : Nat) : Tab := T11.addCall 71 (c71 d)
theorem nl71 (d : Nat) (again : Ag) (l sh : List Int) (out : List (List Int)) (ty : TypeId) (a b to t n : Int) (k : Nat) : lpStep (U0 d) 71 8 0 (lpc (U0 d) 71 8) again [lI l, vi to, ps 0, vi t, osW 1 k, vi n] [some (rP a b sh 29), some (rowL out ty)] = (bif decide (n < IntKind.i64.wrap (a * b)) then bif Lan.side a b && decide (0 ≤ t) && decide (t < 16) then bif Lan.stepR b t n then bif bif decide (0 < l.length) then true else ([] : List Int).isEmpty then bif room (0 + l.length) 8 then bif room (0 + l.length + 1) 8 then bif Lan.wayG a b sh ([] ++ l ++ [n]) && decide (a * b - Lan.lastI ([] ++ l ++ [n]) ≤ (↑d : Int)) then bif room (k + (Lan.wR a b to sh ([] ++ l ++ [n])).length) 24 then again [.sl (.int .i64) l false, vi to, .ps 0 0 0 0, vi t, osW 1 (k + (Lan.wR a b to sh ([] ++ l ++ [n])).length), vi (IntKind.i64.wrap (n + 1))] [some ⟨[vi a, vi b, .sl (.int .i64) sh false], true, 29, false, false, none⟩, some ⟨[.run (.ilist .i64) (out ++ Lan.wR a b to sh ([] ++ l ++ [n]))], false, 22, false, false, none⟩] else none else none else none else none else none else again [.sl (.int .i64) l false, vi to, .ps 0 0 0 0, vi t, osW 1 k, vi (IntKind.i64.wrap (n + 1))] [some ⟨[vi a, vi b, .sl (.int .i64) sh false], true, 29, false, false, none⟩, some ⟨[.run (.ilist .i64) out], false, ty, false, false, none⟩] else none else some (.ext 0, [.sl (.int .i64) l false, vi to, .ps 0 0 0 0, vi t, osW 1 k, vi n], [some ⟨[vi a, vi b, .sl (.int .i64) sh false], true, 29, false, false, none⟩, some ⟨[.run (.ilist .i64) out], false, ty, false, false, none⟩])) := by kernel_rfl
def l71_8t (d : Nat) (l sh : List Int) (out : List (List Int)) (ty : TypeId) (a b to t n : Int) (k : Nat) : Tree (Out × List AV × Hp) := .br (Lan.wayG a b sh l && decide (t = Lan.lastI l) && decide (n = t + 1) && decide (k = out.length) && decide (out = Lan.wB to l) && decide (ty = tyL out) && decide (a * b - t ≤ (d : Int) + 1)) (.leaf (.ext 0, [lI l, vi to, ps 0, vi t, osW 1 (Lan.wN b to sh (a * b - t - 1).toNat l (a * b - t - 1).toNat).length, vi (a * b)], [some (rP a b sh 29), some (rowL (Lan.wN b to sh (a * b - t - 1).toNat l (a * b - t - 1).toNat) (Lan.tyW b to l (a * b - t - 1).toNat))])) .fail
def l71_8 (d : Nat) (base : Nat) (kv : List AV) (H : Hp) : Tree (Out × List AV × Hp) := match Nat.beq base 0, kv, H with
  | true, [(.sl (.int .i64) l false), (.sc (.int .i64 to)), (.ps 0 0 0 0), (.sc (.int .i64 t)), (.os 1 0 0 k true false true), (.sc (.int .i64 n))], [some ⟨[.sc (.int .i64 a), .sc (.int .i64 b), .sl (.int .i64) sh false], true, 29, false, false, none⟩, some ⟨[.run (.ilist .i64) out], false, ty, false, false, none⟩] => l71_8t d l sh out ty a b to t n k
  | _, _, _ => .fail
theorem l71_8_ok (d : Nat) {T : Tab} (hT : TabOK T) (hlo : loopOf T.fn 71 8 = some (lpc T 71 8)) (h : ∀ (l sh : List Int) (out : List (List Int)) (ty : TypeId) (a b to t n : Int) (k : Nat) (r : Out × List AV × Hp), (l71_8t d l sh out ty a b to t n k).val = some r → ∃ mm, lpRun T 71 8 0 (lpc T 71 8) mm [lI l, vi to, ps 0, vi t, osW 1 k, vi n] [some (rP a b sh 29), some (rowL out ty)] = some r) : ∀ base kv H o kv' H', (l71_8 d base kv H).val = some (o, kv', H') → LoopOK T 71 8 base kv H o kv' H' := by
  intro base kv H o kv' H' hv
  unfold l71_8 at hv
  split at hv
  · rename_i hb
    obtain rfl := Nat.eq_of_beq_eq_true hb
    exact loop_ok hT hlo (h _ _ _ _ _ _ _ _ _ _ _ hv)
  · cases hv
noncomputable def U1 (d : Nat) : Tab := (U0 d).addLoop 71 8 (l71_8 d)
theorem nf71 (d : Nat) (l sh : List Int) (a b to : Int) : evBody (U1 d) 71 [aP a b sh, lI l, vi to] [] = (bif decide (0 ≤ IntKind.i64.wrap ((↑l.length : Int) - 1)) then bif decide (IntKind.i64.wrap ((↑l.length : Int) - 1) < (↑l.length : Int)) then oM l[(IntKind.i64.wrap ((↑l.length : Int) - 1)).toNat]? fun x => bif sm sh then bif Lan.has sh x then some (osW 0 0, [some ⟨[.run (.ilist .i64) []], false, 0, false, false, none⟩]) else bif x == to then bif Lan.wayG a b sh l && decide (x = Lan.lastI l) && decide (IntKind.i64.wrap (x + 1) = x + 1) && decide (1 = 1) && decide ([] ++ [l] = Lan.wB to l) && decide (22 = Lane.tyL ([] ++ [l])) && decide (a * b - x ≤ (↑d : Int) + 1) then some (.os 0 0 0 (Lan.wN b to sh (a * b - x - 1).toNat l (a * b - x - 1).toNat).length true false true, [some ⟨[.run (.ilist .i64) (Lan.wN b to sh (a * b - x - 1).toNat l (a * b - x - 1).toNat)], false, Lan.tyW b to l (a * b - x - 1).toNat, false, false, none⟩]) else none else bif Lan.wayG a b sh l && decide (x = Lan.lastI l) && decide (IntKind.i64.wrap (x + 1) = x + 1) && decide (0 = 0) && decide ([] = Lan.wB to l) && decide (0 = Lane.tyL []) && decide (a * b - x ≤ (↑d : Int) + 1) then some (.os 0 0 0 (Lan.wN b to sh (a * b - x - 1).toNat l (a * b - x - 1).toNat).length true false true, [some ⟨[.run (.ilist .i64) (Lan.wN b to sh (a * b - x - 1).toNat l (a * b - x - 1).toNat)], false, Lan.tyW b to l (a * b - x - 1).toNat, false, false, none⟩]) else none else none else none else none) := by kernel_rfl
end Go.Ev.Lane
namespace Go.Ev.Lane
open Go Go.Ev
set_option maxRecDepth 1000000
set_option maxHeartbeats 0
set_option linter.unusedVariables false
def _root_.Lan.onP (a b x : Int) : Bool := decide (0 ≤ x) && decide (x < a * b)
noncomputable def U2 : Tab := U0 16
end Go.Ev.Lane
namespace Lan
open Go
theorem last_snoc (l : List Int) (x : Int) : lastI (l ++ [x]) = x := by
  unfold lastI
  rw [List.length_append, List.length_singleton, Nat.add_sub_cancel, List.getD_eq_getElem?_getD, List.getElem?_append_right (Nat.le_refl _), Nat.sub_self]
  rfl
theorem last_get {l : List Int} (h : l ≠ []) : l[l.length - 1]? = some (lastI l) := get_getD (by have := List.length_pos_iff.2 h; omega)
theorem step_next {b x y : Int} (h : stepR b x y = true) : y = x + 1 ∨ y = x + b := by
  unfold stepR at h
  cases h1 : (y == x + 1) with
  | true => exact .inl (beq_iff_eq.1 h1)
  | false =>
    rw [h1, Bool.false_and, cond_false] at h
    exact .inr (beq_iff_eq.1 h)
theorem wN_lenW {b to : Int} {sh : List Int} {f : Nat} (hF : ∀ m, m ≤ f → ∀ l, (wF b to sh m l).length ≤ 2 ^ m) (l : List Int) : ∀ i, i ≤ f → (wN b to sh f l i).length + 2 ^ (f - i + 1) ≤ 1 + 2 ^ (f + 1)
  | 0, _ => by
    have : (wN b to sh f l 0).length ≤ 1 := by
      unfold wN wB
      cases lastI l == to <;> simp
    rw [Nat.sub_zero]
    omega
  | i + 1, hi => by
    have ih := wN_lenW hF l i (by omega)
    rw [wN_succ, List.length_append]
    have e : 2 ^ (f - i + 1) = 2 * 2 ^ (f - i) := by rw [Nat.pow_succ]; omega
    rw [show f - (i + 1) + 1 = f - i by omega]
    have h2 : (bif stepR b (lastI l) (lastI l + 1 + i) then wF b to sh (f - i) (l ++ [lastI l + 1 + i]) else []).length ≤ 2 ^ (f - i) := by
      cases stepR b (lastI l) (lastI l + 1 + i) with
      | true => exact hF (f - i) (by omega) _
      | false => exact Nat.zero_le _
    omega
theorem wF_len (b to : Int) (sh : List Int) : ∀ (f m : Nat), m ≤ f → ∀ l, (wF b to sh m l).length ≤ 2 ^ m
  | f, 0, _, l => by rw [wF]; exact Nat.zero_le _
  | 0, m + 1, h, l => by omega
  | f + 1, m + 1, h, l => by
    rw [wF_succ]
    cases has sh (lastI l) with
    | true => exact Nat.zero_le _
    | false =>
      have := wN_lenW (b := b) (to := to) (sh := sh) (f := m) (fun q hq l => wF_len b to sh f q (by omega) l) l m (Nat.le_refl _)
      rw [Nat.sub_self] at this
      rw [cond_false]
      omega
theorem wN_len (b to : Int) (sh : List Int) (f : Nat) (l : List Int) (i : Nat) (h : i ≤ f) (hf : f ≤ 15) : (wN b to sh f l i).length ≤ 65537 := by
  have h1 := wN_lenW (b := b) (to := to) (sh := sh) (f := f) (fun m hm l => wF_len b to sh f m hm l) l i h
  have h2 : 2 ^ (f + 1) ≤ 2 ^ 16 := Nat.pow_le_pow_right (by decide) (by omega)
  have h3 : (2 : Nat) ^ 16 = 65536 := by decide
  have h4 := Nat.le_trans (Nat.le_add_right _ _) h1
  omega
end Lan
namespace Go.Ev.Lane
open Go Go.Ev
set_option maxRecDepth 1000000
set_option linter.unusedVariables false
set_option linter.unusedSimpArgs false
theorem l71_8_run (d : Nat) (hT : TabOK (U0 d)) : ∀ base kv H o kv' H', (l71_8 d base kv H).val = some (o, kv', H') → LoopOK (U0 d) 71 8 base kv H o kv' H' := l71_8_ok d hT (by kernel_rfl) (by
  intro l sh out ty a b to t n k r hv
  obtain ⟨hl, hv2⟩ := guard_val hv
  simp only [Bool.and_eq_true, decide_eq_true_eq] at hl
  obtain ⟨⟨⟨⟨⟨⟨hg, rfl⟩, rfl⟩, rfl⟩, rfl⟩, rfl⟩, hd⟩ := hl
  unfold Lan.wayG at hg
  simp only [Bool.and_eq_true, decide_eq_true_eq, Bool.not_eq_true', List.isEmpty_eq_false_iff] at hg
  obtain ⟨⟨⟨⟨⟨hs, hsm⟩, hne⟩, x0⟩, x1⟩, hlen⟩ := hg
  obtain ⟨e1, e2, e3⟩ := Lan.wrong_wrap hs
  obtain ⟨h1, h2, h3, h4⟩ := side_yes hs
  obtain ⟨t, ht⟩ : ∃ t : Nat, Lan.lastI l = (t : Int) := Int.eq_ofNat_of_zero_le x0
  obtain ⟨f, hf⟩ : ∃ f : Nat, a * b - (t : Int) - 1 = (f : Int) := Int.eq_ofNat_of_zero_le (by omega)
  rw [leaf_val hv2]
  rw [ht] at hd ⊢
  rw [hf, toNat_cast]
  have hp : 0 < l.length := List.length_pos_iff.2 hne
  obtain ⟨mm, hm⟩ := steps_of (T := U0 d) (fid := 71) (lid := 8) (base := 0) (c := lpc (U0 d) 71 8) f
    (fun i => [lI l, vi to, ps 0, vi t, osW 1 (Lan.wN b to sh f l i).length, vi ((t : Int) + 1 + i)]) (fun i => [some (rP a b sh 29), some (rowL (Lan.wN b to sh f l i) (Lan.tyW b to l i))])
    (.ext 0, [lI l, vi to, ps 0, vi t, osW 1 (Lan.wN b to sh f l f).length, vi (a * b)], [some (rP a b sh 29), some (rowL (Lan.wN b to sh f l f) (Lan.tyW b to l f))])
    (fun i hi again => by
      rw [nl71, e1, hs, decide_eq_true (show (t : Int) + 1 + i < a * b by omega), decide_eq_true (show (0 : Int) ≤ (t : Int) by omega), decide_eq_true (show (t : Int) < 16 by omega), wrapi (x := (t : Int) + 1 + i + 1) (by omega) (by omega), Lan.wN_succ, Lan.tyW_succ, ht, show (t : Int) + 1 + (i + 1 : Nat) = (t : Int) + 1 + i + 1 by omega]
      simp only [cond_true, Bool.and_self]
      cases hst : Lan.stepR b (t : Int) ((t : Int) + 1 + i) with
      | false => simp only [cond_false, List.append_nil]
      | true =>
        have hla : Lan.lastI (l ++ [(t : Int) + 1 + i]) = (t : Int) + 1 + i := Lan.last_snoc _ _
        have hwG : Lan.wayG a b sh (l ++ [(t : Int) + 1 + i]) = true := by
          unfold Lan.wayG
          rw [hla, hs, hsm]
          simp only [List.length_append, List.length_singleton, Bool.and_eq_true, decide_eq_true_eq, Bool.not_eq_true', List.isEmpty_eq_false_iff, true_and, Bool.true_and]
          refine ⟨⟨⟨by simp, by omega⟩, by omega⟩, by omega⟩
        have hR : Lan.wR a b to sh (l ++ [(t : Int) + 1 + i]) = Lan.wF b to sh (f - i) (l ++ [(t : Int) + 1 + i]) := by
          unfold Lan.wR
          rw [hla]
          congr 1
          omega
        have hroom := Lan.wN_len b to sh f l (i + 1) (by omega) (by omega)
        rw [Lan.wN_succ, ht, hst, cond_true, List.length_append] at hroom
        simp only [cond_true, cond_false, decide_eq_true hp, List.nil_append, room_ok (show 0 + l.length ≤ 1000000 by omega) (show 8 ≤ 200 by omega), room_ok (show 0 + l.length + 1 ≤ 1000000 by omega) (show 8 ≤ 200 by omega), hwG, hla, Bool.true_and, decide_eq_true (show a * b - ((t : Int) + 1 + i) ≤ (d : Int) by omega), hR, List.length_append]
        rw [room_ok (by omega) (by omega)]
        rfl)
    (fun again => by
      rw [nl71, e1, decide_eq_false (show ¬ (t : Int) + 1 + f < a * b by omega), show (t : Int) + 1 + f = a * b by omega]
      rfl)
  refine ⟨mm, Eq.trans ?_ hm⟩
  congr 1
  · unfold Lan.wN; simp
  · unfold Lan.wN Lan.tyW Lan.wB; cases (Lan.lastI l == to) <;> simp [tyL])
theorem c71_run (d : Nat) (hT : TabOK (U1 d)) : ∀ args H v H', (c71 (d + 1) args H).val = some (v, H') → CallOK (U1 d) 71 args H v H' := c71_ok (d + 1) hT (by
  intro l sh a b to r hv
  obtain ⟨hl, hv2⟩ := guard_val hv
  simp only [Bool.and_eq_true, decide_eq_true_eq] at hl
  obtain ⟨hg, hd⟩ := hl
  have hwG := hg
  unfold Lan.wayG at hg
  simp only [Bool.and_eq_true, decide_eq_true_eq, Bool.not_eq_true', List.isEmpty_eq_false_iff] at hg
  obtain ⟨⟨⟨⟨⟨hs, hsm⟩, hne⟩, x0⟩, x1⟩, hlen⟩ := hg
  obtain ⟨e1, e2, e3⟩ := Lan.wrong_wrap hs
  have hp : 0 < l.length := List.length_pos_iff.2 hne
  have hq : IntKind.i64.wrap ((l.length : Int) - 1) = ((l.length - 1 : Nat) : Int) := by rw [wrapi (by omega) (by omega)]; omega
  obtain ⟨f, hf⟩ : ∃ f : Nat, a * b - Lan.lastI l - 1 = (f : Int) := Int.eq_ofNat_of_zero_le (by omega)
  rw [nf71, leaf_val hv2, hq, dec_ge, dec_lt (show l.length - 1 < l.length by omega), toNat_cast, Lan.last_get hne]
  unfold Lan.wR Lan.tyR
  rw [show (a * b - Lan.lastI l).toNat = f + 1 by omega, Lan.wF_succ, hf, toNat_cast]
  simp only [oM, cond_true, hsm]
  cases hh : Lan.has sh (Lan.lastI l) with
  | true => rfl
  | false =>
    have hw : Lan.wB to l = bif Lan.lastI l == to then [l] else [] := rfl
    cases ht : Lan.lastI l == to with
    | true =>
      rw [ht, cond_true] at hw
      simp only [cond_true, cond_false, hwG, hw, List.nil_append, wrapi (x := Lan.lastI l + 1) (by omega) (by omega), decide_true, tyL, decide_eq_true (show a * b - Lan.lastI l ≤ (d : Int) + 1 by omega), Bool.and_self, hf, toNat_cast]
    | false =>
      rw [ht, cond_false] at hw
      simp only [cond_true, cond_false, hwG, hw, List.nil_append, wrapi (x := Lan.lastI l + 1) (by omega) (by omega), decide_true, tyL, decide_eq_true (show a * b - Lan.lastI l ≤ (d : Int) + 1 by omega), Bool.and_self, hf, toNat_cast])
theorem c71_zero : ∀ args H, (c71 0 args H).val = none := by
  intro args H
  cases hr : (c71 0 args H).val with
  | none => rfl
  | some r =>
    exfalso
    unfold c71 at hr
    split at hr
    · obtain ⟨hg, _⟩ := guard_val hr
      unfold Lan.wayG at hg
      simp only [Bool.and_eq_true, decide_eq_true_eq] at hg
      omega
    · cases hr
theorem U0_ok : ∀ d, TabOK (U0 d)
  | 0 => T11_ok.addCall fun a H v H' hv => by rw [c71_zero] at hv; cases hv
  | d + 1 => by
    have h0 := U0_ok d
    have h1 : TabOK (U1 d) := h0.addLoop fun b k H o k' H' hv => by refine LoopOK.tab ?_ ?_ ?_ ?_ (l71_8_run d h0 b k H o k' H' hv) <;> rfl
    exact T11_ok.addCall fun a H v H' hv => by refine CallOK.tab ?_ ?_ (c71_run d h1 a H v H' hv) <;> rfl
end Go.Ev.Lane
namespace Lan
open Go
theorem fx_inl {β : Type} (err : Nat → β → Int) : ∀ (l : List β) (i : Nat) (x : Int × Nat), Ev.foldX (fun i (_ : Unit) p => bif err i p == 0 then .inr () else .inl (err i p, i)) i l () = .inl x → x.1 ≠ 0
  | [], i, x, h => by cases h
  | y :: l, i, x, h => by
    simp only [Ev.foldX] at h
    cases he : err i y == 0 with
    | true => rw [he] at h; exact fx_inl err l (i + 1) x h
    | false =>
      rw [he] at h
      cases h
      exact beq_eq_false_iff_ne.1 he
theorem fx_inr {β : Type} (err : Nat → β → Int) : ∀ (l : List β) (i : Nat), Ev.foldX (fun i (_ : Unit) p => bif err i p == 0 then .inr () else .inl (err i p, i)) i l () = .inr () → ∀ k x, l[k]? = some x → err (i + k) x = 0
  | [], i, h, k, x, hx => by simp at hx
  | y :: l, i, h, k, x, hx => by
    simp only [Ev.foldX] at h
    cases he : err i y == 0 with
    | false => rw [he] at h; cases h
    | true =>
      rw [he] at h
      cases k with
      | zero => simp at hx; subst hx; exact beq_iff_eq.1 he
      | succ k =>
        have := fx_inr err l (i + 1) h k x (by simpa using hx)
        rw [show i + (k + 1) = i + 1 + k by omega]
        exact this
theorem firstE_zero {β : Type} {err : Nat → β → Int} {l : List β} (h : firstE err l = 0) : ∀ k x, l[k]? = some x → err k x = 0 := by
  unfold firstE firstX at h
  cases hf : Ev.foldX (fun i (_ : Unit) p => bif err i p == 0 then .inr () else .inl (err i p, i)) 0 l () with
  | inl x => rw [hf] at h; exact absurd h (fx_inl err l 0 x hf)
  | inr u =>
    intro k x hx
    have := fx_inr err l 0 hf k x hx
    rwa [Nat.zero_add] at this
theorem onP_wrong {a b x : Int} : onP a b x = !wrongB a b x := by
  unfold onP wrongB
  rw [Bool.eq_iff_iff]
  simp only [Bool.and_eq_true, decide_eq_true_eq, Bool.not_eq_true', Bool.or_eq_false_iff, decide_eq_false_iff_not]
  omega
structure ChkOK (a b : Int) (sh ya ti : List Int) : Prop where
  side : side a b = true
  shut : ∀ x ∈ sh, onP a b x = true
  yards : ∀ x ∈ ya, onP a b x = true
  tips : ∀ x ∈ ti, onP a b x = true
  len : ya.length = ti.length
  pos : 1 ≤ ya.length
  few : ya.length ≤ 3
theorem asc_in {a b : Int} {l : List Int} (h : ascE a b l = 0) : ∀ x ∈ l, onP a b x = true := by
  intro x hx
  obtain ⟨k, hk⟩ := List.getElem?_of_mem hx
  have := firstE_zero h k x hk
  rw [onP_wrong]
  unfold ascErr at this
  cases hw : wrongB a b x with
  | false => rfl
  | true => rw [hw] at this; cases this
theorem pl_in {a b : Int} {sh l : List Int} (h : plE a b sh l = 0) : ∀ x ∈ l, onP a b x = true := by
  intro x hx
  obtain ⟨k, hk⟩ := List.getElem?_of_mem hx
  have := firstE_zero h k x hk
  rw [onP_wrong]
  unfold plErr at this
  cases hw : wrongB a b x with
  | false => rfl
  | true => rw [hw] at this; cases this
theorem chk_ok {a b : Int} {sh ya ti : List Int} (h : chk a b sh ya ti = 0) : ChkOK a b sh ya ti := by
  unfold chk at h
  cases h1 : Lan.side a b with
  | false => rw [h1] at h; cases h
  | true =>
  rw [h1, Bool.not_true, cond_false] at h
  cases h2 : ascE a b sh != 0 with
  | true => rw [h2, cond_true] at h; rw [h] at h2; cases h2
  | false =>
  rw [h2, cond_false] at h
  cases h3 : decide (ya.length ≠ ti.length) with
  | true => rw [h3] at h; cases h
  | false =>
  rw [h3, cond_false] at h
  cases h4 : decide (ya.length = 0) with
  | true => rw [h4] at h; cases h
  | false =>
  rw [h4, cond_false] at h
  cases h5 : decide (3 < ya.length) with
  | true => rw [h5] at h; cases h
  | false =>
  rw [h5, cond_false] at h
  cases h6 : plE a b sh ya != 0 with
  | true => rw [h6, cond_true] at h; rw [h] at h6; cases h6
  | false =>
  rw [h6, cond_false] at h
  have h2 : ascE a b sh = 0 := by simpa using h2
  have h6 : plE a b sh ya = 0 := by simpa using h6
  exact ⟨h1, asc_in h2, pl_in h6, pl_in h, by simpa using h3, by have := of_decide_eq_false h4; omega, by have := of_decide_eq_false h5; omega⟩
theorem ChkOK.in16 {a b : Int} {sh ya ti : List Int} (h : ChkOK a b sh ya ti) : in16 sh = true := by
  unfold Lan.in16
  rw [List.all_eq_true]
  intro x hx
  have h1 := h.shut x hx
  obtain ⟨e1, e2, e3⟩ := wrong_wrap h.side
  unfold onP at h1
  simp only [Bool.and_eq_true, decide_eq_true_eq] at *
  omega
theorem way_one {a b x : Int} {sh : List Int} (hs : side a b = true) (hsm : Ev.sm sh = true) (h : onP a b x = true) : wayG a b sh [x] = true ∧ a * b - lastI [x] ≤ 16 := by
  obtain ⟨e1, e2, e3⟩ := wrong_wrap hs
  unfold onP at h
  simp only [Bool.and_eq_true, decide_eq_true_eq] at h
  have hl : lastI [x] = x := rfl
  refine ⟨?_, by rw [hl]; omega⟩
  unfold wayG
  rw [hl, hs, hsm, decide_eq_true h.1, decide_eq_true h.2]
  simp only [List.length_singleton, List.isEmpty_cons, Bool.not_false, Bool.and_self, Bool.true_and]
  exact decide_eq_true (by omega)
end Lan
namespace Go.Ev.Lane
open Go Go.Ev
set_option maxRecDepth 1000000
set_option linter.unusedVariables false
set_option linter.unusedSimpArgs false
theorem U2_ok : TabOK U2 := U0_ok 16
end Go.Ev.Lane
