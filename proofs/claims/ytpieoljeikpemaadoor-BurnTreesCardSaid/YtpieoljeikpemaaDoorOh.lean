/- BurnTried: the closure and the fewest, walked. -/
import Derived.Test.YtpieoljeikpemaaDoorOg
set_option linter.unusedVariables false
set_option linter.unusedSimpArgs false
namespace Brn
open Go
set_option linter.unusedVariables false
theorem pD_full {n size : Int} {d l : List Int} (h : (l.length : Int) = size) : pD n d size l = bif enoughD n d l then [l] else [] := by
  unfold pD
  rw [show size.toNat - l.length = 0 by omega]
  simp only [exts]
  cases hb : enoughD n d l <;> simp [hb]
theorem pD_less {n size : Int} {d l : List Int} (h : (l.length : Int) < size) : pD n d size l = pP n d size l n.toNat := by
  unfold pP pD
  obtain ⟨k, hk⟩ : ∃ k, size.toNat - l.length = k + 1 := ⟨size.toNat - l.length - 1, by omega⟩
  rw [hk]
  simp only [exts]
  rw [filter_flatMap]
  have e : ∀ p : Nat, size.toNat - (l ++ [(p : Int)]).length = k := fun p => by rw [List.length_append, List.length_singleton]; omega
  have : (fun x : Nat => (exts n.toNat k (l ++ [(x : Int)])).filter (enoughD n d)) = fun p : Nat => (exts n.toNat (size.toNat - (l ++ [(p : Int)]).length) (l ++ [(p : Int)])).filter (enoughD n d) := by
    funext p; rw [e]
  rw [this]
theorem pP_succ (n : Int) (d : List Int) (size : Int) (l : List Int) (i : Nat) : pP n d size l (i + 1) = pP n d size l i ++ pD n d size (l ++ [(i : Int)]) := by
  unfold pP
  rw [List.range_succ, List.flatMap_append]
  simp
theorem pP_mono (n : Int) (d : List Int) (size : Int) (l : List Int) {i j : Nat} (h : i ≤ j) : (pP n d size l i).length ≤ (pP n d size l j).length := by
  induction j with
  | zero => rw [show i = 0 by omega]; exact Nat.le_refl _
  | succ j ih =>
    rcases Nat.lt_or_ge i (j + 1) with hlt | hge
    · have := ih (by omega)
      rw [pP_succ, List.length_append]; omega
    · rw [show i = j + 1 by omega]; exact Nat.le_refl _
theorem pD_mem {n size : Int} {d l x : List Int} (h : x ∈ pD n d size l) : x.length = l.length + (size.toNat - l.length) := by
  unfold pD at h
  rw [List.mem_filter] at h
  exact exts_len h.1
theorem pP_mem {n size : Int} {d l x : List Int} {i : Nat} (hl : (l.length : Int) < size) (h : x ∈ pP n d size l i) : 0 < x.length := by
  unfold pP at h
  rw [List.mem_flatMap] at h
  obtain ⟨p, _, h⟩ := h
  have := pD_mem h
  rw [List.length_append, List.length_singleton] at this
  omega
theorem pD_count {n size : Int} {d l : List Int} (hn : n ≤ 9) (hs : size ≤ 9) : (pD n d size l).length ≤ 387420489 := by
  unfold pD
  have h1 := List.length_filter_le (enoughD n d) (exts n.toNat (size.toNat - l.length) l)
  have h2 := exts_count (n := n.toNat) (by omega) (size.toNat - l.length) l
  have h3 : 9 ^ (size.toNat - l.length) ≤ 9 ^ 9 := Nat.pow_le_pow_right (by omega) (by omega)
  omega
structure PG (n size many : Int) (d l : List Int) : Prop where
  n1 : 1 ≤ n
  n9 : n ≤ 9
  s1 : 1 ≤ size
  s9 : size ≤ 9
  le : (l.length : Int) ≤ size
  inn : inN n l = true
  len : d.length = 81
  m0 : 0 ≤ many
  mx : many + (pD n d size l).length ≤ 1000000000000
theorem putG_iff {n size many : Int} {d l : List Int} : putG n size many d l = true ↔ PG n size many d l := by
  unfold putG
  simp only [Bool.and_eq_true, decide_eq_true_eq]
  exact ⟨fun ⟨⟨⟨⟨⟨⟨⟨⟨a, b⟩, c⟩, d⟩, e⟩, f⟩, g⟩, h⟩, i⟩ => ⟨a, b, c, d, e, f, g, h, i⟩, fun ⟨a, b, c, d, e, f, g, h, i⟩ => ⟨⟨⟨⟨⟨⟨⟨⟨a, b⟩, c⟩, d⟩, e⟩, f⟩, g⟩, h⟩, i⟩⟩
theorem inN_9 {n : Int} {l : List Int} (hn : n ≤ 9) (h : inN n l = true) : in9 l = true := by
  unfold inN at h
  unfold in9
  rw [List.all_eq_true] at h ⊢
  intro x hx
  have := h x hx
  simp only [Bool.and_eq_true, decide_eq_true_eq] at this ⊢
  omega
theorem putG_next {n size many : Int} {d l : List Int} (h : PG n size many d l) (hl : (l.length : Int) < size) {i : Nat} (hi : i < n.toNat) : putG n size (many + (pP n d size l i).length) d (l ++ [(i : Int)]) = true := by
  have e1 := pP_mono n d size l (i := i + 1) (j := n.toNat) (by omega)
  rw [pP_succ, List.length_append] at e1
  have e2 := pD_less (n := n) (d := d) hl
  have mx := h.mx
  rw [e2] at mx
  refine putG_iff.2 ⟨h.n1, h.n9, h.s1, h.s9, by rw [List.length_append, List.length_singleton]; omega, ?_, h.len, by have := h.m0; omega, by omega⟩
  have hin := h.inn
  unfold inN at hin ⊢
  rw [List.all_append, hin]
  simp
  omega
end Brn
namespace Go.Ev.Burn
open Go Go.Ev
set_option maxRecDepth 1000000
set_option linter.unusedVariables false
set_option linter.unusedSimpArgs false
theorem P0_ok : TabOK P0 := by
  have h := E2_ok.addCall (g := 51) (r := c51) fun a H v H' hv => by refine CallOK.tab ?_ ?_ (c51_run a H v H' hv) <;> rfl
  exact ⟨fun f a H v H' hv => by refine CallOK.tab ?_ ?_ (h.calls f a H v H' hv) <;> rfl, fun f l b k H o k' H' hv => by refine LoopOK.tab ?_ ?_ ?_ ?_ (h.loops f l b k H o k' H' hv) <;> rfl, h.fns, h.mixed⟩
def fC (L : List (List Int)) : Row := match L with
  | [] => kN
  | x :: _ => kS x
theorem takeL (l : List Int) : List.take ((l.length : Int)).toNat l = l := by rw [toNat_cast, List.take_length]
theorem l89_6n_run (d : Nat) (hT : TabOK (P1 d)) : ∀ base kv H o kv' H', (l89_6n d base kv H).val = some (o, kv', H') → LoopOK (P1 d) 89 6 base kv H o kv' H' := l89_6n_ok d hT (by kernel_rfl) (by
  intro l ds size n many q r hv
  obtain ⟨hl, hv2⟩ := guard_val hv
  simp only [Bool.and_eq_true, decide_eq_true_eq] at hl
  obtain ⟨⟨⟨hG, hlt⟩, hd⟩, rfl⟩ := hl
  have G := Brn.putG_iff.1 hG
  have n1 := G.n1
  have n9 := G.n9
  have s9 := G.s9
  have m0 := G.m0
  obtain ⟨m, hm⟩ : ∃ m : Nat, q = (m : Int) := ⟨q.toNat, by omega⟩
  have hmm := steps_of (T := P1 d) (fid := 89) (lid := 6) (base := 6) (c := lpc (P1 d) 89 6) m (fun i => [lI l, ps 5, vi m, vi (i : Nat)])
    (fun i => [some (kI size), some (kI m), some (rD ds), some (kI (many + (Brn.pP m ds size l i).length)), some (fC (Brn.pP m ds size l i)), some kF])
    (.ext 0, [lI l, ps 5, vi m, vi m], [some (kI size), some (kI m), some (rD ds), some (kI (many + (Brn.pP m ds size l m).length)), some (fC (Brn.pP m ds size l m)), some kF])
    (fun i hi again => by
      subst hm
      have hn := Brn.putG_next G hlt (i := i) (by omega)
      have e1 : size - ((l ++ [(i : Int)]).length : Int) < (d : Int) := by rw [List.length_append, List.length_singleton]; omega
      have hr : room (l.length + 1) 8 = true := room_ok (by omega) (by omega)
      rw [Brn.pP_succ]
      cases hL : Brn.pP (m : Int) ds size l i with
      | nil =>
        rw [hL] at hn
        simp only [List.length_nil, Int.ofNat_zero, Int.add_zero] at hn
        have e := nl89n d again l ds size m many m (i : Nat)
        rw [takeL] at e
        show lpStep (P1 d) 89 6 6 (lpc (P1 d) 89 6) again [lI l, ps 5, vi m, vi (i : Nat)] [some (kI size), some (kI m), some (rD ds), some (kI (many + ((0 : Nat) : Int))), some kN, some kF] = _
        rw [show many + ((0 : Nat) : Int) = many by omega, e]
        simp only [dec_lt hi, cond_true, decide_eq_true (show (l.length : Int) ≤ l.length by omega), decide_true, hr, hn, decide_eq_true e1, Bool.and_self, List.nil_append]
        rw [wrap_succ (by omega)]
        cases hp : Brn.pD (m : Int) ds size (l ++ [(i : Int)]) with
        | nil => simp only [List.isEmpty_nil, cond_true, List.length_nil, Int.ofNat_zero, Int.add_zero]; rfl
        | cons x t => simp only [List.isEmpty_cons, cond_false]; rfl
      | cons x t =>
        have hx : 0 < x.length := Brn.pP_mem hlt (by rw [hL]; simp)
        rw [hL] at hn
        have e := nl89s d again l x ds size m (many + ((x :: t).length : Int)) m (i : Nat)
        rw [takeL] at e
        show lpStep (P1 d) 89 6 6 (lpc (P1 d) 89 6) again [lI l, ps 5, vi m, vi (i : Nat)] [some (kI size), some (kI m), some (rD ds), some (kI (many + ((x :: t).length : Int))), some (kS x), some kF] = _
        rw [e]
        simp only [dec_lt hi, cond_true, decide_eq_true (show (l.length : Int) ≤ l.length by omega), decide_true, hr, hn, decide_eq_true e1, decide_eq_true hx, Bool.and_self]
        rw [wrap_succ (by omega), show many + ((x :: t).length : Int) + ((Brn.pD (m : Int) ds size (l ++ [(i : Int)])).length : Int) = many + (((x :: t) ++ Brn.pD (m : Int) ds size (l ++ [(i : Int)])).length : Int) by rw [List.length_append]; omega]
        rfl)
    (fun again => by
      cases hL : Brn.pP (m : Int) ds size l m with
      | nil =>
        have e := nl89n d again l ds size m (many + ((0 : Nat) : Int)) m (m : Nat)
        refine e.trans ?_
        simp only [dec_ll, cond_false]
        rfl
      | cons x t =>
        have e := nl89s d again l x ds size m (many + ((x :: t).length : Int)) m (m : Nat)
        refine e.trans ?_
        simp only [dec_ll, cond_false]
        rfl)
  have z : Brn.pP (m : Int) ds size l 0 = [] := rfl
  obtain ⟨mm, hmm⟩ := hmm
  rw [z] at hmm
  have hD := Brn.pD_less (n := q) (d := ds) hlt
  rw [show q.toNat = m by omega] at hD
  refine ⟨mm, ?_⟩
  rw [hD, hm] at hv2
  rw [hm]
  have e0 : many + (([] : List (List Int)).length : Int) = many := by simp
  rw [e0] at hmm
  refine hmm.trans ?_
  rcases br_val hv2 with ⟨h, hv⟩ | ⟨h, hv⟩
  · have h := List.isEmpty_iff.1 h
    rw [leaf_val hv, h]
    simp only [List.length_nil, Int.ofNat_zero, Int.add_zero]
    rfl
  · rw [leaf_val hv]
    cases hL : Brn.pP (m : Int) ds size l m with
    | nil => rw [hL] at h; cases h
    | cons x t => rfl)
theorem l89_6s_run (d : Nat) (hT : TabOK (P1 d)) : ∀ base kv H o kv' H', (l89_6s d base kv H).val = some (o, kv', H') → LoopOK (P1 d) 89 6 base kv H o kv' H' := l89_6s_ok d hT (by kernel_rfl) (by
  intro l f ds size n many q r hv
  obtain ⟨hl, hv2⟩ := guard_val hv
  simp only [Bool.and_eq_true, decide_eq_true_eq] at hl
  obtain ⟨⟨⟨⟨hG, hlt⟩, hd⟩, rfl⟩, hf⟩ := hl
  have G := Brn.putG_iff.1 hG
  have n1 := G.n1
  have n9 := G.n9
  have s9 := G.s9
  have m0 := G.m0
  obtain ⟨m, hm⟩ : ∃ m : Nat, q = (m : Int) := ⟨q.toNat, by omega⟩
  have hD := Brn.pD_less (n := q) (d := ds) hlt
  rw [show q.toNat = m by omega] at hD
  rw [leaf_val hv2, hD]
  subst hm
  have hmm := steps_of (T := P1 d) (fid := 89) (lid := 6) (base := 6) (c := lpc (P1 d) 89 6) m (fun i => [lI l, ps 5, vi m, vi (i : Nat)])
    (fun i => [some (kI size), some (kI m), some (rD ds), some (kI (many + (Brn.pP m ds size l i).length)), some (kS f), some kF])
    (.ext 0, [lI l, ps 5, vi m, vi m], [some (kI size), some (kI m), some (rD ds), some (kI (many + (Brn.pP m ds size l m).length)), some (kS f), some kF])
    (fun i hi again => by
      have hn := Brn.putG_next G hlt (i := i) (by omega)
      have e1 : size - ((l ++ [(i : Int)]).length : Int) < (d : Int) := by rw [List.length_append, List.length_singleton]; omega
      have hr : room (l.length + 1) 8 = true := room_ok (by omega) (by omega)
      have e := nl89s d again l f ds size m (many + ((Brn.pP (m : Int) ds size l i).length : Int)) m (i : Nat)
      rw [takeL] at e
      rw [e]
      simp only [dec_lt hi, cond_true, decide_eq_true (show (l.length : Int) ≤ l.length by omega), decide_true, hr, hn, decide_eq_true e1, decide_eq_true hf, Bool.and_self]
      rw [wrap_succ (by omega), Brn.pP_succ, show many + ((Brn.pP (m : Int) ds size l i).length : Int) + ((Brn.pD (m : Int) ds size (l ++ [(i : Int)])).length : Int) = many + ((Brn.pP (m : Int) ds size l i ++ Brn.pD (m : Int) ds size (l ++ [(i : Int)])).length : Int) by rw [List.length_append]; omega])
    (fun again => by
      rw [nl89s]
      simp only [dec_ll, cond_false])
  obtain ⟨mm, hmm⟩ := hmm
  have e0 : many + ((Brn.pP (m : Int) ds size l 0).length : Int) = many := by
    have : Brn.pP (m : Int) ds size l 0 = [] := rfl
    rw [this]; simp
  rw [e0] at hmm
  exact ⟨mm, hmm⟩)
theorem l89_6_run (d : Nat) (hT : TabOK (P1 d)) : ∀ base kv H o kv' H', (l89_6 d base kv H).val = some (o, kv', H') → LoopOK (P1 d) 89 6 base kv H o kv' H' := by
  intro base kv H o kv' H' hv
  unfold l89_6 at hv
  split at hv
  · split at hv
    · exact l89_6n_run d hT _ _ _ _ _ _ hv
    · exact l89_6s_run d hT _ _ _ _ _ _ hv
  · cases hv
theorem c89n_run (d : Nat) (hT : TabOK (P2 d)) : ∀ args H v H', (c89n (d + 1) args H).val = some (v, H') → CallOK (P2 d) 89 args H v H' := c89n_ok (d + 1) hT (by
  intro l ds size n many r hv
  obtain ⟨hl, hv2⟩ := guard_val hv
  rw [Bool.and_eq_true] at hl
  obtain ⟨hG, hd⟩ := hl
  have hd := of_decide_eq_true hd
  have G := Brn.putG_iff.1 hG
  have mx := G.mx
  have m0 := G.m0
  have le := G.le
  have s9 := G.s9
  rw [nf89n]
  by_cases hc : (l.length : Int) = size
  · have hp := Brn.pD_full (n := n) (d := ds) hc
    have hsm : sm l = true := sm_of (k := 9) (by omega) (by omega)
    rw [hc, beq_self_eq_true]
    simp only [cond_true, hsm, Brn.inN_9 G.n9 G.inn, decide_eq_true G.len, decide_eq_true G.n1, decide_eq_true G.n9, Bool.and_self]
    rw [hp] at hv2 mx
    cases he : Brn.enoughD n ds l with
    | true =>
      rw [he] at hv2 mx
      simp only [cond_true, List.length_singleton] at mx
      rw [leaf_val hv2, wrapi (by omega) (by omega)]
      rfl
    | false =>
      rw [he] at hv2
      rw [leaf_val hv2]
      rfl
  · have hne : ((l.length : Int) == size) = false := beq_eq_false_iff_ne.2 hc
    rw [hne]
    simp only [cond_false, hG, decide_eq_true (show (l.length : Int) < size by omega), decide_eq_true (show size - (l.length : Int) ≤ (d : Int) by omega), decide_true, Bool.and_self, cond_true]
    rcases br_val hv2 with ⟨h, hv⟩ | ⟨h, hv⟩ <;> (rw [h, leaf_val hv]; rfl))
theorem c89s_run (d : Nat) (hT : TabOK (P2 d)) : ∀ args H v H', (c89s (d + 1) args H).val = some (v, H') → CallOK (P2 d) 89 args H v H' := c89s_ok (d + 1) hT (by
  intro l f ds size n many r hv
  obtain ⟨hl, hv2⟩ := guard_val hv
  rw [Bool.and_eq_true, Bool.and_eq_true] at hl
  obtain ⟨⟨hG, hd⟩, hf⟩ := hl
  have hd := of_decide_eq_true hd
  have G := Brn.putG_iff.1 hG
  have mx := G.mx
  have m0 := G.m0
  have le := G.le
  have s9 := G.s9
  rw [nf89s, leaf_val hv2]
  by_cases hc : (l.length : Int) = size
  · have hp := Brn.pD_full (n := n) (d := ds) hc
    have hsm : sm l = true := sm_of (k := 9) (by omega) (by omega)
    rw [hc, beq_self_eq_true]
    simp only [cond_true, hsm, Brn.inN_9 G.n9 G.inn, decide_eq_true G.len, decide_eq_true G.n1, decide_eq_true G.n9, Bool.and_self]
    rw [hp] at mx ⊢
    cases he : Brn.enoughD n ds l with
    | true =>
      rw [he] at mx
      simp only [cond_true, List.length_singleton] at mx
      rw [wrapi (by omega) (by omega)]
      simp only [cond_true, hf, List.length_singleton]
      rfl
    | false =>
      simp only [cond_false, List.length_nil, Int.ofNat_zero, Int.add_zero]
  · have hne : ((l.length : Int) == size) = false := beq_eq_false_iff_ne.2 hc
    rw [hne]
    simp only [cond_false, hG, hf, decide_eq_true (show (l.length : Int) < size by omega), decide_eq_true (show size - (l.length : Int) ≤ (d : Int) by omega), decide_true, Bool.and_self, cond_true])
theorem c89_split {d : Nat} {args : List AV} {H : Hp} {r : AV × Hp} (h : (c89 d args H).val = some r) : (c89n d args H).val = some r ∨ (c89s d args H).val = some r := by
  unfold c89 at h
  split at h
  · split at h
    · exact .inl h
    · exact .inr h
  · cases h
theorem c89n_zero {T : Tab} (hT : TabOK T) : ∀ args H v H', (c89n 0 args H).val = some (v, H') → CallOK T 89 args H v H' := c89n_ok 0 hT (by
  intro l ds size n many r hv
  obtain ⟨hl, hv2⟩ := guard_val hv
  rw [Bool.and_eq_true] at hl
  have := of_decide_eq_true hl.2
  have := (Brn.putG_iff.1 hl.1).le
  omega)
theorem c89s_zero {T : Tab} (hT : TabOK T) : ∀ args H v H', (c89s 0 args H).val = some (v, H') → CallOK T 89 args H v H' := c89s_ok 0 hT (by
  intro l f ds size n many r hv
  obtain ⟨hl, hv2⟩ := guard_val hv
  rw [Bool.and_eq_true, Bool.and_eq_true] at hl
  have := of_decide_eq_true hl.1.2
  have := (Brn.putG_iff.1 hl.1.1).le
  omega)
theorem P1_ok : ∀ d, TabOK (P1 d)
  | 0 => P0_ok.addCall fun a H v H' hv => by
    rcases c89_split hv with h | h
    · exact c89n_zero P0_ok a H v H' h
    · exact c89s_zero P0_ok a H v H' h
  | d + 1 => by
    have h0 := P1_ok d
    have h1 : TabOK (P2 d) := h0.addLoop fun b k H o k' H' hv => by refine LoopOK.tab ?_ ?_ ?_ ?_ (l89_6_run d h0 b k H o k' H' hv) <;> rfl
    exact P0_ok.addCall fun a H v H' hv => by
      rcases c89_split hv with h | h
      · refine CallOK.tab ?_ ?_ (c89n_run d h1 a H v H' h) <;> rfl
      · refine CallOK.tab ?_ ?_ (c89s_run d h1 a H v H' h) <;> rfl
end Go.Ev.Burn
namespace Brn
open Go
set_option linter.unusedVariables false
theorem solD_pD (n : Int) (ds : List Int) (s : Nat) : pD n ds (s : Int) [] = solD n ds s := by
  unfold pD solD
  rw [Int.toNat_natCast]; rfl
theorem kD_at {n : Int} {ds : List Int} (h : kD n ds < 9) : solD n ds (kD n ds + 1) ≠ [] := by
  unfold kD at *
  have hlt : (List.range 9).findIdx (fun (k : Nat) => !(solD n ds (k + 1)).isEmpty) < (List.range 9).length := by rw [List.length_range]; exact h
  have := List.findIdx_getElem (w := hlt)
  simp only [List.getElem_range] at this
  exact isEmpty_f.1 this
theorem kD_before {n : Int} {ds : List Int} {j : Nat} (h : j < kD n ds) : solD n ds (j + 1) = [] := by
  unfold kD at h
  have := List.not_of_lt_findIdx (xs := List.range 9) (p := fun (k : Nat) => !(solD n ds (k + 1)).isEmpty) (i := j) h
  simp only [List.getElem_range] at this
  simpa using this
end Brn
namespace Go.Ev.Burn
open Go Go.Ev
set_option maxRecDepth 1000000
set_option linter.unusedVariables false
set_option linter.unusedSimpArgs false
theorem l53_2_run : ∀ base kv H o kv' H', (l53_2 base kv H).val = some (o, kv', H') → LoopOK (P1 10) 53 2 base kv H o kv' H' := l53_2_ok (P1_ok 10) (by kernel_rfl) (by
  intro n ds r hv
  obtain ⟨hl, hv2⟩ := guard_val hv
  simp only [Bool.and_eq_true, decide_eq_true_eq] at hl
  obtain ⟨⟨⟨h1, h9⟩, hd⟩, hk⟩ := hl
  rw [leaf_val hv2]
  have hG : ∀ s : Nat, 1 ≤ s → s ≤ 9 → Brn.putG n (s : Int) 0 ds [] = true := fun s a b => Brn.putG_iff.2 ⟨h1, h9, by omega, by omega, by simp, rfl, hd, by omega, by
    have := Brn.pD_count (n := n) (size := (s : Int)) (d := ds) (l := []) h9 (by omega)
    omega⟩
  have main : ∀ (k s : Nat), 1 ≤ s → s + k = Brn.kD n ds + 1 → ∃ m, lpRun (P1 10) 53 2 0 (lpc (P1 10) 53 2) m [ps 0, ps 1, osW 2 0, vi 0, ps 3] [some (kI n), some (rD ds), some (rowI [] 0), some (kI s)] = some (.ret, [ps 0, ps 1, lI (Brn.headL (Brn.solD n ds (Brn.kD n ds + 1))), vi (Brn.solD n ds (Brn.kD n ds + 1)).length, ps 2], [some (kI n), some (rD ds), some (kI ((Brn.kD n ds + 1 : Nat) : Int))]) := by
    intro k
    induction k with
    | zero =>
      intro s hs he
      obtain rfl : s = Brn.kD n ds + 1 := by omega
      refine ⟨1, ?_⟩
      show lpStep (P1 10) 53 2 0 (lpc (P1 10) 53 2) _ _ _ = _
      have hne := Brn.kD_at hk
      have hb : (Brn.solD n ds (Brn.kD n ds + 1)).isEmpty = false := by
        cases hx : Brn.solD n ds (Brn.kD n ds + 1) with
        | nil => exact absurd hx hne
        | cons x t => rfl
      have hlen : 0 < (Brn.solD n ds (Brn.kD n ds + 1)).length := List.length_pos_iff.2 hne
      rw [nl53, Brn.solD_pD]
      simp only [decide_eq_true (show ((Brn.kD n ds + 1 : Nat) : Int) ≤ 9 by omega), hG _ hs (by omega), decide_eq_true (show ((Brn.kD n ds + 1 : Nat) : Int) - ((0 : Nat) : Int) < ((10 : Nat) : Int) by omega), decide_eq_true (show ((Brn.kD n ds + 1 : Nat) : Int) - 0 < 10 by omega), hb, Int.zero_add, decide_eq_true (show ((Brn.solD n ds (Brn.kD n ds + 1)).length : Int) > 0 by omega), Bool.and_self, cond_true, cond_false]
    | succ k ih =>
      intro s hs he
      obtain ⟨m, hm⟩ := ih (s + 1) (by omega) (by omega)
      refine ⟨m + 1, ?_⟩
      show lpStep (P1 10) 53 2 0 (lpc (P1 10) 53 2) (lpRun (P1 10) 53 2 0 (lpc (P1 10) 53 2) m) _ _ = _
      have h0 : Brn.solD n ds s = [] := by
        have := Brn.kD_before (n := n) (ds := ds) (j := s - 1) (by omega)
        rwa [show s - 1 + 1 = s by omega] at this
      rw [nl53, Brn.solD_pD, h0]
      simp only [decide_eq_true (show (s : Int) ≤ 9 by omega), hG s hs (by omega), decide_eq_true (show (s : Int) - ((0 : Nat) : Int) < ((10 : Nat) : Int) by omega), decide_eq_true (show (s : Int) - 0 < 10 by omega), List.isEmpty_nil, Bool.and_self, cond_true]
      rw [wrap_succ (by omega), hm]
  obtain ⟨m, hm⟩ := main (Brn.kD n ds) 1 (Nat.le_refl _) (by omega)
  exact ⟨m, hm⟩)
theorem P4_ok : TabOK P4 := (P1_ok 10).addLoop fun b k H o k' H' hv => by refine LoopOK.tab ?_ ?_ ?_ ?_ (l53_2_run b k H o k' H' hv) <;> rfl
theorem c53_run : ∀ args H v H', (c53 args H).val = some (v, H') → CallOK P4 53 args H v H' := c53_ok P4_ok (by
  intro n ds r hv
  obtain ⟨hl, hv2⟩ := guard_val hv
  rw [nf53, hl]
  refine (cond_t ?_).trans ?_
  · refine decide_eq_true ?_
    simp only [Bool.and_eq_true, decide_eq_true_eq] at hl
    show ([ds.length * 1] : List Nat) = _
    rw [hl.1.2]
    kernel_rfl
  · rw [leaf_val hv2]
    rfl)
end Go.Ev.Burn
