/- BurnBalls: the loops, walked. -/
import Derived.Test.YtpieoljeikpemaaDoorOg
import Derived.Test.YtpieoljeikpemaaDoorOf
import Derived.Test.YtpieoljeikpemaaDoorOe
import Derived.Test.YtpieoljeikpemaaDoorSf
set_option linter.unusedVariables false
set_option linter.unusedSimpArgs false
namespace Go.Ev.Burn
open Go Go.Ev
set_option maxRecDepth 1000000
set_option linter.unusedVariables false
set_option linter.unusedSimpArgs false
theorem B0_ok : TabOK B0 := by
  have h := S15_ok
  have h := h.addCall (g := 52) (r := c52) fun a H v H' hv => by refine CallOK.tab ?_ ?_ (c52_run a H v H' hv) <;> rfl
  have h := h.addCall (g := 51) (r := c51) fun a H v H' hv => by refine CallOK.tab ?_ ?_ (c51_run a H v H' hv) <;> rfl
  exact nest_ok h
theorem foldl_snoc {α β : Type} (g : α → β) : ∀ (l : List α) (s : List β), l.foldl (fun s x => s ++ [g x]) s = s ++ l.map g
  | [], s => by simp
  | x :: l, s => by rw [List.foldl_cons, foldl_snoc g l]; simp
theorem l8_5_run : ∀ base kv H o kv' H', (l8_5 base kv H).val = some (o, kv', H') → LoopOK B0 8 5 base kv H o kv' H' := l8_5_ok B0_ok (by kernel_rfl) (by
  intro n n3 m k q d y ws r hv
  obtain ⟨hl, hv2⟩ := guard_val hv
  simp only [Bool.and_eq_true, decide_eq_true_eq] at hl
  obtain ⟨⟨⟨⟨⟨⟨⟨⟨rfl, rfl⟩, k9⟩, k0⟩, hy⟩, uy⟩, n1⟩, n9⟩, rfl⟩ := hl
  have htl : (y.take k).length = k := by rw [List.length_take]; omega
  obtain ⟨mm, hm⟩ := fold_of (T := B0) (fid := 8) (lid := 5) (base := 0) (c := lpc B0 8 5) (y.take k) (fun i s => s.length = i) (fun (s : List Int) x => s ++ [x.tmod n3])
    (fun i s => [ps 0, ps 1, vi n3, osW 2 s.length, osY k, vi k, vi i]) (fun s => [some (rHo n3 4 ws.length), some (rD d), some (rI s), some (rY y), some (rW ws 66)])
    (fun s => (.ext 0, [ps 0, ps 1, vi n3, osW 2 s.length, osY k, vi k, vi k], [some (rHo n3 4 ws.length), some (rD d), some (rI s), some (rY y), some (rW ws 66)]))
    (fun i x s hx hlt hI again => by
      rw [htl] at hlt
      have hx2 : y[i]? = some x := by rw [List.getElem?_take_of_lt hlt] at hx; exact hx
      have ux := u8_get uy (List.mem_of_getElem? hx2)
      have hr : room (s.length + 1) 8 = true := room_ok (by omega) (by omega)
      rw [nl8_5]
      simp only [dec_lt hlt, dec_ge, cond_true, toNat_cast, hx2, oM, decide_eq_false (show ¬ n3 = 0 by omega), Bool.not_false, hr]
      rw [wrapi (x := x) (by omega) (by omega), wrap_succ (by omega)]
      simp only [rI, tyI_snoc, List.length_append, List.length_cons, List.length_nil, Nat.zero_add])
    (fun i x s hx hlt hI => by simp [hI])
    (fun s hI again => by
      rw [nl8_5, htl]
      simp only [dec_ll, cond_false]) [] rfl
  refine ⟨mm, hm.trans ?_⟩
  rw [leaf_val hv2, foldl_snoc, List.nil_append]
  rfl)
theorem l8_5v_run (F : List Int) : ∀ base kv H o kv' H', (l8_5v F base kv H).val = some (o, kv', H') → LoopOK B0 8 5 base kv H o kv' H' := by
  intro base kv H o kv' H' hv
  unfold l8_5v at hv
  split at hv
  · rename_i hb
    obtain ⟨hl, hv2⟩ := guard_val hv
    obtain rfl := of_decide_eq_true hl
    obtain rfl := Nat.eq_of_beq_eq_true hb
    exact l8_5_run _ _ _ _ _ _ hv2
  · cases hv
theorem l8_20_run : ∀ base kv H o kv' H', (l8_20 base kv H).val = some (o, kv', H') → LoopOK B0 8 20 base kv H o kv' H' := l8_20_ok B0_ok (by kernel_rfl) (by
  intro n n3 i p p2 q j2 n2 m c k1 k2 k3 k4 d fs wt l ws ty tl tw zl r hv
  obtain ⟨hl, hv2⟩ := guard_val hv
  simp only [Bool.and_eq_true, decide_eq_true_eq] at hl
  obtain ⟨⟨⟨⟨⟨⟨⟨⟨⟨⟨⟨rfl, rfl⟩, rfl⟩, hc⟩, h9⟩, hw⟩, hd⟩, hin⟩, p0⟩, p9⟩, i0⟩, i9⟩ := hl
  have hin := in9_get hin
  obtain ⟨p, rfl⟩ := Int.eq_ofNat_of_zero_le p0
  have hr : room (wt.length + 1) 8 = true := room_ok (by omega) (by omega)
  have step : ∀ (j : Nat) (again : Ag), j < c → lpStep B0 8 20 0 (lpc B0 8 20) again [ps 0, ps 1, vi n, osW 2 k1, osW 3 k2, vi i, osW 4 wt.length, vi p, vi q, vi j2, vi n2, vi p2, .os 2 0 0 c false false true, vi c, vi (j : Nat)] [some (rHo n3 5 k4), some (rD d), some (rF fs ty), some (rJ l tl zl), some (rowI wt (tyI wt)), some (rWz ws 66 true)] =
      bif Brn.wQ d fs i p j then some (.ext 6, [ps 0, ps 1, vi n, osW 2 k1, osW 3 k2, vi i, osW 4 (wt ++ [(p : Int)]).length, vi p, vi q, vi j2, vi n2, vi p2, .os 2 0 0 c false false true, vi c, vi (j : Nat)], [some (rHo n3 5 k4), some (rD d), some (rF fs ty), some (rJ l tl zl), some (rI (wt ++ [(p : Int)])), some (rWz ws 66 true)])
      else again [ps 0, ps 1, vi n, osW 2 k1, osW 3 k2, vi i, osW 4 wt.length, vi p, vi q, vi j2, vi n2, vi p2, .os 2 0 0 c false false true, vi c, vi ((j + 1 : Nat) : Int)] [some (rHo n3 5 k4), some (rD d), some (rF fs ty), some (rJ l tl zl), some (rI wt), some (rWz ws 66 true)] := fun j again hj => by
    obtain ⟨x, hx, hxm⟩ : ∃ x, fs[j]? = some x ∧ x ∈ fs := ⟨fs[j], List.getElem?_eq_getElem (by omega), List.getElem_mem (by omega)⟩
    obtain ⟨x0, x9⟩ := hin x hxm
    obtain ⟨x, rfl⟩ := Int.eq_ofNat_of_zero_le x0
    have hgd : fs.getD j 0 = (x : Int) := by rw [List.getD_eq_getElem?_getD, hx]; rfl
    have hat : d[x + p * 9]? = some (Brn.at9 d p x) := by
      unfold Brn.at9
      rw [List.getD_eq_getElem?_getD, List.getElem?_eq_getElem (by omega)]; rfl
    rw [nl8_20]
    unfold Brn.wQ
    simp only [dec_lt hj, dec_ge, cond_true, toNat_cast, hx, oM, hgd, hat, decide_eq_true (show (p : Int) < ((9 : Nat) : Int) by omega), decide_eq_true (show (x : Int) < ((9 : Nat) : Int) by omega), decide_eq_true (show (p : Int) < 9 by omega), decide_eq_true (show (x : Int) < 9 by omega), hr]
    rw [wrapi (x := i - j) (by omega) (by omega), wrap_succ (by omega)]
    simp only [rI, tyI_snoc, List.length_append, List.length_cons, List.length_nil, Nat.zero_add]
  have last : ∀ again : Ag, lpStep B0 8 20 0 (lpc B0 8 20) again [ps 0, ps 1, vi n, osW 2 k1, osW 3 k2, vi i, osW 4 wt.length, vi p, vi q, vi j2, vi n2, vi p2, .os 2 0 0 c false false true, vi c, vi c] [some (rHo n3 5 k4), some (rD d), some (rF fs ty), some (rJ l tl zl), some (rowI wt (tyI wt)), some (rWz ws 66 true)] =
      some (.ext 6, [ps 0, ps 1, vi n, osW 2 k1, osW 3 k2, vi i, osW 4 wt.length, vi p, vi q, vi j2, vi n2, vi p2, .os 2 0 0 c false false true, vi c, vi c], [some (rHo n3 5 k4), some (rD d), some (rF fs ty), some (rJ l tl zl), some (rI wt), some (rWz ws 66 true)]) := fun again => by
    rw [nl8_20]
    simp only [dec_ll, cond_false]
  have main : ∀ (r j : Nat), j + r = c → ∃ m, lpRun B0 8 20 0 (lpc B0 8 20) m [ps 0, ps 1, vi n, osW 2 k1, osW 3 k2, vi i, osW 4 wt.length, vi p, vi q, vi j2, vi n2, vi p2, .os 2 0 0 c false false true, vi c, vi (j : Nat)] [some (rHo n3 5 k4), some (rD d), some (rF fs ty), some (rJ l tl zl), some (rowI wt (tyI wt)), some (rWz ws 66 true)] =
      some (.ext 6, [ps 0, ps 1, vi n, osW 2 k1, osW 3 k2, vi i, osW 4 (bif (List.range' j r).any (Brn.wQ d fs i p) then wt ++ [(p : Int)] else wt).length, vi p, vi q, vi j2, vi n2, vi p2, .os 2 0 0 c false false true, vi c, vi ((j + (List.range' j r).findIdx (Brn.wQ d fs i p) : Nat) : Int)], [some (rHo n3 5 k4), some (rD d), some (rF fs ty), some (rJ l tl zl), some (rI (bif (List.range' j r).any (Brn.wQ d fs i p) then wt ++ [(p : Int)] else wt)), some (rWz ws 66 true)]) := by
    intro r
    induction r with
    | zero =>
      intro j hk
      obtain rfl : j = c := by omega
      exact ⟨1, last _⟩
    | succ r ih =>
      intro j hk
      obtain ⟨m, hm⟩ := ih (j + 1) (by omega)
      refine ⟨m + 1, ?_⟩
      show lpStep B0 8 20 0 (lpc B0 8 20) (lpRun B0 8 20 0 (lpc B0 8 20) m) _ _ = _
      rw [step j _ (by omega), List.range'_succ, List.any_cons, List.findIdx_cons]
      cases he : Brn.wQ d fs i p j with
      | true => rfl
      | false =>
        simp only [cond_false, Bool.false_or]
        refine hm.trans ?_
        rw [show j + 1 + (List.range' (j + 1) r).findIdx (Brn.wQ d fs i p) = j + ((List.range' (j + 1) r).findIdx (Brn.wQ d fs i p) + 1) by omega]
  obtain ⟨m, hm⟩ := main c 0 (by omega)
  rw [← List.range_eq_range'] at hm
  refine ⟨m, hm.trans ?_⟩
  rw [leaf_val hv2, Nat.zero_add]
  rfl)
theorem B1_ok : TabOK B1 := B0_ok.addLoop fun b k H o k' H' hv => by refine LoopOK.tab ?_ ?_ ?_ ?_ (l8_20_run b k H o k' H' hv) <;> rfl
end Go.Ev.Burn
namespace Go.Ev.Burn
open Go Go.Ev
set_option maxRecDepth 1000000
set_option linter.unusedVariables false
set_option linter.unusedSimpArgs false
theorem l8_17_run : ∀ base kv H o kv' H', (l8_17 base kv H).val = some (o, kv', H') → LoopOK B1 8 17 base kv H o kv' H' := l8_17_ok B1_ok (by kernel_rfl) (by
  intro n n3 i q j2 n2 k1 k2 k4 d fs l ws ty tl zl r hv
  obtain ⟨hl, hv2⟩ := guard_val hv
  simp only [Bool.and_eq_true, decide_eq_true_eq] at hl
  obtain ⟨⟨⟨⟨⟨⟨⟨⟨rfl, rfl⟩, h9⟩, hd⟩, hin⟩, n1⟩, n9⟩, i0⟩, i9⟩ := hl
  have hlen := Brn.irange_len n2
  obtain ⟨i, rfl⟩ := Int.eq_ofNat_of_zero_le i0
  rw [toNat_cast] at hv2
  have hw1 : IntKind.i64.wrap ((i : Int) + 1) = ((i + 1 : Nat) : Int) := by rw [wrapi (by omega) (by omega)]; omega
  obtain ⟨mm, hm⟩ := fold_of (T := B1) (fid := 8) (lid := 17) (base := 0) (c := lpc B1 8 17) (Brn.irange n2) (fun i s => s.length ≤ i) (fun (s : List Int) p => bif (List.range (i + 1)).any (Brn.wQ d fs i p) then s ++ [p] else s)
    (fun j s => [ps 0, ps 1, vi n2, osW 2 fs.length, osW 3 k2, vi i, osW 4 s.length, vi q, vi j2, vi n2, vi j]) (fun s => [some (rHo n3 5 k4), some (rD d), some (rF fs ty), some (rJ l tl zl), some (rI s), some (rWz ws 66 true)])
    (fun s => (.ext 4, [ps 0, ps 1, vi n2, osW 2 fs.length, osW 3 k2, vi i, osW 4 s.length, vi q, vi j2, vi n2, vi n2], [some (rHo n3 5 k4), some (rD d), some (rF fs ty), some (rJ l tl zl), some (rI s), some (rWz ws 66 true)]))
    (fun j x s hx hlt hI again => by
      have hxi := Brn.irange_get hx
      subst hxi
      have hj : (j : Int) < n2 := by omega
      rw [nl8_17]
      simp only [decide_eq_true hj, cond_true, hw1, toNat_cast, dec_ge, decide_eq_true (show ((i + 1 : Nat) : Int) ≤ (fs.length : Int) by omega), decide_eq_true (show i + 1 ≤ fs.length by omega), decide_eq_true h9, decide_eq_true (show s.length ≤ 9 by omega), decide_eq_true hd, hin, decide_eq_true (show (j : Int) < 9 by omega), decide_eq_true (show (i : Int) < 9 by omega), decide_true, Bool.and_self]
      rw [wrap_succ (by omega)]
      rfl)
    (fun j x s hx hlt hI => by
      cases h : (List.range (i + 1)).any (Brn.wQ d fs i x)
      · simpa [h] using Nat.le_succ_of_le hI
      · simpa [h] using hI)
    (fun s hI again => by
      rw [nl8_17, hlen]
      have e1 : decide ((n2.toNat : Int) < n2) = false := decide_eq_false (by omega)
      simp only [e1, cond_false]
      rw [show ((n2.toNat : Nat) : Int) = n2 by omega]) [] (Nat.zero_le _)
  refine ⟨mm, hm.trans ?_⟩
  rw [leaf_val hv2, Brn.foldl_filter]
  rfl)
theorem B2_ok : TabOK B2 := B1_ok.addLoop fun b k H o k' H' hv => by refine LoopOK.tab ?_ ?_ ?_ ?_ (l8_17_run b k H o k' H' hv) <;> rfl
theorem wD_len {n : Int} {d fs : List Int} {i : Nat} : (Brn.wD n d fs i).length ≤ n.toNat := by
  rw [← Brn.irange_len n]; exact List.length_filter_le _ _
theorem l8_13_run : ∀ base kv H o kv' H', (l8_13 base kv H).val = some (o, kv', H') → LoopOK B2 8 13 base kv H o kv' H' := l8_13_ok B2_ok (by kernel_rfl) (by
  intro n n3 q d fs k1 k2 k4 l ws ty tl zl r hv
  obtain ⟨hl, hv2⟩ := guard_val hv
  simp only [Bool.and_eq_true, decide_eq_true_eq] at hl
  obtain ⟨⟨⟨⟨⟨⟨⟨⟨⟨rfl, rfl⟩, rfl⟩, hlf⟩, h9⟩, hd⟩, hin⟩, n1⟩, n9⟩, hok⟩ := hl
  rw [List.all_eq_true] at hok
  obtain ⟨mm, hm⟩ := steps_of (T := B2) (fid := 8) (lid := 13) (base := 0) (c := lpc B2 8 13) fs.length (fun i => [.dead, ps 0, ps 1, vi n, osW 2 fs.length, osW 3 l.length, vi fs.length, vi (i : Nat)]) (fun _ => [some (rHo n3 4 k4), some (rD d), some (rF fs ty), some (rJ l tl zl), some (rWz ws 66 true)])
    (.ext 2, [.dead, ps 0, ps 1, vi n, osW 2 fs.length, osW 3 l.length, vi fs.length, vi fs.length], [some (rHo n3 4 k4), some (rD d), some (rF fs ty), some (rJ l tl zl), some (rWz ws 66 true)])
    (fun i hi again => by
      have ho := hok i (List.mem_range.2 hi)
      unfold Brn.dOK at ho
      rw [Bool.and_eq_true, decide_eq_true_eq] at ho
      obtain ⟨hx, ho⟩ := ho
      have hsm : sm (Brn.wD n d fs i) = true := sm_of (k := 9) (by have := wD_len (n := n) (d := d) (fs := fs) (i := i); omega) (by omega)
      rw [nl8_13]
      simp only [dec_lt hi, decide_eq_true (show (i : Int) < (l.length : Int) by omega), dec_ge, cond_true, toNat_cast, hx, oM, hsm, decide_eq_true h9, decide_eq_true hd, hin, decide_eq_true n1, decide_eq_true n9, decide_true, Bool.and_self, Bool.not_true, cond_false]
      rw [wrap_succ (by omega)]
      cases i with
      | zero => rfl
      | succ i =>
        have hx1 : l[i]? = some (Brn.wD n d fs i) := by
          have := hok i (List.mem_range.2 (by omega))
          unfold Brn.dOK at this
          rw [Bool.and_eq_true, decide_eq_true_eq] at this
          exact this.1
        rw [wrapi (x := ((i + 1 : Nat) : Int) - 1) (by omega) (by omega), show ((i + 1 : Nat) : Int) - 1 = (i : Int) by omega]
        simp only [decide_eq_true (show ((i + 1 : Nat) : Int) > 0 by omega), cond_true, dec_ge, decide_eq_true (show (i : Int) < (l.length : Int) by omega), toNat_cast, hx1]
        rw [decide_eq_false (show ¬ i + 1 = 0 by omega), Bool.false_or, Nat.add_sub_cancel] at ho
        by_cases hle : (Brn.wD n d fs (i + 1)).length ≤ (Brn.wD n d fs i).length
        · rw [decide_eq_true hle, Bool.not_true, Bool.false_or] at ho
          rw [decide_eq_true (show ((Brn.wD n d fs (i + 1)).length : Int) ≤ ((Brn.wD n d fs i).length : Int) by omega), cond_true]
          have ho : decide (((Brn.wD n d fs (i + 1)).length : Int) < n) = false := by simpa using ho
          rw [ho]
          rfl
        · rw [decide_eq_false (show ¬ ((Brn.wD n d fs (i + 1)).length : Int) ≤ ((Brn.wD n d fs i).length : Int) by omega)]
          rfl)
    (fun again => by
      rw [nl8_13]
      simp only [dec_ll, cond_false])
  exact ⟨mm, hm.trans (by rw [leaf_val hv2])⟩)
theorem B4_ok (N : Int) (W : Ws) (D F : List Int) : TabOK (B4 N W D F) := by
  have h := B2_ok
  have h := h.addLoop (g := 8) (lid := 13) (r := l8_13) fun b k H o k' H' hv => by refine LoopOK.tab ?_ ?_ ?_ ?_ (l8_13_run b k H o k' H' hv) <;> rfl
  have h := h.addLoop (g := 8) (lid := 5) (r := l8_5v F) fun b k H o k' H' hv => by refine LoopOK.tab ?_ ?_ ?_ ?_ (l8_5v_run F b k H o k' H' hv) <;> rfl
  exact h.addCall (g := 50) (r := c50w N W D) fun a H v H' hv => by refine CallOK.tab ?_ ?_ (c50w_run N W D a H v H' hv) <;> rfl
end Go.Ev.Burn
namespace Brn
open Go
set_option linter.unusedVariables false
variable {n : Int} {ws : W}
theorem burnt_lookup (h : Ok n ws) (hc : chk n ws = 0) {fs : List Int} (hf : ∀ p ∈ fs, 0 ≤ p ∧ p < n) (h0 : 0 < fs.length) (h9 : fs.length ≤ 9) {i : Nat} (hi : i < fs.length) : (burntV n ws fs)[i]? = some (wD n (distN n ws) fs i) := by
  rw [(burnt_val hc hf h0 h9).1, burnt_at h hf hi]
  rfl
theorem wD_fil (h : Ok n ws) {fs : List Int} (hf : ∀ p ∈ fs, 0 ≤ p ∧ p < n) {i : Nat} (hi : i < fs.length) : wD n (distN n ws) fs i = fil n (bSet (adjB ws) n.toNat fs i) := by
  rw [← want_eq h hf hi]
  rfl
theorem days_ok (h : Ok n ws) (hc : chk n ws = 0) {fs : List Int} (hf : ∀ p ∈ fs, 0 ≤ p ∧ p < n) (h0 : 0 < fs.length) (h9 : fs.length ≤ 9) : (List.range fs.length).all (dOK n (distN n ws) fs (burntV n ws fs)) = true := by
  rw [List.all_eq_true]
  intro i hi
  have hi := List.mem_range.1 hi
  unfold dOK
  rw [burnt_lookup h hc hf h0 h9 hi, decide_eq_true rfl, Bool.true_and]
  cases i with
  | zero => rfl
  | succ i =>
    rw [Nat.add_sub_cancel, wD_fil h hf hi, wD_fil h hf (show i < fs.length by omega)]
    rcases grow h hf hi with hg | hg
    · rw [decide_eq_false (show ¬ (fil n (bSet (adjB ws) n.toNat fs (i + 1))).length ≤ (fil n (bSet (adjB ws) n.toNat fs i)).length by omega)]
      simp
    · rw [decide_eq_false (show ¬ ((fil n (bSet (adjB ws) n.toNat fs (i + 1))).length : Int) < n by omega)]
      simp
theorem enough_val (h : Ok n ws) (hc : chk n ws = 0) {fs : List Int} (hf : ∀ p ∈ fs, 0 ≤ p ∧ p < n) (h0 : 0 < fs.length) (h9 : fs.length ≤ 9) : enoughV n ws fs = bif enoughD n (distN n ws) fs then 0 else 14 := by
  unfold enoughV
  rw [laid_ok hc hf h0 h9, enough_enB h hf h0]
  rfl
end Brn
namespace Go.Ev.Burn
open Go Go.Ev
set_option maxRecDepth 1000000
set_option linter.unusedVariables false
set_option linter.unusedSimpArgs false
theorem balls_body {pl x q : Int} {b m y : List Int} {N : Int} {W : Ws} {D F : List Int} (hG : Brn.skG pl x 9 b m N W D = true) (hy : y.length = 9) (uy : Brn.u8s y = true) (q0 : 0 ≤ q) (q1 : q < 256) {k : Nat} (hk : (k : Int) = 1 + q.tmod 9) (hF : F = Brn.firN N y k) :
    evBody (B4 N W D F) 8 [.agg [.sc (.int .u8 pl), .run (.int .u8) b, .run (.int .u8) m, .sc (.int .u8 x)] false, .agg [.run (.int .u8) y] false, (.sc (.int .u8 q))] [] = some (vb true, []) := by
  have M := made_of hG
  have ok := M.ok
  have hlo := ok.lo
  have hhi := ok.hi
  have hc := M.chk
  have hb9 := tmod_bound q0 (show (0 : Int) < 9 by omega)
  have hkk : IntKind.i64.wrap (1 + (IntKind.i64.wrap q).tmod 9) = (k : Int) := by
    rw [wrapi (x := q) (by omega) (by omega), wrapi (by omega) (by omega), hk]
  have hlen : F.length = k := by
    rw [hF]; unfold Brn.firN
    rw [List.length_map, List.length_take]; omega
  have hin : ∀ p ∈ F, 0 ≤ p ∧ p < N := by
    intro p hp
    rw [hF] at hp
    unfold Brn.firN at hp
    obtain ⟨z, hz, rfl⟩ := List.mem_map.1 hp
    have hu := u8_get uy (List.mem_of_mem_take hz)
    exact tmod_bound hu.1 (by omega)
  have hin9 : Brn.in9 F = true := by
    unfold Brn.in9
    rw [List.all_eq_true]
    intro p hp
    have := hin p hp
    rw [decide_eq_true this.1, decide_eq_true (by omega)]; rfl
  have h0 : 0 < F.length := by omega
  have h9 : F.length ≤ 9 := by omega
  have hsm : sm F = true := sm_of (k := 9) h9 (by omega)
  have e1 := Brn.laid_ok hc hin h0 h9
  have e2 := (Brn.burnt_val hc hin h0 h9).2
  have e3 := Brn.days_ok ok hc hin h0 h9
  have e4 := Brn.enough_val ok hc hin h0 h9
  rw [← M.dist] at e3 e4
  have hw1 : IntKind.i64.wrap ((F.length : Int) - 1) = ((F.length - 1 : Nat) : Int) := by rw [wrapi (by omega) (by omega)]; omega
  have hwN : IntKind.i64.wrap (N - 1) = N - 1 := wrapi (by omega) (by omega)
  rw [nf8, cond_t (decide_eq_true (by show [1, b.length * 1, m.length * 1, 1] = _; rw [M.hb, M.hm]; kernel_rfl)), cond_t (decide_eq_true (by show [y.length * 1] = _; rw [hy]; kernel_rfl)), cond_t hG,
    cond_t (decide_eq_true (by show [D.length * 1] = _; rw [M.len]; kernel_rfl)), hkk]
  simp only [toNat_cast, dec_ge, cond_true, decide_eq_true (show (k : Int) ≤ ((9 : Nat) : Int) by omega), decide_eq_true (show (k : Int) ≤ 9 by omega), decide_eq_true (show 9 ≤ y.length by omega), decide_eq_true hF, decide_eq_true (show k ≤ 9 by omega), decide_eq_true (show 0 < k by omega), decide_eq_true hy, uy, decide_eq_true hlo, decide_eq_true hhi, decide_true, Bool.and_self,
    M.sw, hsm, e1, e2, e3, bne_self_eq_false, cond_false, decide_eq_true h9, decide_eq_true M.len, hin9, e4, decide_eq_true h0, hw1]
  cases he : Brn.enoughD N D F with
  | false => rfl
  | true =>
    obtain ⟨z, hz, hzm⟩ : ∃ z, F[F.length - 1]? = some z ∧ z ∈ F := ⟨F[F.length - 1], List.getElem?_eq_getElem (by omega), List.getElem_mem (by omega)⟩
    have hzb := hin z hzm
    have hwz : IntKind.i64.wrap (z + 1) = z + 1 := wrapi (by omega) (by omega)
    have hnb := tmod_bound (show 0 ≤ z + 1 by omega) (show 0 < N by omega)
    have hin2 : ∀ p ∈ F.set (F.length - 1) ((z + 1).tmod N), 0 ≤ p ∧ p < N := fun p hp => by
      rcases List.mem_or_eq_of_mem_set hp with h | h
      · exact hin p h
      · rw [h]; exact hnb
    have hl2 : (F.set (F.length - 1) ((z + 1).tmod N)).length = F.length := List.length_set
    have f1 := Brn.laid_ok hc hin2 (by omega) (by omega)
    have f2 := (Brn.burnt_val hc hin2 (by omega) (by omega)).2
    rw [hl2] at f2
    have f3 := Brn.burnt_lookup ok hc hin2 (by omega) (by omega) (i := F.length - 1) (by omega)
    rw [Brn.wD_fil ok hin2 (by omega)] at f3
    have f4 := Brn.last_out ok hin h0 (by rw [← Brn.enough_enB ok hin h0, ← M.dist]; exact he) ((z + 1).tmod N)
    have hsm2 : sm (F.set (F.length - 1) ((z + 1).tmod N)) = true := sm_of (k := 9) (by omega) (by omega)
    simp only [cond_true, cond_false, decide_eq_true (show ((F.length - 1 : Nat) : Int) < (F.length : Int) by omega), hz, oM, decide_eq_false (show ¬ N = 0 by omega), Bool.not_false, hwz, hsm2, Bool.and_self, f1, f2, f3, bne_self_eq_false, hw1, toNat_cast, dec_ge, hwN]
    rw [decide_eq_false (show ¬ ((Brn.fil N (Brn.bSet (Brn.adjB W) N.toNat (F.set (F.length - 1) ((z + 1).tmod N)) (F.length - 1))).length : Int) < N - 1 by omega)]
    rfl
noncomputable def BBt (s : Brn.Sk) (y : List Int) (q : Int) : Tab := B4 (Brn.skN s 9) (Brn.skW s 9) (Brn.distN (Brn.skN s 9) (Brn.skW s 9)) (Brn.firN (Brn.skN s 9) y (1 + q.tmod 9).toNat)
theorem BBt_ok (s : Brn.Sk) (y : List Int) (q : Int) : TabOK (BBt s y q) := B4_ok _ _ _ _
theorem balls_law (s : Brn.Sk) (r : s.Fit) (y : List Int) (ry : y.length = 9 ∧ ∀ x ∈ y, 0 ≤ x ∧ x < 256) (q : Int) (rq : 0 ≤ q ∧ q < 256) : evBody (BBt s y q) 8 [aS s, .agg [.run (.int .u8) y] false, (.sc (.int .u8 q))] [] = some (vb true, []) := by
  have uy : Brn.u8s y = true := by
    unfold Brn.u8s
    rw [List.all_eq_true]
    intro x hx
    have := ry.2 x hx
    rw [decide_eq_true this.1, decide_eq_true this.2]; rfl
  have hb := tmod_bound rq.1 (show (0 : Int) < 9 by omega)
  exact balls_body (skG_of r (by omega) (by omega)) ry.1 uy rq.1 rq.2 (by omega) rfl
end Go.Ev.Burn
