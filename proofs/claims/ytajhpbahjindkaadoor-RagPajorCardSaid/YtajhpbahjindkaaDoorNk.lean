/- RagPajor: the law's body answers true. -/
import Derived.Test.YtajhpbahjindkaaDoorNi
import Derived.Test.YtajhpbahjindkaaDoorNj
import Derived.Test.YtajhpbahjindkaaDoorRk
import Derived.Test.YtajhpbahjindkaaDoorRi
set_option linter.unusedVariables false
set_option linter.unusedSimpArgs false
namespace Rgg
open Go
theorem wd_cn (n : Nat) : (wdL n).length = cntB (fB n) := by
  have : (wdL n).length = (upTo (fun i => n.testBit i) 32).length := Ev.srtS_len _
  rw [this]
  unfold upTo cntB
  rw [List.length_map]
  exact congrArg List.length (List.filter_congr fun i hi => (at_fB (List.mem_range.1 hi)).symm)
theorem ap_form {K : Int} {n : Nat} (h : Pl K n) : apL K (wdL n) = ((ordS K.toNat).filter fun s => shB (fB n) s).map word ∧ (apL K (wdL n)).length = ((List.range (2 ^ K.toNat)).filter fun s => shB (fB n) s).length := by
  have h5 := h.k5
  have e : apL K (wdL n) = wrt K fun s => (miss K (fB n) s).isEmpty := by
    unfold apL
    rw [h.opE, beq_self_eq_true, cond_true, h.opF]
  rw [e, len_ord h.k1 h.k5, srt_upTo h.k1 h.k5]
  constructor
  · congr 1
    exact List.filter_congr fun s hs => sh_miss h.k1 h.k5 (ord_bnd K.toNat (by omega) s hs)
  · exact congrArg List.length (List.filter_congr fun s hs => sh_miss h.k1 h.k5 (List.mem_range.1 hs))
theorem cu_form {K : Int} {n : Nat} (h : Pl K n) : cuL K (wdL n) = ((ordS K.toNat).filter fun s => cu2 n (2 ^ K.toNat) s (2 ^ K.toNat)).map word ∧ (cuL K (wdL n)).length = ((List.range (2 ^ K.toNat)).filter fun s => cu2 n (2 ^ K.toNat) s (2 ^ K.toNat)).length := by
  have h5 := h.k5
  have e : cuL K (wdL n) = wrt K fun s => !(miss K (otF (fB n) (2 ^ K.toNat)) (dif (2 ^ K.toNat - 1) s)).isEmpty := by
    unfold cuL
    rw [h.opE, beq_self_eq_true, cond_true, h.opF]
  have hh : ∀ s, s < 2 ^ K.toNat → (!(miss K (otF (fB n) (2 ^ K.toNat)) (dif (2 ^ K.toNat - 1) s)).isEmpty) = cu2 n (2 ^ K.toNat) s (2 ^ K.toNat) := fun s hs => by
    rw [sh_miss h.k1 h.k5 (full_bnd K.toNat (by omega) s hs), cu_iff (by omega) hs]
  rw [e, len_ord h.k1 h.k5, srt_upTo h.k1 h.k5]
  constructor
  · congr 1
    exact List.filter_congr fun s hs => hh s (ord_bnd K.toNat (by omega) s hs)
  · exact congrArg List.length (List.filter_congr fun s hs => hh s (List.mem_range.1 hs))
theorem bags_ap {K : Int} {n : Nat} (h : Pl K n) : (wdL n).length ≤ (apL K (wdL n)).length := by
  have h5 := h.k5
  rw [wd_cn, (ap_form h).2]
  refine Nat.le_trans (pajor (q := K.toNat) (by omega) h.topF) ?_
  rw [← rs32 K.toNat (by omega), List.filter_filter]
  exact filt_le fun s _ hh => by rw [Bool.and_comm]; exact hh
theorem cu_bags {K : Int} {n : Nat} (h : Pl K n) : (cuL K (wdL n)).length ≤ (wdL n).length := by
  have h5 := h.k5
  rw [wd_cn, (cu_form h).2]
  exact cubes_le (by omega) h.topF
theorem cu_in {K : Int} {n : Nat} (h : Pl K n) : ((cuL K (wdL n)).all fun s => (apL K (wdL n)).any fun x => s == x) = true := by
  have h5 := h.k5
  rw [List.all_eq_true]
  intro x hx
  rw [(cu_form h).1] at hx
  obtain ⟨s, hs, rfl⟩ := List.mem_map.1 hx
  obtain ⟨s1, s2⟩ := List.mem_filter.1 hs
  rw [List.any_eq_true]
  refine ⟨word s, ?_, beq_self_eq_true _⟩
  rw [(ap_form h).1]
  exact List.mem_map.2 ⟨s, List.mem_filter.2 ⟨s1, cu_sh (by omega) (ord_bnd K.toNat (by omega) s s1) s2⟩, rfl⟩
theorem ap_le {K : Int} {n : Nat} (h : Pl K n) : (apL K (wdL n)).length ≤ 32 := by
  rw [(ap_form h).2]
  exact Nat.le_trans (List.length_filter_le _ _) (by rw [List.length_range]; exact h.two)
theorem cu_le {K : Int} {n : Nat} (h : Pl K n) : (cuL K (wdL n)).length ≤ 32 := by
  rw [(cu_form h).2]
  exact Nat.le_trans (List.length_filter_le _ _) (by rw [List.length_range]; exact h.two)
end Rgg
namespace Go.Ev.Rag
open Go Go.Ev Go.Proofs
set_option maxRecDepth 1000000
set_option linter.unusedVariables false
set_option linter.unusedSimpArgs false
theorem Na6_ok : TabOK Na6 := by
  have h := T0_ok
  have h := h.addCall (g := 34) (r := c34) fun a H v H' hv => by refine CallOK.tab ?_ ?_ (c34_run a H v H' hv) <;> rfl
  have h := h.addCall (g := 35) (r := c35) fun a H v H' hv => by refine CallOK.tab ?_ ?_ (c35_run a H v H' hv) <;> rfl
  have h := h.addCall (g := 17) (r := c17) fun a H v H' hv => by refine CallOK.tab ?_ ?_ (c17_run a H v H' hv) <;> rfl
  have h := h.addCall (g := 26) (r := c26) fun a H v H' hv => by refine CallOK.tab ?_ ?_ (c26_run a H v H' hv) <;> rfl
  have h := h.addCall (g := 45) (r := c45) fun a H v H' hv => by refine CallOK.tab ?_ ?_ (c45_run a H v H' hv) <;> rfl
  have h := h.addCall (g := 55) (r := c55) fun a H v H' hv => by refine CallOK.tab ?_ ?_ (c55_run a H v H' hv) <;> rfl
  have h := h.addCall (g := 56) (r := c56) fun a H v H' hv => by refine CallOK.tab ?_ ?_ (c56_run a H v H' hv) <;> rfl
  have h := h.addCall (g := 23) (r := c23) fun a H v H' hv => by refine CallOK.tab ?_ ?_ (c23_run a H v H' hv) <;> rfl
  have h := h.addCall (g := 54) (r := c54) fun a H v H' hv => by refine CallOK.tab ?_ ?_ (c54_run a H v H' hv) <;> rfl
  exact h
theorem Na7_ok : TabOK Na7 := Na6_ok.addCall (g := 16) (r := c16t) fun a H v H' hv => by refine CallOK.tab ?_ ?_ (c16t_run a H v H' hv) <;> rfl
theorem l12_8_run : ∀ base kv H o kv' H', (l12_8 base kv H).val = some (o, kv', H') → LoopOK Na7 12 8 base kv H o kv' H' := l12_8_ok Na7_ok (by kernel_rfl) (by
  intro q l a c k1 k2 k3 k4 t1 t2 t3 r hv
  obtain ⟨hl, hv2⟩ := guard_val hv
  simp only [Bool.and_eq_true, decide_eq_true_eq] at hl
  obtain ⟨⟨⟨⟨⟨⟨⟨rfl, rfl⟩, rfl⟩, rfl⟩, rfl⟩, hsa⟩, hsc⟩, hall⟩ := hl
  have hsc := sm_le hsc
  rw [List.all_eq_true] at hall
  obtain ⟨mm, hm⟩ := steps_of (T := Na7) (fid := 12) (lid := 8) (base := 0) (c := lpc Na7 12 8) c.length (fun i => [vb false, osW 0 l.length, osW 1 a.length, osW 2 c.length, osW 2 c.length, vi c.length, vi (i : Nat)]) (fun _ => [some (rowS l t1), some (rowS a t2), some (rowS c t3)])
    (.ext 0, [vb false, osW 0 l.length, osW 1 a.length, osW 2 c.length, osW 2 c.length, vi c.length, vi c.length], [some (rowS l t1), some (rowS a t2), some (rowS c t3)])
    (fun i hi again => by
      have hx := List.getElem?_eq_getElem hi
      generalize c[i] = x at hx
      have hin := hall x (List.mem_of_getElem? hx)
      refine (nl12_8 ..).trans ?_
      rw [wrap_succ (by omega)]
      simp only [dec_lt hi, dec_ge, cond_true, toNat_cast, hx, oM, hsa, hin, Bool.not_true, cond_false])
    (fun again => by
      refine (nl12_8 ..).trans ?_
      simp only [dec_ll, cond_false])
  exact ⟨mm, hm.trans (by rw [leaf_val hv2])⟩)
theorem Na8_ok : TabOK Na8 := Na7_ok.addLoop (g := 12) (lid := 8) (r := l12_8) fun b k H o k' H' hv => by refine LoopOK.tab ?_ ?_ ?_ ?_ (l12_8_run b k H o k' H' hv) <;> rfl
theorem pajor_body (k b : Int) (r : (0 ≤ k ∧ k < 256) ∧ Rgg.in32 b = true) : evBody Na8 12 [pil k b] [] = some (vb true, []) := by
  refine (nf12 ..).trans ?_
  have hP := Rgg.pl_of k b
  generalize Rgg.pK k = K at *
  generalize Rgg.pB k b = n at *
  have k1 := hP.k1
  have k5 := hP.k5
  have a1 := Rgg.ap_le hP
  have a2 := Rgg.cu_le hP
  have b1 := Rgg.bags_ap hP
  have b2 := Rgg.cu_bags hP
  have b3 := Rgg.cu_in hP
  rw [toNat_cast, r.2, decide_eq_true r.1.1, decide_eq_true r.1.2, Rgg.in32_of hP.n32, toNat_cast, toNat_cast, hP.opE, Rgg.in32_of (Rgg.apQ_lt _ n), Rgg.in32_of (cuN_lt _ n), ← Rgg.ap_num hP, ← Rgg.cu_num hP, b3]
  rw [show sm (Rgg.apL K (Rgg.wdL n)) = true from decide_eq_true (by omega), show sm (Rgg.cuL K (Rgg.wdL n)) = true from decide_eq_true (by omega)]
  simp only [decide_eq_true k1, decide_eq_true k5, beq_self_eq_true, bne_self_eq_false, Bool.and_self, cond_true, cond_false, decide_true, decide_eq_true (show (((Rgg.cuL K (Rgg.wdL n)).length : Nat) : Int) ≤ (((Rgg.wdL n).length : Nat) : Int) by omega), decide_eq_true (show (((Rgg.wdL n).length : Nat) : Int) ≤ (((Rgg.apL K (Rgg.wdL n)).length : Nat) : Int) by omega)]
end Go.Ev.Rag
