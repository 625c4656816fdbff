/- The law RagMissing: tables and normal forms. -/
import Derived.Test.YtajhpbahjindkaaDoorNc
import Derived.Test.YtajhpbahjindkaaDoorRk
import Derived.Test.YtajhpbahjindkaaDoorRf
import Derived.Test.YtajhpbahjindkaaDoorNd
import Derived.Test.YtajhpbahjindkaaDoorRi
set_option linter.unusedVariables false
set_option linter.unusedSimpArgs false
namespace Rgg
open Go
def mwant (s t i : Nat) : Int := bif dif i s == 0 && !t.testBit i then 0 else 14
def mall (K : Int) (l : List ByteArray) (s t q : Nat) : Bool := (List.range q).all fun i => pvE K l (word s) (word i) == mwant s t i
end Rgg
namespace Go.Ev.Rag
open Go Go.Ev
set_option maxRecDepth 1000000
set_option maxHeartbeats 0
set_option linter.unusedVariables false
noncomputable def A1 : Tab := (((((((((T0).addCall 34 c34).addCall 35 c35).addCall 36 c36).addCall 38 c38).addCall 39 c39).addCall 37 c37).addCall 24 c24).addCall 21 c21).addCall 23 c23
noncomputable def A2 : Tab := A1.addCall 16 c16t
theorem nl6_9 (again : Ag) (K s t q i : Int) (l : List ByteArray) (ty : TypeId) : lpStep A2 6 9 0 (lpc A2 6 9) again [vb false, vi K, osW 0 l.length, vi s, vU t, vi q, vi i] [some (rowS l ty)] = (bif decide (i < q) then bif IntKind.i64.wrap (↑(BitVec.ofInt 64 i &&& ~~~BitVec.ofInt 64 s).toNat : Int) == 0 then bif decide (0 ≤ i) then bif IntKind.u32.wrap (↑(BitVec.ofInt 32 (t.fdiv (2 ^ Min.min i.toNat 32)) &&& BitVec.ofInt 32 1).toNat : Int) == 0 then bif decide (0 ≤ s) && decide (s < 32) then bif decide (0 ≤ i) && decide (i < 32) then bif Rgg.pvE K l (Rgg.word s.toNat) (Rgg.word i.toNat) != 0 then some (.ret, [vb false, vi K, osW 0 l.length, vi s, .sc (.int .u32 t), vi q, vi i], [some ⟨[.run .str l], false, ty, false, false, none⟩]) else again [vb false, vi K, osW 0 l.length, vi s, .sc (.int .u32 t), vi q, vi (IntKind.i64.wrap (i + 1))] [some ⟨[.run .str l], false, ty, false, false, none⟩] else none else none else bif decide (0 ≤ s) && decide (s < 32) then bif decide (0 ≤ i) && decide (i < 32) then bif Rgg.pvE K l (Rgg.word s.toNat) (Rgg.word i.toNat) != 14 then some (.ret, [vb false, vi K, osW 0 l.length, vi s, .sc (.int .u32 t), vi q, vi i], [some ⟨[.run .str l], false, ty, false, false, none⟩]) else again [vb false, vi K, osW 0 l.length, vi s, .sc (.int .u32 t), vi q, vi (IntKind.i64.wrap (i + 1))] [some ⟨[.run .str l], false, ty, false, false, none⟩] else none else none else none else bif decide (0 ≤ s) && decide (s < 32) then bif decide (0 ≤ i) && decide (i < 32) then bif Rgg.pvE K l (Rgg.word s.toNat) (Rgg.word i.toNat) != 14 then some (.ret, [vb false, vi K, osW 0 l.length, vi s, .sc (.int .u32 t), vi q, vi i], [some ⟨[.run .str l], false, ty, false, false, none⟩]) else again [vb false, vi K, osW 0 l.length, vi s, .sc (.int .u32 t), vi q, vi (IntKind.i64.wrap (i + 1))] [some ⟨[.run .str l], false, ty, false, false, none⟩] else none else none else some (.ext 0, [vb false, vi K, osW 0 l.length, vi s, .sc (.int .u32 t), vi q, vi i], [some { c := [.run .str l], vr := false, ty := ty, fz := false, loose := false : Row }])) := by kernel_rfl
def l6_9t (K s t q : Int) (l : List ByteArray) (m : Nat) (ty : TypeId) : Tree (Out × List AV × Hp) := .br (decide (m = l.length) && decide (0 ≤ s) && decide (s < 32) && Rgg.in32 t && decide (0 ≤ q) && decide (q ≤ 32) && sm l && Rgg.mall K l s.toNat t.toNat q.toNat) (.leaf (.ext 0, [vb false, vi K, osW 0 l.length, vi s, vU t, vi q, vi q], [some (rowS l ty)])) .fail
def l6_9 (base : Nat) (kv : List AV) (H : Hp) : Tree (Out × List AV × Hp) := match Nat.beq base 0, kv, H with
  | true, [(.sc (.bool false)), (.sc (.int .i64 K)), (.os 0 0 0 m true false true), (.sc (.int .i64 s)), (.sc (.int .u32 t)), (.sc (.int .i64 q)), (.sc (.int .i64 0))], [some ⟨[.run .str l], false, ty, false, false, none⟩] => l6_9t K s t q l m ty
  | _, _, _ => .fail
theorem l6_9_ok {T : Tab} (hT : TabOK T) (hlo : loopOf T.fn 6 9 = some (lpc T 6 9)) (h : ∀ (K s t q : Int) (l : List ByteArray) (m : Nat) (ty : TypeId) (r : Out × List AV × Hp), (l6_9t K s t q l m ty).val = some r → ∃ mm, lpRun T 6 9 0 (lpc T 6 9) mm [vb false, vi K, osW 0 m, vi s, vU t, vi q, vi 0] [some (rowS l ty)] = some r) : ∀ base kv H o kv' H', (l6_9 base kv H).val = some (o, kv', H') → LoopOK T 6 9 base kv H o kv' H' := by
  intro base kv H o kv' H' hv
  unfold l6_9 at hv
  split at hv
  · rename_i hb
    obtain rfl := Nat.eq_of_beq_eq_true hb
    exact loop_ok hT hlo (h _ _ _ _ _ _ _ _ hv)
  · cases hv
noncomputable def A3 : Tab := (A2).addLoop 6 9 l6_9
theorem nf6 (k b o : Int) : evBody A3 6 [pil k b, .sc (.int .u8 o)] [] = (bif decide (0 ≤ k) && decide (k < 256) && Rgg.in32 b && decide (5 = 5) then bif Rgg.in32 (↑(Rgg.pB k b) : Int) then bif decide (0 ≤ Rgg.pK k) then bif !decide (IntKind.i64.wrap (1 * 2 ^ Min.min (Rgg.pK k).toNat 64) = 0) then bif Rgg.in32 (↑(Rgg.pB k b) : Int) && decide (0 ≤ (IntKind.i64.wrap o).tmod (IntKind.i64.wrap (1 * 2 ^ Min.min (Rgg.pK k).toNat 64))) && decide ((IntKind.i64.wrap o).tmod (IntKind.i64.wrap (1 * 2 ^ Min.min (Rgg.pK k).toNat 64)) < 32) then bif decide (0 ≤ (IntKind.i64.wrap o).tmod (IntKind.i64.wrap (1 * 2 ^ Min.min (Rgg.pK k).toNat 64))) && decide ((IntKind.i64.wrap o).tmod (IntKind.i64.wrap (1 * 2 ^ Min.min (Rgg.pK k).toNat 64)) < 32) then bif Rgg.meE (Rgg.pK k) (Rgg.wdL (↑(Rgg.pB k b) : Int).toNat) (Rgg.word ((IntKind.i64.wrap o).tmod (IntKind.i64.wrap (1 * 2 ^ Min.min (Rgg.pK k).toNat 64))).toNat) != 0 then some (vb false, []) else bif Rgg.in32 (↑(Rgg.trN (↑(Rgg.pB k b) : Int).toNat ((IntKind.i64.wrap o).tmod (IntKind.i64.wrap (1 * 2 ^ Min.min (Rgg.pK k).toNat 64))).toNat) : Int) then bif sm (Rgg.tcL (Rgg.pK k) (Rgg.wdL (↑(Rgg.pB k b) : Int).toNat) (Rgg.word ((IntKind.i64.wrap o).tmod (IntKind.i64.wrap (1 * 2 ^ Min.min (Rgg.pK k).toNat 64))).toNat)) && Rgg.tcL (Rgg.pK k) (Rgg.wdL (↑(Rgg.pB k b) : Int).toNat) (Rgg.word ((IntKind.i64.wrap o).tmod (IntKind.i64.wrap (1 * 2 ^ Min.min (Rgg.pK k).toNat 64))).toNat) == Rgg.wdL (↑(Rgg.trN (↑(Rgg.pB k b) : Int).toNat ((IntKind.i64.wrap o).tmod (IntKind.i64.wrap (1 * 2 ^ Min.min (Rgg.pK k).toNat 64))).toNat) : Int).toNat then bif decide (0 ≤ Rgg.pK k) then bif decide ((Rgg.wdL (↑(Rgg.pB k b) : Int).toNat).length = (Rgg.wdL (↑(Rgg.pB k b) : Int).toNat).length) && decide (0 ≤ (IntKind.i64.wrap o).tmod (IntKind.i64.wrap (1 * 2 ^ Min.min (Rgg.pK k).toNat 64))) && decide ((IntKind.i64.wrap o).tmod (IntKind.i64.wrap (1 * 2 ^ Min.min (Rgg.pK k).toNat 64)) < 32) && Rgg.in32 (↑(Rgg.trN (↑(Rgg.pB k b) : Int).toNat ((IntKind.i64.wrap o).tmod (IntKind.i64.wrap (1 * 2 ^ Min.min (Rgg.pK k).toNat 64))).toNat) : Int) && decide (0 ≤ IntKind.i64.wrap (1 * 2 ^ Min.min (Rgg.pK k).toNat 64)) && decide (IntKind.i64.wrap (1 * 2 ^ Min.min (Rgg.pK k).toNat 64) ≤ 32) && sm (Rgg.wdL (↑(Rgg.pB k b) : Int).toNat) && Rgg.mall (Rgg.pK k) (Rgg.wdL (↑(Rgg.pB k b) : Int).toNat) ((IntKind.i64.wrap o).tmod (IntKind.i64.wrap (1 * 2 ^ Min.min (Rgg.pK k).toNat 64))).toNat (↑(Rgg.trN (↑(Rgg.pB k b) : Int).toNat ((IntKind.i64.wrap o).tmod (IntKind.i64.wrap (1 * 2 ^ Min.min (Rgg.pK k).toNat 64))).toNat) : Int).toNat (IntKind.i64.wrap (1 * 2 ^ Min.min (Rgg.pK k).toNat 64)).toNat then bif decide (0 ≤ (IntKind.i64.wrap o).tmod (IntKind.i64.wrap (1 * 2 ^ Min.min (Rgg.pK k).toNat 64))) && decide ((IntKind.i64.wrap o).tmod (IntKind.i64.wrap (1 * 2 ^ Min.min (Rgg.pK k).toNat 64)) < 32) then bif decide (0 ≤ (IntKind.i64.wrap o).tmod (IntKind.i64.wrap (1 * 2 ^ Min.min (Rgg.pK k).toNat 64))) && decide ((IntKind.i64.wrap o).tmod (IntKind.i64.wrap (1 * 2 ^ Min.min (Rgg.pK k).toNat 64)) < 32) then bif Rgg.in32 (IntKind.u32.wrap (↑(BitVec.ofInt 32 (↑(Rgg.paN ((IntKind.i64.wrap o).tmod (IntKind.i64.wrap (1 * 2 ^ Min.min (Rgg.pK k).toNat 64))).toNat) : Int) &&& ~~~BitVec.ofInt 32 (↑(Rgg.trN (↑(Rgg.pB k b) : Int).toNat ((IntKind.i64.wrap o).tmod (IntKind.i64.wrap (1 * 2 ^ Min.min (Rgg.pK k).toNat 64))).toNat) : Int)).toNat : Int)) then bif (↑(Rgg.wdL (IntKind.u32.wrap (↑(BitVec.ofInt 32 (↑(Rgg.paN ((IntKind.i64.wrap o).tmod (IntKind.i64.wrap (1 * 2 ^ Min.min (Rgg.pK k).toNat 64))).toNat) : Int) &&& ~~~BitVec.ofInt 32 (↑(Rgg.trN (↑(Rgg.pB k b) : Int).toNat ((IntKind.i64.wrap o).tmod (IntKind.i64.wrap (1 * 2 ^ Min.min (Rgg.pK k).toNat 64))).toNat) : Int)).toNat : Int)).toNat).length : Int) == 0 then bif Rgg.msE (Rgg.pK k) (Rgg.wdL (↑(Rgg.pB k b) : Int).toNat) (Rgg.word ((IntKind.i64.wrap o).tmod (IntKind.i64.wrap (1 * 2 ^ Min.min (Rgg.pK k).toNat 64))).toNat) == 13 then bif Rgg.msS (Rgg.pK k) (Rgg.wdL (↑(Rgg.pB k b) : Int).toNat) (Rgg.word ((IntKind.i64.wrap o).tmod (IntKind.i64.wrap (1 * 2 ^ Min.min (Rgg.pK k).toNat 64))).toNat) == { data := #[] : ByteArray } then some (vb true, []) else some (vb false, []) else some (vb false, []) else bif Rgg.msE (Rgg.pK k) (Rgg.wdL (↑(Rgg.pB k b) : Int).toNat) (Rgg.word ((IntKind.i64.wrap o).tmod (IntKind.i64.wrap (1 * 2 ^ Min.min (Rgg.pK k).toNat 64))).toNat) == 0 then bif decide (0 < (↑(Rgg.wdL (IntKind.u32.wrap (↑(BitVec.ofInt 32 (↑(Rgg.paN ((IntKind.i64.wrap o).tmod (IntKind.i64.wrap (1 * 2 ^ Min.min (Rgg.pK k).toNat 64))).toNat) : Int) &&& ~~~BitVec.ofInt 32 (↑(Rgg.trN (↑(Rgg.pB k b) : Int).toNat ((IntKind.i64.wrap o).tmod (IntKind.i64.wrap (1 * 2 ^ Min.min (Rgg.pK k).toNat 64))).toNat) : Int)).toNat : Int)).toNat).length : Int)) then oM (Rgg.wdL (IntKind.u32.wrap (↑(BitVec.ofInt 32 (↑(Rgg.paN ((IntKind.i64.wrap o).tmod (IntKind.i64.wrap (1 * 2 ^ Min.min (Rgg.pK k).toNat 64))).toNat) : Int) &&& ~~~BitVec.ofInt 32 (↑(Rgg.trN (↑(Rgg.pB k b) : Int).toNat ((IntKind.i64.wrap o).tmod (IntKind.i64.wrap (1 * 2 ^ Min.min (Rgg.pK k).toNat 64))).toNat) : Int)).toNat : Int)).toNat)[0]? fun x => bif Rgg.msS (Rgg.pK k) (Rgg.wdL (↑(Rgg.pB k b) : Int).toNat) (Rgg.word ((IntKind.i64.wrap o).tmod (IntKind.i64.wrap (1 * 2 ^ Min.min (Rgg.pK k).toNat 64))).toNat) == x then some (vb true, []) else some (vb false, []) else none else some (vb false, []) else none else none else none else none else none else none else none else none else none else none else none else none else none) := by kernel_rfl
end Go.Ev.Rag
namespace Rgg
open Go Go.Proofs
theorem pv_num {K : Int} {n s i : Nat} (h : Pl K n) (hs : s < 2 ^ K.toNat) (hi : i < 2 ^ K.toNat) : pvE K (wdL n) (word s) (word i) = mwant s (trN n s) i := by
  have h2 := h.two
  unfold pvE mwant
  rw [h.me hs, beq_self_eq_true, cond_true, rd_num h.k1 h.k5 hs, rd_num h.k1 h.k5 hi, h.opF, tr_bit (show i < 32 by omega)]
  show (bif (0 : Int) == 0 then (bif dif i s != 0 || at_ (tr (fB n) s) i then 14 else 0) else 0) = _
  rw [beq_self_eq_true, cond_true, bne]
  cases dif i s == 0 <;> cases at_ (tr (fB n) s) i <;> rfl
theorem mall_num {K : Int} {n s : Nat} (h : Pl K n) (hs : s < 2 ^ K.toNat) : mall K (wdL n) s (trN n s) (2 ^ K.toNat) = true := by
  unfold mall
  rw [List.all_eq_true]
  intro i hi
  rw [pv_num h hs (List.mem_range.1 hi), beq_self_eq_true]
def gnN (n s : Nat) : Nat := mk (fun i => (paN s).testBit i && !(trN n s).testBit i) 32
theorem gone32 (a b : Nat) (ha : a < 4294967296) (hb : b < 4294967296) : IntKind.u32.wrap ((BitVec.ofInt 32 (a : Int) &&& ~~~BitVec.ofInt 32 (b : Int)).toNat : Int) = ((mk (fun i => a.testBit i && !b.testBit i) 32 : Nat) : Int) := by
  have e : (BitVec.ofInt 32 (a : Int) &&& ~~~BitVec.ofInt 32 (b : Int)).toNat = mk (fun i => a.testBit i && !b.testBit i) 32 := by
    apply Nat.eq_of_testBit_eq
    intro i
    rw [testBit_mk, BitVec.toNat_and, Nat.testBit_and, of32 a ha, BitVec.toNat_not, of32 b hb]
    rw [show (2 : Nat) ^ 32 - 1 - b = 2 ^ 32 - (b + 1) by omega, Nat.testBit_two_pow_sub_succ (show b < 2 ^ 32 from hb)]
    cases a.testBit i <;> cases b.testBit i <;> simp
  rw [e]
  have hl : mk (fun i => a.testBit i && !b.testBit i) 32 < 4294967296 := mk_lt _ 32
  exact wrap_n32 hl
theorem gn_num {K : Int} {n s : Nat} (h : Pl K n) (hs : s < 2 ^ K.toNat) : wdL (gnN n s) = msL K (wdL n) (word s) := by
  have h2 := h.two
  have h5 := h.k5
  unfold msL
  rw [rd_num h.k1 h.k5 hs, h.opF]
  refine (wrt_wd h.k1 h.k5 fun i hi => ?_).symm
  show _ = (decide (i < 2 ^ K.toNat) && (sub i s && !at_ (tr (fB n) s) i))
  unfold gnN
  rw [testBit_mk, decide_eq_true hi, Bool.true_and, pa_bit (by omega) hi, tr_bit hi]
  cases hb : sub i s with
  | false => rw [Bool.false_and, Bool.and_false]
  | true => rw [decide_eq_true (sub_le K.toNat (by omega) s hs i hi hb)]; simp only [Bool.true_and]
theorem wd_len (n : Nat) : (wdL n).length ≤ 32 := by
  have : (wdL n).length = (upTo (fun i => n.testBit i) 32).length := Ev.srtS_len _
  rw [this]
  unfold upTo
  rw [List.length_map]
  exact Nat.le_trans (List.length_filter_le _ _) (by rw [List.length_range]; exact Nat.le_refl _)
theorem set_num {K o : Int} (h1 : 1 ≤ K) (h5 : K ≤ 5) (o0 : 0 ≤ o) (o1 : o < 256) : ∃ s : Nat, s < 2 ^ K.toNat ∧ (IntKind.i64.wrap o).tmod (IntKind.i64.wrap (1 * 2 ^ Min.min K.toNat 64)) = (s : Int) := by
  obtain ⟨e1, e2⟩ := two_k h1 h5
  have hp := Nat.two_pow_pos K.toNat
  refine ⟨o.toNat % 2 ^ K.toNat, Nat.mod_lt _ hp, ?_⟩
  rw [e1, Ev.wrapi (x := o) (by omega) (by omega), Int.tmod_eq_emod_of_nonneg o0, Int.natCast_emod]
  rw [show ((o.toNat : Nat) : Int) = o by omega]
end Rgg
namespace Go.Ev.Rag
open Go Go.Ev Go.Proofs
set_option maxRecDepth 1000000
set_option linter.unusedVariables false
set_option linter.unusedSimpArgs false
theorem A1_ok : TabOK A1 := by
  have h := T0_ok
  have h := h.addCall (g := 34) (r := c34) fun a H v H' hv => by refine CallOK.tab ?_ ?_ (c34_run a H v H' hv) <;> rfl
  have h := h.addCall (g := 35) (r := c35) fun a H v H' hv => by refine CallOK.tab ?_ ?_ (c35_run a H v H' hv) <;> rfl
  have h := h.addCall (g := 36) (r := c36) fun a H v H' hv => by refine CallOK.tab ?_ ?_ (c36_run a H v H' hv) <;> rfl
  have h := h.addCall (g := 38) (r := c38) fun a H v H' hv => by refine CallOK.tab ?_ ?_ (c38_run a H v H' hv) <;> rfl
  have h := h.addCall (g := 39) (r := c39) fun a H v H' hv => by refine CallOK.tab ?_ ?_ (c39_run a H v H' hv) <;> rfl
  have h := h.addCall (g := 37) (r := c37) fun a H v H' hv => by refine CallOK.tab ?_ ?_ (c37_run a H v H' hv) <;> rfl
  have h := h.addCall (g := 24) (r := c24) fun a H v H' hv => by refine CallOK.tab ?_ ?_ (c24_run a H v H' hv) <;> rfl
  have h := h.addCall (g := 21) (r := c21) fun a H v H' hv => by refine CallOK.tab ?_ ?_ (c21_run a H v H' hv) <;> rfl
  have h := h.addCall (g := 23) (r := c23) fun a H v H' hv => by refine CallOK.tab ?_ ?_ (c23_run a H v H' hv) <;> rfl
  exact h
theorem A2_ok : TabOK A2 := A1_ok.addCall (g := 16) (r := c16t) fun a H v H' hv => by refine CallOK.tab ?_ ?_ (c16t_run a H v H' hv) <;> rfl
theorem l6_9_run : ∀ base kv H o kv' H', (l6_9 base kv H).val = some (o, kv', H') → LoopOK A2 6 9 base kv H o kv' H' := l6_9_ok A2_ok (by kernel_rfl) (by
  intro K s t q l m ty r hv
  obtain ⟨hl, hv2⟩ := guard_val hv
  simp only [Bool.and_eq_true, decide_eq_true_eq] at hl
  obtain ⟨⟨⟨⟨⟨⟨⟨rfl, s0⟩, s32⟩, ht⟩, q0⟩, q32⟩, hsm⟩, hall⟩ := hl
  obtain ⟨t, rfl, ht'⟩ := Rgg.in32_nat ht
  obtain ⟨s, rfl⟩ := Int.eq_ofNat_of_zero_le s0
  obtain ⟨q, rfl⟩ := Int.eq_ofNat_of_zero_le q0
  rw [toNat_cast, toNat_cast, toNat_cast] at hall
  unfold Rgg.mall at hall
  rw [List.all_eq_true] at hall
  obtain ⟨mm, hm⟩ := steps_of (T := A2) (fid := 6) (lid := 9) (base := 0) (c := lpc A2 6 9) q (fun i => [vb false, vi K, osW 0 l.length, vi s, vU t, vi q, vi (i : Nat)]) (fun i => [some (rowS l ty)])
    (.ext 0, [vb false, vi K, osW 0 l.length, vi s, vU t, vi q, vi q], [some (rowS l ty)])
    (fun i hi again => by
      have hw := eq_of_beq (hall i (List.mem_range.2 hi))
      refine (nl6_9 ..).trans ?_
      rw [toNat_cast, toNat_cast, hw, Rgg.dif64 i (by omega) s (by omega), Rgg.bit32 ht' (by omega), wrap_succ (by omega)]
      have e1 : (((i &&& (31 ^^^ s) : Nat) : Int) == 0) = (Rgg.dif i s == 0) := by
        show _ = ((i &&& (31 ^^^ s)) == 0)
        rw [Bool.eq_iff_iff, beq_iff_eq, beq_iff_eq]; omega
      rw [e1]
      unfold Rgg.mwant
      simp only [dec_lt hi, dec_ge, decide_eq_true (show (i : Int) < 32 by omega), decide_eq_true (show (s : Int) < 32 by omega), Bool.and_self, cond_true]
      cases Rgg.dif i s == 0 <;> cases t.testBit i <;> rfl)
    (fun again => by
      refine (nl6_9 ..).trans ?_
      simp only [dec_ll, cond_false])
  exact ⟨mm, hm.trans (by rw [leaf_val hv2])⟩)
theorem A3_ok : TabOK A3 := A2_ok.addLoop (g := 6) (lid := 9) (r := l6_9) fun b k H o k' H' hv => by refine LoopOK.tab ?_ ?_ ?_ ?_ (l6_9_run b k H o k' H' hv) <;> rfl
theorem missing_true (k b o : Int) (hk0 : 0 ≤ k) (hk1 : k < 256) (hb : Rgg.in32 b = true) (o0 : 0 ≤ o) (o1 : o < 256) : evBody A3 6 [pil k b, .sc (.int .u8 o)] [] = some (vb true, []) := by
  refine (nf6 ..).trans ?_
  have hP := Rgg.pl_of k b
  generalize Rgg.pK k = K at *
  generalize Rgg.pB k b = n at *
  obtain ⟨s, hs, e⟩ := Rgg.set_num hP.k1 hP.k5 o0 o1
  obtain ⟨e1, e2⟩ := Rgg.two_k hP.k1 hP.k5
  have s32 : s < 32 := by omega
  rw [e, e1]
  simp only [toNat_cast]
  have ht := Rgg.trN_lt n s
  have hp : Rgg.paN s < 4294967296 := Rgg.trN_lt _ s
  rw [Rgg.gone32 _ _ hp ht, toNat_cast, show Rgg.mk (fun i => (Rgg.paN s).testBit i && !(Rgg.trN n s).testBit i) 32 = Rgg.gnN n s from rfl, Rgg.gn_num hP hs, Rgg.tc_num hP hs, hP.me hs, Rgg.in32_of (show Rgg.gnN n s < 4294967296 from Rgg.mk_lt _ 32), Rgg.in32_of ht, Rgg.in32_of hP.n32, hb, Rgg.mall_num hP hs]
  unfold Rgg.msE Rgg.msS
  rw [hP.me hs]
  have hz : (decide (((2 ^ K.toNat : Nat) : Int) = 0)) = false := decide_eq_false (by have := Nat.two_pow_pos K.toNat; omega)
  rw [hz, decide_eq_true hk0, decide_eq_true hk1, decide_eq_true (show 0 ≤ K by have := hP.k1; omega), show sm (Rgg.wdL (Rgg.trN n s)) = true from decide_eq_true (by have := Rgg.wd_len (Rgg.trN n s); omega), show sm (Rgg.wdL n) = true from decide_eq_true (by have := Rgg.wd_len n; omega)]
  simp only [dec_ge, decide_eq_true (show (s : Int) < 32 by omega), decide_eq_true (show ((2 ^ K.toNat : Nat) : Int) ≤ 32 by omega), beq_self_eq_true, Bool.and_self, cond_true, cond_false, Bool.not_false, decide_true, bne_self_eq_false]
  cases Rgg.msL K (Rgg.wdL n) (Rgg.word s) with
  | nil => rfl
  | cons x l =>
    simp only [List.length_cons, List.isEmpty_cons, cond_false, List.headD_cons]
    rw [show ((((l.length + 1 : Nat) : Int)) == 0) = false from beq_false_of_ne (by omega), decide_eq_true (show (0 : Int) < ((l.length + 1 : Nat) : Int) by omega)]
    simp [oM]
theorem missing_body (k b : Int) (r : (0 ≤ k ∧ k < 256) ∧ Rgg.in32 b = true) (o : Int) (ro : 0 ≤ o ∧ o < 256) : evBody A3 6 [pil k b, .sc (.int .u8 o)] [] = some (vb true, []) := missing_true k b o r.1.1 r.1.2 r.2 ro.1 ro.2
end Go.Ev.Rag
