/- Bags by numbers: tables and normal forms. -/
import Derived.Test.YtajhpbahjindkaaDoorNa
import Derived.Test.YtajhpbahjindkaaDoorRe
import Derived.Test.YtajhpbahjindkaaDoorNb
set_option linter.unusedVariables false
set_option linter.unusedSimpArgs false
namespace Go.Ev.Rag
open Go Go.Ev
set_option maxRecDepth 1000000
set_option maxHeartbeats 0
set_option linter.unusedVariables false
abbrev vU (x : Int) : AV := .sc (.int .u32 x)
abbrev pil (k b : Int) : AV := .agg [.sc (.int .u8 k), .sc (.int .u32 b)] false
def c38t (s : Int) : Tree (AV × Hp) := .br (decide (0 ≤ s) && decide (s < 32)) (.leaf (.sc (.string (Rgg.word s.toNat)), [])) .fail
def c38 (args : List AV) (H : Hp) : Tree (AV × Hp) := match args, H with
  | [(.sc (.int .i64 s))], [] => c38t s
  | _, _ => .fail
theorem c38_ok {T : Tab} (hT : TabOK T) (h : ∀ (s : Int) (r : AV × Hp), (c38t s).val = some r → evBody T 38 [vi s] [] = some r) : ∀ args H v H', (c38 args H).val = some (v, H') → CallOK T 38 args H v H' := by
  intro args H v H' hv
  unfold c38 at hv
  split at hv
  · exact evBody_sound hT (h _ _ hv)
  · cases hv
noncomputable def N0 : Tab := (((T0).addCall 51 c51).addCall 38 c38).addCall 84 c84
theorem nl35 (again : Ag) (n : Int) (out : List ByteArray) (ty : TypeId) : lpStep N0 35 2 0 (lpc N0 35 2) again [vU n, osW 0 out.length] [some (rowS out ty)] = (bif n != 0 then bif decide (0 < n) && decide (n < 4294967296) then bif decide (0 ≤ (↑(Rgg.tzN n.toNat) : Int)) && decide ((↑(Rgg.tzN n.toNat) : Int) < 32) then bif room (out.length + 1) 16 then again [.sc (.int .u32 (IntKind.u32.wrap (↑(BitVec.ofInt 32 n &&& BitVec.ofInt 32 (IntKind.u32.wrap (n - 1))).toNat : Int))), osW 0 (out.length + 1)] [some ⟨[.run .str (out ++ [Rgg.word (↑(Rgg.tzN n.toNat) : Int).toNat])], false, 9, false, false, none⟩] else none else none else none else some (.ext 0, [.sc (.int .u32 n), osW 0 out.length], [some { c := [.run .str out], vr := false, ty := ty, fz := false, loose := false : Row }])) := by kernel_rfl
theorem nl36 (again : Ag) (n s o : Int) : lpStep N0 36 2 0 (lpc N0 36 2) again [vU n, vi s, vU o] [] = (bif n != 0 then bif decide (0 < n) && decide (n < 4294967296) then bif decide (0 ≤ IntKind.i64.wrap (↑(BitVec.ofInt 64 (↑(Rgg.tzN n.toNat) : Int) &&& BitVec.ofInt 64 s).toNat : Int)) then again [.sc (.int .u32 (IntKind.u32.wrap (↑(BitVec.ofInt 32 n &&& BitVec.ofInt 32 (IntKind.u32.wrap (n - 1))).toNat : Int))), vi s, .sc (.int .u32 (IntKind.u32.wrap (↑(BitVec.ofInt 32 o ||| BitVec.ofInt 32 (IntKind.u32.wrap (1 * 2 ^ Min.min (IntKind.i64.wrap (↑(BitVec.ofInt 64 (↑(Rgg.tzN n.toNat) : Int) &&& BitVec.ofInt 64 s).toNat : Int)).toNat 32))).toNat : Int)))] [] else none else none else some (.ext 0, [.sc (.int .u32 n), vi s, .sc (.int .u32 o)], [])) := by kernel_rfl
def l35_2t (n : Int) : Tree (Out × List AV × Hp) := .br (Rgg.in32 n) (.leaf (.ext 0, [vU 0, osW 0 (Rgg.upTo (fun i => n.toNat.testBit i) 32).length], [some (rS (Rgg.upTo (fun i => n.toNat.testBit i) 32))])) .fail
def l35_2 (base : Nat) (kv : List AV) (H : Hp) : Tree (Out × List AV × Hp) := match Nat.beq base 0, kv, H with
  | true, [(.sc (.int .u32 n)), (.os 0 0 0 0 true false true)], [some ⟨[.run .str []], false, 0, false, false, none⟩] => l35_2t n
  | _, _, _ => .fail
theorem l35_2_ok {T : Tab} (hT : TabOK T) (hlo : loopOf T.fn 35 2 = some (lpc T 35 2)) (h : ∀ (n : Int) (r : Out × List AV × Hp), (l35_2t n).val = some r → ∃ mm, lpRun T 35 2 0 (lpc T 35 2) mm [vU n, osW 0 0] [some (rowS [] 0)] = some r) : ∀ base kv H o kv' H', (l35_2 base kv H).val = some (o, kv', H') → LoopOK T 35 2 base kv H o kv' H' := by
  intro base kv H o kv' H' hv
  unfold l35_2 at hv
  split at hv
  · rename_i hb
    obtain rfl := Nat.eq_of_beq_eq_true hb
    exact loop_ok hT hlo (h _ _ hv)
  · cases hv
def l36_2t (n s o : Int) : Tree (Out × List AV × Hp) := .br (Rgg.in32 n && decide (0 ≤ s) && decide (s < 32) && decide (o = 0)) (.leaf (.ext 0, [vU 0, vi s, vU (Rgg.trN n.toNat s.toNat : Nat)], [])) .fail
def l36_2 (base : Nat) (kv : List AV) (H : Hp) : Tree (Out × List AV × Hp) := match Nat.beq base 0, kv, H with
  | true, [(.sc (.int .u32 n)), (.sc (.int .i64 s)), (.sc (.int .u32 o))], [] => l36_2t n s o
  | _, _, _ => .fail
theorem l36_2_ok {T : Tab} (hT : TabOK T) (hlo : loopOf T.fn 36 2 = some (lpc T 36 2)) (h : ∀ (n s o : Int) (r : Out × List AV × Hp), (l36_2t n s o).val = some r → ∃ mm, lpRun T 36 2 0 (lpc T 36 2) mm [vU n, vi s, vU o] [] = some r) : ∀ base kv H o kv' H', (l36_2 base kv H).val = some (o, kv', H') → LoopOK T 36 2 base kv H o kv' H' := by
  intro base kv H o kv' H' hv
  unfold l36_2 at hv
  split at hv
  · rename_i hb
    obtain rfl := Nat.eq_of_beq_eq_true hb
    exact loop_ok hT hlo (h _ _ _ _ hv)
  · cases hv
noncomputable def N1 : Tab := ((N0).addLoop 35 2 l35_2).addLoop 36 2 l36_2
theorem nf35 (n : Int) : evBody N1 35 [vU n] [] = (bif Rgg.in32 n then bif decide ((Rgg.upTo (fun i => n.toNat.testBit i) 32).length = (Rgg.upTo (fun i => n.toNat.testBit i) 32).length) && sm (Rgg.upTo (fun i => n.toNat.testBit i) 32) && decide (Rgg.tyS (Rgg.upTo (fun i => n.toNat.testBit i) 32) = Rgg.tyS (Rgg.upTo (fun i => n.toNat.testBit i) 32)) then some (.os 0 0 0 (Rgg.upTo (fun i => n.toNat.testBit i) 32).length true false true, [some ⟨[.run .str (srtS (Rgg.upTo (fun i => n.toNat.testBit i) 32))], false, Rgg.tyS (srtS (Rgg.upTo (fun i => n.toNat.testBit i) 32)), false, false, none⟩]) else none else none) := by kernel_rfl
theorem nf34 (k b : Int) : evBody N1 34 [pil k b, vi 5] [] = (bif decide (0 ≤ IntKind.i64.wrap (1 + (IntKind.i64.wrap k).tmod 5)) then some (.tuple [vi (IntKind.i64.wrap (1 + (IntKind.i64.wrap k).tmod 5)), .sc (.int .u32 (IntKind.u32.wrap (IntKind.u64.wrap (↑(BitVec.ofInt 64 (IntKind.u64.wrap b) &&& BitVec.ofInt 64 (IntKind.u64.wrap (IntKind.u64.wrap (1 * 2 ^ Min.min (IntKind.u64.wrap (1 * 2 ^ Min.min (IntKind.i64.wrap (1 + (IntKind.i64.wrap k).tmod 5)).toNat 64)).toNat 64) - 1))).toNat : Int))))], []) else none) := by kernel_rfl
def c34t (k b m : Int) : Tree (AV × Hp) := .br (decide (0 ≤ k) && decide (k < 256) && Rgg.in32 b && decide (m = 5)) (.leaf (.tuple [vi (Rgg.pK k), vU (Rgg.pB k b : Nat)], [])) .fail
def c34 (args : List AV) (H : Hp) : Tree (AV × Hp) := match args, H with
  | [(.agg [.sc (.int .u8 k), .sc (.int .u32 b)] false), (.sc (.int .i64 m))], [] => c34t k b m
  | _, _ => .fail
theorem c34_ok {T : Tab} (hT : TabOK T) (h : ∀ (k b m : Int) (r : AV × Hp), (c34t k b m).val = some r → evBody T 34 [pil k b, vi m] [] = some r) : ∀ args H v H', (c34 args H).val = some (v, H') → CallOK T 34 args H v H' := by
  intro args H v H' hv
  unfold c34 at hv
  split at hv
  · exact evBody_sound hT (h _ _ _ _ hv)
  · cases hv
def c35t (n : Int) : Tree (AV × Hp) := .br (Rgg.in32 n) (.leaf (osW 0 (Rgg.wdL n.toNat).length, [some (rS (Rgg.wdL n.toNat))])) .fail
def c35 (args : List AV) (H : Hp) : Tree (AV × Hp) := match args, H with
  | [(.sc (.int .u32 n))], [] => c35t n
  | _, _ => .fail
theorem c35_ok {T : Tab} (hT : TabOK T) (h : ∀ (n : Int) (r : AV × Hp), (c35t n).val = some r → evBody T 35 [vU n] [] = some r) : ∀ args H v H', (c35 args H).val = some (v, H') → CallOK T 35 args H v H' := by
  intro args H v H' hv
  unfold c35 at hv
  split at hv
  · exact evBody_sound hT (h _ _ hv)
  · cases hv
end Go.Ev.Rag
namespace Rgg
open Go
theorem in32_nat {n : Int} (h : in32 n = true) : ∃ m : Nat, n = m ∧ m < 4294967296 := by
  cases n with
  | ofNat x => exact ⟨x, rfl, by have := Nat.le_of_ble_eq_true h; omega⟩
  | negSucc x => cases h
theorem in32_of {m : Nat} (h : m < 4294967296) : in32 (m : Int) = true := Nat.ble_eq_true_of_le (by omega)
theorem ne0 {m : Nat} (h : m ≠ 0) : ((m : Int) != 0) = true := by rw [bne, Bool.not_eq_true']; exact beq_false_of_ne (by omega)
theorem mask5 (b : Nat) (h : b < 4294967296) : ∀ q, 1 ≤ q → q ≤ 5 → IntKind.u32.wrap (IntKind.u64.wrap ((BitVec.ofInt 64 (IntKind.u64.wrap (b : Int)) &&& BitVec.ofInt 64 (IntKind.u64.wrap (IntKind.u64.wrap (1 * 2 ^ Min.min (IntKind.u64.wrap (1 * 2 ^ Min.min q 64)).toNat 64) - 1))).toNat : Int)) = ((b % 2 ^ 2 ^ q : Nat) : Int) := by
  have hb : IntKind.u64.wrap (b : Int) = (b : Int) := by rw [IntKind.wrap_u64]; omega
  have hb2 : (BitVec.ofInt 64 (b : Int)).toNat = b := by rw [BitVec.ofInt_natCast, BitVec.toNat_ofNat]; omega
  intro q h1 h5
  have main : ∀ (m : Nat) (x : Int), (BitVec.ofInt 64 x).toNat = 2 ^ m - 1 → m ≤ 32 → IntKind.u32.wrap (IntKind.u64.wrap ((BitVec.ofInt 64 (IntKind.u64.wrap (b : Int)) &&& BitVec.ofInt 64 x).toNat : Int)) = ((b % 2 ^ m : Nat) : Int) := by
    intro m x hx hm
    have hl : b % 2 ^ m < 4294967296 := Nat.lt_of_le_of_lt (Nat.mod_le ..) h
    rw [hb, BitVec.toNat_and, hb2, hx, Nat.and_two_pow_sub_one_eq_mod, IntKind.wrap_u64, show ((b % 2 ^ m : Nat) : Int) % 18446744073709551616 = ((b % 2 ^ m : Nat) : Int) by omega]
    exact wrap_n32 hl
  have : q = 1 ∨ q = 2 ∨ q = 3 ∨ q = 4 ∨ q = 5 := by omega
  rcases this with rfl | rfl | rfl | rfl | rfl
  · exact main 2 _ (by decide) (by decide)
  · exact main 4 _ (by decide) (by decide)
  · exact main 8 _ (by decide) (by decide)
  · exact main 16 _ (by decide) (by decide)
  · exact main 32 _ (by decide) (by decide)
theorem wd_sm (n : Nat) : Ev.sm (upTo (fun i => n.testBit i) 32) = true := decide_eq_true (by
  unfold upTo
  rw [List.length_map]
  exact Nat.le_trans (List.length_filter_le _ _) (by rw [List.length_range]; decide))
theorem two_k {K : Int} (h1 : 1 ≤ K) (h5 : K ≤ 5) : IntKind.i64.wrap (1 * 2 ^ Min.min K.toNat 64) = ((2 ^ K.toNat : Nat) : Int) ∧ 2 ^ K.toNat ≤ 32 := by
  have : K = 1 ∨ K = 2 ∨ K = 3 ∨ K = 4 ∨ K = 5 := by omega
  rcases this with rfl | rfl | rfl | rfl | rfl <;> decide
end Rgg
namespace Go.Ev.Rag
open Go Go.Ev Go.Proofs
set_option maxRecDepth 1000000
set_option linter.unusedVariables false
set_option linter.unusedSimpArgs false
theorem c38_run : ∀ args H v H', (c38 args H).val = some (v, H') → CallOK T0 38 args H v H' := fun a H v H' hv => by
  refine CallOK.tab ?_ ?_ (c38_ok TC_ok (by
    intro n r hv
    obtain ⟨hl, hv2⟩ := guard_val hv
    simp only [Bool.and_eq_true, decide_eq_true_eq] at hl
    obtain ⟨n, rfl⟩ := Int.eq_ofNat_of_zero_le hl.1
    rw [leaf_val hv2, toNat_cast]
    exact w38 n (by omega)) a H v H' hv) <;> rfl
theorem N0_ok : TabOK N0 := by
  have h := T0_ok
  have h := h.addCall (g := 51) (r := c51) fun a H v H' hv => by refine CallOK.tab ?_ ?_ (c51_run a H v H' hv) <;> rfl
  have h := h.addCall (g := 38) (r := c38) fun a H v H' hv => by refine CallOK.tab ?_ ?_ (c38_run a H v H' hv) <;> rfl
  have h := h.addCall (g := 84) (r := c84) fun a H v H' hv => by refine CallOK.tab ?_ ?_ (c84_run a H v H' hv) <;> rfl
  exact h
theorem l35_2_run : ∀ base kv H o kv' H', (l35_2 base kv H).val = some (o, kv', H') → LoopOK N0 35 2 base kv H o kv' H' := l35_2_ok N0_ok (by kernel_rfl) (by
  intro n r hv
  obtain ⟨hl, hv2⟩ := guard_val hv
  obtain ⟨n, rfl, hn⟩ := Rgg.in32_nat hl
  rw [toNat_cast] at hv2
  have hle : (Rgg.bL n).length ≤ 32 := Nat.le_trans (List.length_filter_le _ _) (by rw [List.length_range]; exact Nat.le_refl _)
  obtain ⟨mm, hm⟩ := steps_of (T := N0) (fid := 35) (lid := 2) (base := 0) (c := lpc N0 35 2) (Rgg.bL n).length (fun i => [vU (Rgg.rmN n i : Nat), osW 0 (((Rgg.bL n).take i).map Rgg.word).length]) (fun i => [some (rS (((Rgg.bL n).take i).map Rgg.word))])
    (.ext 0, [vU 0, osW 0 (Rgg.upTo (fun i => n.testBit i) 32).length], [some (rS (Rgg.upTo (fun i => n.testBit i) 32))])
    (fun i hi again => by
      obtain ⟨r0, r1, r2, r3⟩ := Rgg.rm_at hn hi
      have hln : (((Rgg.bL n).take i).map Rgg.word).length ≤ i := by rw [List.length_map, List.length_take]; omega
      refine (nl35 ..).trans ?_
      rw [Rgg.ne0 r0, Rgg.clr32 r0 r1, decide_eq_true (show (0 : Int) < (Rgg.rmN n i : Nat) by omega), decide_eq_true (show ((Rgg.rmN n i : Nat) : Int) < 4294967296 by omega), toNat_cast, toNat_cast, dec_ge, decide_eq_true (show ((Rgg.tzN (Rgg.rmN n i) : Nat) : Int) < 32 by omega), room_ok (by omega) (by omega)]
      simp only [cond_true, Bool.and_self, List.take_add_one, r3, Option.toList, List.map_append, List.map_cons, List.map_nil, List.length_append, List.length_singleton, rS, Rgg.tyS_snoc]
      rfl)
    (fun again => by
      refine (nl35 ..).trans ?_
      rw [Rgg.rm_end hn, List.take_length]
      rfl)
  exact ⟨mm, hm.trans (by rw [leaf_val hv2])⟩)
theorem l36_2_run : ∀ base kv H o kv' H', (l36_2 base kv H).val = some (o, kv', H') → LoopOK N0 36 2 base kv H o kv' H' := l36_2_ok N0_ok (by kernel_rfl) (by
  intro n s o r hv
  obtain ⟨hl, hv2⟩ := guard_val hv
  simp only [Bool.and_eq_true, decide_eq_true_eq] at hl
  obtain ⟨⟨⟨hn, s0⟩, s32⟩, rfl⟩ := hl
  obtain ⟨n, rfl, hn'⟩ := Rgg.in32_nat hn
  replace hn := hn'
  obtain ⟨s, rfl⟩ := Int.eq_ofNat_of_zero_le s0
  have hs : s < 32 := by omega
  rw [toNat_cast, toNat_cast, ← Rgg.tr_or hs] at hv2
  obtain ⟨mm, hm⟩ := steps_of (T := N0) (fid := 36) (lid := 2) (base := 0) (c := lpc N0 36 2) (Rgg.bL n).length (fun i => [vU (Rgg.rmN n i : Nat), vi s, vU (Rgg.orF (fun b => b &&& s) ((Rgg.bL n).take i) : Nat)]) (fun i => [])
    (.ext 0, [vU 0, vi s, vU (Rgg.orF (fun b => b &&& s) (Rgg.bL n) : Nat)], [])
    (fun i hi again => by
      obtain ⟨r0, r1, r2, r3⟩ := Rgg.rm_at hn hi
      have ho : Rgg.orF (fun b => b &&& s) ((Rgg.bL n).take i) < 4294967296 := Rgg.orF_lt fun b hb => Rgg.and_lt b (Rgg.bL_lt (List.mem_of_mem_take hb)) s hs
      refine (nl36 ..).trans ?_
      rw [Rgg.ne0 r0, Rgg.clr32 r0 r1, decide_eq_true (show (0 : Int) < (Rgg.rmN n i : Nat) by omega), decide_eq_true (show ((Rgg.rmN n i : Nat) : Int) < 4294967296 by omega), toNat_cast, Rgg.and64 _ r2 s hs, dec_ge, toNat_cast, Rgg.or32 ho (Rgg.and_lt _ r2 s hs)]
      simp only [cond_true, Bool.and_self, List.take_add_one, r3, Option.toList, Rgg.orF_snoc]
      rfl)
    (fun again => by
      refine (nl36 ..).trans ?_
      rw [Rgg.rm_end hn, List.take_length]
      rfl)
  exact ⟨mm, hm.trans (by rw [leaf_val hv2])⟩)
theorem N1_ok : TabOK N1 := by
  have h := N0_ok
  have h := h.addLoop (g := 35) (lid := 2) (r := l35_2) fun b k H o k' H' hv => by refine LoopOK.tab ?_ ?_ ?_ ?_ (l35_2_run b k H o k' H' hv) <;> rfl
  have h := h.addLoop (g := 36) (lid := 2) (r := l36_2) fun b k H o k' H' hv => by refine LoopOK.tab ?_ ?_ ?_ ?_ (l36_2_run b k H o k' H' hv) <;> rfl
  exact h
theorem c34_run : ∀ args H v H', (c34 args H).val = some (v, H') → CallOK N1 34 args H v H' := c34_ok N1_ok (by
  intro k b m r hv
  obtain ⟨hl, hv2⟩ := guard_val hv
  simp only [Bool.and_eq_true, decide_eq_true_eq] at hl
  obtain ⟨⟨⟨k0, k1⟩, hb⟩, rfl⟩ := hl
  obtain ⟨b, rfl, hb'⟩ := Rgg.in32_nat hb
  replace hb := hb'
  refine (nf34 ..).trans ?_
  have e : IntKind.i64.wrap (1 + (IntKind.i64.wrap k).tmod 5) = Rgg.pK k := by
    rw [wrapi (x := k) (by omega) (by omega), Int.tmod_eq_emod_of_nonneg k0, wrapi (by omega) (by omega)]; rfl
  have h1 : 1 ≤ Rgg.pK k ∧ Rgg.pK k ≤ 5 := by unfold Rgg.pK; omega
  rw [e, leaf_val hv2, decide_eq_true (show 0 ≤ Rgg.pK k by omega), Rgg.mask5 b hb (Rgg.pK k).toNat (by omega) (by omega)]
  unfold Rgg.pB
  rw [toNat_cast]
  rfl)
theorem c35_run : ∀ args H v H', (c35 args H).val = some (v, H') → CallOK N1 35 args H v H' := c35_ok N1_ok (by
  intro n r hv
  obtain ⟨hl, hv2⟩ := guard_val hv
  refine (nf35 ..).trans ?_
  have e : (Rgg.wdL n.toNat).length = (Rgg.upTo (fun i => n.toNat.testBit i) 32).length := srtS_len _
  rw [hl, leaf_val hv2, decide_eq_true rfl, Rgg.wd_sm, decide_eq_true rfl, e]
  rfl)
end Go.Ev.Rag
