/- The law RagMore: the loop over both lists, and the body's normal form. -/
import Derived.Test.YtajhpbahjindkaaDoorNu
import Derived.Test.YtajhpbahjindkaaDoorNj
import Derived.Test.YtajhpbahjindkaaDoorNk
set_option linter.unusedVariables false
set_option linter.unusedSimpArgs false
namespace Go.Ev.Rag
open Go Go.Ev
set_option maxRecDepth 1000000
set_option maxHeartbeats 0
set_option linter.unusedVariables false
theorem nl11_22 (a c : List ByteArray) : lpRun Mo4 11 22 0 (lpc Mo4 11 22) 3 [vb false, .slg [.sl .str a false, .sl .str c false] true, vi 2, vi 0] [] = (bif decide (a = a) && decide ((↑a.length : Int) = (↑a.length : Int)) && sm a && a.all (Rgg.good a) then bif decide (c = c) && decide ((↑c.length : Int) = (↑c.length : Int)) && sm c && c.all (Rgg.good c) then some (.ext 4, [vb false, .slg [.sl .str a false, .sl .str c false] true, vi 2, vi 2], []) else none else none) := by kernel_rfl
def l11_22t (a c : List ByteArray) : Tree (Out × List AV × Hp) := .br (sm a && sm c && a.all (Rgg.good a) && c.all (Rgg.good c)) (.leaf (.ext 4, [vb false, .slg [.sl .str a false, .sl .str c false] true, vi 2, vi 2], [])) .fail
def l11_22 (base : Nat) (kv : List AV) (H : Hp) : Tree (Out × List AV × Hp) := match Nat.beq base 0, kv, H with
  | true, [(.sc (.bool false)), .slg [.sl .str a false, .sl .str c false] true, (.sc (.int .i64 2)), (.sc (.int .i64 0))], [] => l11_22t a c
  | _, _, _ => .fail
theorem l11_22_ok {T : Tab} (hT : TabOK T) (hlo : loopOf T.fn 11 22 = some (lpc T 11 22)) (h : ∀ (a c : List ByteArray) (r : Out × List AV × Hp), (l11_22t a c).val = some r → ∃ mm, lpRun T 11 22 0 (lpc T 11 22) mm [vb false, .slg [.sl .str a false, .sl .str c false] true, vi 2, vi 0] [] = some r) : ∀ base kv H o kv' H', (l11_22 base kv H).val = some (o, kv', H') → LoopOK T 11 22 base kv H o kv' H' := by
  intro base kv H o kv' H' hv
  unfold l11_22 at hv
  split at hv
  · rename_i hb
    obtain rfl := Nat.eq_of_beq_eq_true hb
    exact loop_ok hT hlo (h _ _ _ hv)
  · cases hv
noncomputable def Mo5 : Tab := Mo4.addLoop 11 22 l11_22
theorem nf11 (k b o : Int) : evBody Mo5 11 [pil k b, .sc (.int .u8 o)] [] = (bif decide (0 ≤ k) && decide (k < 256) && Rgg.in32 b && decide (5 = 5) then bif Rgg.in32 (↑(Rgg.pB k b) : Int) then bif decide (0 ≤ Rgg.pK k) then bif !decide (IntKind.i64.wrap (1 * 2 ^ Min.min (Rgg.pK k).toNat 64) = 0) then bif decide (0 ≤ (IntKind.i64.wrap o).tmod (IntKind.i64.wrap (1 * 2 ^ Min.min (Rgg.pK k).toNat 64))) then bif Rgg.in32 (IntKind.u32.wrap (↑(BitVec.ofInt 32 (↑(Rgg.pB k b) : Int) ||| BitVec.ofInt 32 (IntKind.u32.wrap (1 * 2 ^ Min.min ((IntKind.i64.wrap o).tmod (IntKind.i64.wrap (1 * 2 ^ Min.min (Rgg.pK k).toNat 64))).toNat 32))).toNat : Int)) then bif Rgg.opE (Rgg.pK k) (Rgg.wdL (↑(Rgg.pB k b) : Int).toNat) != 0 then some (vb false, []) else bif Rgg.opE (Rgg.pK k) (Rgg.wdL (IntKind.u32.wrap (↑(BitVec.ofInt 32 (↑(Rgg.pB k b) : Int) ||| BitVec.ofInt 32 (IntKind.u32.wrap (1 * 2 ^ Min.min ((IntKind.i64.wrap o).tmod (IntKind.i64.wrap (1 * 2 ^ Min.min (Rgg.pK k).toNat 64))).toNat 32))).toNat : Int)).toNat) != 0 then some (vb false, []) else bif Rgg.opE (Rgg.pK k) (Rgg.wdL (↑(Rgg.pB k b) : Int).toNat) != 0 then some (vb false, []) else bif Rgg.opE (Rgg.pK k) (Rgg.wdL (IntKind.u32.wrap (↑(BitVec.ofInt 32 (↑(Rgg.pB k b) : Int) ||| BitVec.ofInt 32 (IntKind.u32.wrap (1 * 2 ^ Min.min ((IntKind.i64.wrap o).tmod (IntKind.i64.wrap (1 * 2 ^ Min.min (Rgg.pK k).toNat 64))).toNat 32))).toNat : Int)).toNat) != 0 then some (vb false, []) else bif decide ((Rgg.apL (Rgg.pK k) (Rgg.wdL (↑(Rgg.pB k b) : Int).toNat)).length = (Rgg.apL (Rgg.pK k) (Rgg.wdL (↑(Rgg.pB k b) : Int).toNat)).length) && decide ((Rgg.apL (Rgg.pK k) (Rgg.wdL (IntKind.u32.wrap (↑(BitVec.ofInt 32 (↑(Rgg.pB k b) : Int) ||| BitVec.ofInt 32 (IntKind.u32.wrap (1 * 2 ^ Min.min ((IntKind.i64.wrap o).tmod (IntKind.i64.wrap (1 * 2 ^ Min.min (Rgg.pK k).toNat 64))).toNat 32))).toNat : Int)).toNat)).length = (Rgg.apL (Rgg.pK k) (Rgg.wdL (IntKind.u32.wrap (↑(BitVec.ofInt 32 (↑(Rgg.pB k b) : Int) ||| BitVec.ofInt 32 (IntKind.u32.wrap (1 * 2 ^ Min.min ((IntKind.i64.wrap o).tmod (IntKind.i64.wrap (1 * 2 ^ Min.min (Rgg.pK k).toNat 64))).toNat 32))).toNat : Int)).toNat)).length) && decide ((Rgg.cuL (Rgg.pK k) (Rgg.wdL (↑(Rgg.pB k b) : Int).toNat)).length = (Rgg.cuL (Rgg.pK k) (Rgg.wdL (↑(Rgg.pB k b) : Int).toNat)).length) && decide ((Rgg.cuL (Rgg.pK k) (Rgg.wdL (IntKind.u32.wrap (↑(BitVec.ofInt 32 (↑(Rgg.pB k b) : Int) ||| BitVec.ofInt 32 (IntKind.u32.wrap (1 * 2 ^ Min.min ((IntKind.i64.wrap o).tmod (IntKind.i64.wrap (1 * 2 ^ Min.min (Rgg.pK k).toNat 64))).toNat 32))).toNat : Int)).toNat)).length = (Rgg.cuL (Rgg.pK k) (Rgg.wdL (IntKind.u32.wrap (↑(BitVec.ofInt 32 (↑(Rgg.pB k b) : Int) ||| BitVec.ofInt 32 (IntKind.u32.wrap (1 * 2 ^ Min.min ((IntKind.i64.wrap o).tmod (IntKind.i64.wrap (1 * 2 ^ Min.min (Rgg.pK k).toNat 64))).toNat 32))).toNat : Int)).toNat)).length) && decide ((Rgg.apL (Rgg.pK k) (Rgg.wdL (↑(Rgg.pB k b) : Int).toNat)).length = (Rgg.apL (Rgg.pK k) (Rgg.wdL (↑(Rgg.pB k b) : Int).toNat)).length) && decide ((↑(Rgg.apL (Rgg.pK k) (Rgg.wdL (↑(Rgg.pB k b) : Int).toNat)).length : Int) = (↑(Rgg.apL (Rgg.pK k) (Rgg.wdL (↑(Rgg.pB k b) : Int).toNat)).length : Int)) && sm (Rgg.apL (Rgg.pK k) (Rgg.wdL (↑(Rgg.pB k b) : Int).toNat)) && sm (Rgg.apL (Rgg.pK k) (Rgg.wdL (IntKind.u32.wrap (↑(BitVec.ofInt 32 (↑(Rgg.pB k b) : Int) ||| BitVec.ofInt 32 (IntKind.u32.wrap (1 * 2 ^ Min.min ((IntKind.i64.wrap o).tmod (IntKind.i64.wrap (1 * 2 ^ Min.min (Rgg.pK k).toNat 64))).toNat 32))).toNat : Int)).toNat)) && (Rgg.apL (Rgg.pK k) (Rgg.wdL (↑(Rgg.pB k b) : Int).toNat)).all fun s => (Rgg.apL (Rgg.pK k) (Rgg.wdL (IntKind.u32.wrap (↑(BitVec.ofInt IntKind.u32.bits (↑(Rgg.pB k b) : Int) ||| BitVec.ofInt IntKind.u32.bits (IntKind.u32.wrap (1 * 2 ^ Min.min ((IntKind.i64.wrap o).tmod (IntKind.i64.wrap (1 * 2 ^ Min.min (Rgg.pK k).toNat IntKind.i64.bits))).toNat IntKind.u32.bits))).toNat : Int)).toNat)).any fun x => s == x then bif decide ((Rgg.apL (Rgg.pK k) (Rgg.wdL (↑(Rgg.pB k b) : Int).toNat)).length = (Rgg.apL (Rgg.pK k) (Rgg.wdL (↑(Rgg.pB k b) : Int).toNat)).length) && decide ((Rgg.cuL (Rgg.pK k) (Rgg.wdL (↑(Rgg.pB k b) : Int).toNat)).length = (Rgg.cuL (Rgg.pK k) (Rgg.wdL (↑(Rgg.pB k b) : Int).toNat)).length) && decide ((Rgg.cuL (Rgg.pK k) (Rgg.wdL (IntKind.u32.wrap (↑(BitVec.ofInt 32 (↑(Rgg.pB k b) : Int) ||| BitVec.ofInt 32 (IntKind.u32.wrap (1 * 2 ^ Min.min ((IntKind.i64.wrap o).tmod (IntKind.i64.wrap (1 * 2 ^ Min.min (Rgg.pK k).toNat 64))).toNat 32))).toNat : Int)).toNat)).length = (Rgg.cuL (Rgg.pK k) (Rgg.wdL (IntKind.u32.wrap (↑(BitVec.ofInt 32 (↑(Rgg.pB k b) : Int) ||| BitVec.ofInt 32 (IntKind.u32.wrap (1 * 2 ^ Min.min ((IntKind.i64.wrap o).tmod (IntKind.i64.wrap (1 * 2 ^ Min.min (Rgg.pK k).toNat 64))).toNat 32))).toNat : Int)).toNat)).length) && decide ((Rgg.cuL (Rgg.pK k) (Rgg.wdL (↑(Rgg.pB k b) : Int).toNat)).length = (Rgg.cuL (Rgg.pK k) (Rgg.wdL (↑(Rgg.pB k b) : Int).toNat)).length) && decide ((↑(Rgg.cuL (Rgg.pK k) (Rgg.wdL (↑(Rgg.pB k b) : Int).toNat)).length : Int) = (↑(Rgg.cuL (Rgg.pK k) (Rgg.wdL (↑(Rgg.pB k b) : Int).toNat)).length : Int)) && sm (Rgg.cuL (Rgg.pK k) (Rgg.wdL (↑(Rgg.pB k b) : Int).toNat)) && sm (Rgg.cuL (Rgg.pK k) (Rgg.wdL (IntKind.u32.wrap (↑(BitVec.ofInt 32 (↑(Rgg.pB k b) : Int) ||| BitVec.ofInt 32 (IntKind.u32.wrap (1 * 2 ^ Min.min ((IntKind.i64.wrap o).tmod (IntKind.i64.wrap (1 * 2 ^ Min.min (Rgg.pK k).toNat 64))).toNat 32))).toNat : Int)).toNat)) && (Rgg.cuL (Rgg.pK k) (Rgg.wdL (↑(Rgg.pB k b) : Int).toNat)).all fun s => (Rgg.cuL (Rgg.pK k) (Rgg.wdL (IntKind.u32.wrap (↑(BitVec.ofInt IntKind.u32.bits (↑(Rgg.pB k b) : Int) ||| BitVec.ofInt IntKind.u32.bits (IntKind.u32.wrap (1 * 2 ^ Min.min ((IntKind.i64.wrap o).tmod (IntKind.i64.wrap (1 * 2 ^ Min.min (Rgg.pK k).toNat IntKind.i64.bits))).toNat IntKind.u32.bits))).toNat : Int)).toNat)).any fun x => s == x then bif sm (Rgg.apL (Rgg.pK k) (Rgg.wdL (↑(Rgg.pB k b) : Int).toNat)) && sm (Rgg.cuL (Rgg.pK k) (Rgg.wdL (↑(Rgg.pB k b) : Int).toNat)) && (Rgg.apL (Rgg.pK k) (Rgg.wdL (↑(Rgg.pB k b) : Int).toNat)).all (Rgg.good (Rgg.apL (Rgg.pK k) (Rgg.wdL (↑(Rgg.pB k b) : Int).toNat))) && (Rgg.cuL (Rgg.pK k) (Rgg.wdL (↑(Rgg.pB k b) : Int).toNat)).all (Rgg.good (Rgg.cuL (Rgg.pK k) (Rgg.wdL (↑(Rgg.pB k b) : Int).toNat))) then some (vb true, []) else none else none else none else none else none else none else none else none else none) := by kernel_rfl
end Go.Ev.Rag
namespace Rgg
open Go
set_option linter.unusedVariables false
theorem cu_Q {n k s : Nat} (hk : k ≤ 5) (hs : s < 2 ^ k) : cu2 n (2 ^ k) s (2 ^ k) = true ↔ ∃ r, r < 2 ^ k ∧ r &&& s = 0 ∧ ∀ p, p < 2 ^ k → p &&& s = p → at_ (fB n) (p ||| r) = true := by
  have h32 := pow_le32 hk
  unfold cu2 cu3
  rw [List.any_eq_true]
  have hd : ∀ p, p < 2 ^ k → (dif p s = 0 ↔ p &&& s = p) := fun p hp => by
    have h1 := cb3b p (by omega) s (by omega)
    have h2 := cb2 p (by omega) s (by omega)
    constructor
    · intro e
      have := h2.2.1
      rw [e, Nat.or_zero] at this
      exact this
    · intro e
      rw [← e]; exact h2.1
  have hb : ∀ p r, p < 2 ^ k → r < 2 ^ k → at_ (fB n) (p ||| r) = n.testBit (p ||| r) := fun p r hp hr => at_fB (by have := Nat.or_lt_two_pow hp hr; omega)
  constructor
  · rintro ⟨r, hr, hh⟩
    have hr := List.mem_range.1 hr
    rw [Bool.and_eq_true, beq_iff_eq, List.all_eq_true] at hh
    refine ⟨r, hr, hh.1, fun p hp e => ?_⟩
    have := hh.2 p (List.mem_range.2 hp)
    rw [(hd p hp).2 e] at this
    rw [hb p r hp hr]; exact this
  · rintro ⟨r, hr, h0, hh⟩
    refine ⟨r, List.mem_range.2 hr, ?_⟩
    rw [Bool.and_eq_true, beq_iff_eq, List.all_eq_true]
    refine ⟨h0, fun p hp => ?_⟩
    have hp := List.mem_range.1 hp
    cases hz : dif p s != 0 with
    | true => rfl
    | false =>
      have hz : dif p s = 0 := by
        refine Classical.byContradiction fun e => ?_
        rw [bne_eq_false_iff_eq] at hz; exact e hz
      rw [← hb p r hp hr, hh p hp ((hd p hp).1 hz), Bool.or_true]
theorem wd_cut : ∀ s, s < 32 → (Nat.ble (word s).size 5 && asc (word s) && (List.range (word s).size).all fun i => (List.range 32).any fun t => wout (word s) i == word t && sub t s) = true := by decide +kernel
theorem sub_tr : ∀ i, i < 32 → ∀ t, t < 32 → ∀ s, s < 32 → sub i t = true → sub t s = true → sub i s = true := by decide +kernel
theorem and_tr : ∀ b, b < 32 → ∀ t, t < 32 → ∀ s, s < 32 → sub t s = true → (b &&& s) &&& t = b &&& t := by decide +kernel
theorem and_id : ∀ i, i < 32 → ∀ t, t < 32 → sub i t = true → i &&& t = i := by decide +kernel
theorem and_cut : ∀ p, p < 32 → ∀ t, t < 32 → ∀ s, s < 32 → sub t s = true → p &&& t = p → p &&& s = p := by decide +kernel
theorem and_nil : ∀ r, r < 32 → ∀ t, t < 32 → ∀ s, s < 32 → sub t s = true → r &&& s = 0 → r &&& t = 0 := by decide +kernel
theorem sh_part {l : List Bool} {s t : Nat} (hs : s < 32) (ht : t < 32) (h : sub t s = true) (hh : shB l s = true) : shB l t = true := by
  rw [sh_iff hs] at hh
  rw [sh_iff ht]
  intro i hi hb
  obtain ⟨b, b1, b2, b3⟩ := hh i hi (sub_tr i hi t ht s hs hb h)
  exact ⟨b, b1, b2, by rw [← and_tr b b1 t ht s hs h, b3, and_id i hi t ht hb]⟩
theorem sh_grow {l m : List Bool} {s : Nat} (hs : s < 32) (h : ∀ i, i < 32 → at_ l i = true → at_ m i = true) (hh : shB l s = true) : shB m s = true := by
  rw [sh_iff hs] at hh ⊢
  intro i hi hb
  obtain ⟨b, b1, b2, b3⟩ := hh i hi hb
  exact ⟨b, b1, h b b1 b2, b3⟩
theorem cu_part {n k s t : Nat} (hk : k ≤ 5) (hs : s < 2 ^ k) (ht : t < 2 ^ k) (h : sub t s = true) (hh : cu2 n (2 ^ k) s (2 ^ k) = true) : cu2 n (2 ^ k) t (2 ^ k) = true := by
  have h32 := pow_le32 hk
  rw [cu_Q hk hs] at hh
  rw [cu_Q hk ht]
  obtain ⟨r, hr, h0, hp⟩ := hh
  exact ⟨r, hr, and_nil r (by omega) t (by omega) s (by omega) h h0, fun p q e => hp p q (and_cut p (by omega) t (by omega) s (by omega) h e)⟩
theorem cu_grow {n m k s : Nat} (hk : k ≤ 5) (hs : s < 2 ^ k) (h : ∀ i, i < 32 → at_ (fB n) i = true → at_ (fB m) i = true) (hh : cu2 n (2 ^ k) s (2 ^ k) = true) : cu2 m (2 ^ k) s (2 ^ k) = true := by
  have h32 := pow_le32 hk
  rw [cu_Q hk hs] at hh ⊢
  obtain ⟨r, hr, h0, hp⟩ := hh
  exact ⟨r, hr, h0, fun p q e => h _ (by have := Nat.or_lt_two_pow q hr; omega) (hp p q e)⟩
theorem good_of {k : Nat} (h1 : 1 ≤ k) (hk : k ≤ 5) {P : Nat → Bool} (hP : ∀ s, s < 2 ^ k → ∀ t, t < 2 ^ k → sub t s = true → P s = true → P t = true) : (((ordS k).filter P).map word).all (good (((ordS k).filter P).map word)) = true := by
  have h32 := pow_le32 hk
  rw [List.all_eq_true]
  intro x hx
  obtain ⟨s, hs, rfl⟩ := List.mem_map.1 hx
  obtain ⟨s1, s2⟩ := List.mem_filter.1 hs
  have hlt := ord_bnd k (by omega) s s1
  have hw := wd_cut s (by omega)
  rw [Bool.and_eq_true, List.all_eq_true] at hw
  unfold good
  rw [Bool.and_eq_true, List.all_eq_true]
  refine ⟨hw.1, fun i hi => ?_⟩
  have := hw.2 i hi
  rw [List.any_eq_true] at this
  obtain ⟨t, ht, he⟩ := this
  have ht := List.mem_range.1 ht
  rw [Bool.and_eq_true, beq_iff_eq] at he
  rw [List.any_eq_true]
  have htk := sub_le k (by omega) s hlt t ht he.2
  refine ⟨word t, List.mem_map.2 ⟨t, List.mem_filter.2 ⟨(ord_perm k (by omega) h1).mem_iff.1 (List.mem_range.2 htk), hP s hlt t htk he.2 s2⟩, rfl⟩, ?_⟩
  rw [beq_iff_eq]; exact he.1
theorem in_of {k : Nat} {P P' : Nat → Bool} (h : ∀ s ∈ ordS k, P s = true → P' s = true) : ((((ordS k).filter P).map word).all fun s => (((ordS k).filter P').map word).any fun x => s == x) = true := by
  rw [List.all_eq_true]
  intro x hx
  obtain ⟨s, hs, rfl⟩ := List.mem_map.1 hx
  obtain ⟨s1, s2⟩ := List.mem_filter.1 hs
  rw [List.any_eq_true]
  exact ⟨word s, List.mem_map.2 ⟨s, List.mem_filter.2 ⟨s1, h s s1 s2⟩, rfl⟩, beq_self_eq_true _⟩
theorem pl_more {K : Int} {n : Nat} (h : Pl K n) {q : Nat} (hq : q < 2 ^ K.toNat) : Pl K (n ||| 2 ^ q) ∧ ∀ i, i < 32 → at_ (fB n) i = true → at_ (fB (n ||| 2 ^ q)) i = true := by
  refine ⟨⟨h.k1, h.k5, Nat.or_lt_two_pow h.lt (Nat.pow_lt_pow_right (by decide) hq)⟩, fun i hi ha => ?_⟩
  rw [at_fB hi] at ha ⊢
  rw [Nat.testBit_or, ha, Bool.true_or]
theorem tmod_lt {a b : Int} (ha : 0 ≤ a) (hb : 0 < b) : 0 ≤ a.tmod b ∧ a.tmod b < b := by
  rw [Int.tmod_eq_emod_of_nonneg ha]
  exact ⟨Int.emod_nonneg _ (by omega), Int.emod_lt_of_pos _ hb⟩
end Rgg
namespace Go.Ev.Rag
open Go Go.Ev Go.Proofs
set_option maxRecDepth 1000000
set_option linter.unusedVariables false
set_option linter.unusedSimpArgs false
theorem l11_22_run : ∀ base kv H o kv' H', (l11_22 base kv H).val = some (o, kv', H') → LoopOK Mo4 11 22 base kv H o kv' H' := l11_22_ok Mo4_ok (by kernel_rfl) (by
  intro a c r hv
  obtain ⟨hl, hv2⟩ := guard_val hv
  simp only [Bool.and_eq_true] at hl
  obtain ⟨⟨⟨ha, hc⟩, ga⟩, gc⟩ := hl
  refine ⟨3, (nl11_22 ..).trans ?_⟩
  rw [ha, hc, ga, gc, decide_eq_true (rfl : a = a), decide_eq_true (rfl : c = c), decide_eq_true (rfl : (a.length : Int) = a.length), decide_eq_true (rfl : (c.length : Int) = c.length), leaf_val hv2]
  rfl)
theorem Mo5_ok : TabOK Mo5 := Mo4_ok.addLoop (g := 11) (lid := 22) (r := l11_22) fun b k H o k' H' hv => by refine LoopOK.tab ?_ ?_ ?_ ?_ (l11_22_run b k H o k' H' hv) <;> rfl
theorem more_body (k b : Int) (r : (0 ≤ k ∧ k < 256) ∧ Rgg.in32 b = true) (o : Int) (ro : 0 ≤ o ∧ o < 256) : evBody Mo5 11 [pil k b, .sc (.int .u8 o)] [] = some (vb true, []) := by
  refine (nf11 ..).trans ?_
  rw [show IntKind.u32.bits = 32 from rfl, show IntKind.i64.bits = 64 from rfl]
  have hP := Rgg.pl_of k b
  generalize Rgg.pK k = K at *
  generalize Rgg.pB k b = n at *
  have k1 := hP.k1
  have k5 := hP.k5
  obtain ⟨e1, e2⟩ := Rgg.two_k k1 k5
  have hpos : 0 < 2 ^ K.toNat := Nat.two_pow_pos _
  rw [toNat_cast, r.2, decide_eq_true r.1.1, decide_eq_true r.1.2, Rgg.in32_of hP.n32, e1, wrapi (x := o) (by omega) (by omega)]
  obtain ⟨t0, t1⟩ := Rgg.tmod_lt (a := o) (b := ((2 ^ K.toNat : Nat) : Int)) ro.1 (by omega)
  obtain ⟨q, hq⟩ := Int.eq_ofNat_of_zero_le t0
  rw [hq] at t1 ⊢
  have hq2 : q < 2 ^ K.toNat := by omega
  rw [toNat_cast, Rgg.or32 hP.n32 (by omega)]
  obtain ⟨hP2, hg⟩ := Rgg.pl_more hP hq2
  generalize n ||| 2 ^ q = m at *
  rw [toNat_cast, hP.opE, hP2.opE, Rgg.in32_of hP2.n32]
  have h5 : K.toNat ≤ 5 := by omega
  have h1 : 1 ≤ K.toNat := by omega
  have h32 := Rgg.pow_le32 h5
  have sA : sm (Rgg.apL K (Rgg.wdL n)) = true := decide_eq_true (by have := Rgg.ap_le hP; omega)
  have sB : sm (Rgg.apL K (Rgg.wdL m)) = true := decide_eq_true (by have := Rgg.ap_le hP2; omega)
  have sC : sm (Rgg.cuL K (Rgg.wdL n)) = true := decide_eq_true (by have := Rgg.cu_le hP; omega)
  have sD : sm (Rgg.cuL K (Rgg.wdL m)) = true := decide_eq_true (by have := Rgg.cu_le hP2; omega)
  have gA : (Rgg.apL K (Rgg.wdL n)).all (Rgg.good (Rgg.apL K (Rgg.wdL n))) = true := by
    rw [(Rgg.ap_form hP).1]
    exact Rgg.good_of h1 h5 fun s hs t ht hb hh => Rgg.sh_part (by omega) (by omega) hb hh
  have gC : (Rgg.cuL K (Rgg.wdL n)).all (Rgg.good (Rgg.cuL K (Rgg.wdL n))) = true := by
    rw [(Rgg.cu_form hP).1]
    exact Rgg.good_of h1 h5 fun s hs t ht hb hh => Rgg.cu_part h5 hs ht hb hh
  have iA : ((Rgg.apL K (Rgg.wdL n)).all fun s => (Rgg.apL K (Rgg.wdL m)).any fun x => s == x) = true := by
    rw [(Rgg.ap_form hP).1, (Rgg.ap_form hP2).1]
    exact Rgg.in_of fun s hs hh => Rgg.sh_grow (by have := Rgg.ord_bnd K.toNat (by omega) s hs; omega) hg hh
  have iC : ((Rgg.cuL K (Rgg.wdL n)).all fun s => (Rgg.cuL K (Rgg.wdL m)).any fun x => s == x) = true := by
    rw [(Rgg.cu_form hP).1, (Rgg.cu_form hP2).1]
    exact Rgg.in_of fun s hs hh => Rgg.cu_grow h5 (Rgg.ord_bnd K.toNat (by omega) s hs) hg hh
  rw [sA, sB, sC, sD, gA, gC, iA, iC]
  simp only [decide_true, Bool.and_self, cond_true, bne_self_eq_false, cond_false, dec_ge, decide_eq_true (show 0 ≤ K by omega), decide_eq_false (show ¬ (((2 ^ K.toNat : Nat) : Int) = 0) by omega), Bool.not_false]
end Go.Ev.Rag
