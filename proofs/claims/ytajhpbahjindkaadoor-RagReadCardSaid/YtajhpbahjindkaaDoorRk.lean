/- Sets that are told apart: the program's side; tables and normal forms. -/
import Derived.Test.YtajhpbahjindkaaDoorRe
import Derived.Test.YtajhpbahjindkaaDoorRf
import Derived.Test.YtajhpbahjindkaaDoorRg
set_option linter.unusedVariables false
set_option linter.unusedSimpArgs false
namespace Rgg
open Go
def apL (K : Int) (bags : List ByteArray) : List ByteArray := bif opE K bags == 0 then wrt K (fun n => (miss K (opF K bags) n).isEmpty) else []
def mxP (m x : ByteArray) : ByteArray := bif decide (m.size < x.size) then x else m
def mxS (l : List ByteArray) : ByteArray := (l.drop 1).foldl mxP (l.headD ⟨#[]⟩)
def pvE (K : Int) (bags : List ByteArray) (s p : ByteArray) : Int := bif meE K bags s == 0 then (bif rdE (rd K p) == 0 then (bif dif (rdV (rd K p)) (rdV (rd K s)) != 0 || at_ (tr (opF K bags) (rdV (rd K s))) (rdV (rd K p)) then 14 else 0) else rdE (rd K p)) else meE K bags s
end Rgg
namespace Go.Ev.Rag
open Go Go.Ev
set_option maxRecDepth 1000000
set_option maxHeartbeats 0
set_option linter.unusedVariables false
abbrev fn66 : AV := .fn (.func 66) [] []
theorem nf17 (K : Int) (bags : List ByteArray) : evBody R3 17 [vi K, lS bags] [] = (bif Rgg.opE K bags == 0 then bif decide ((Rgg.opF K bags).length = 32) && decide (1 ≤ K) && decide (K ≤ 5) && decide (1 ≤ K) && decide (K ≤ 5) then some (.tuple [.os 0 0 0 (Rgg.wrt K fun n => (Rgg.miss K (Rgg.opF K bags) n).isEmpty).length true false true, vi 0], [some ⟨[.run .str (Rgg.wrt K fun n => (Rgg.miss K (Rgg.opF K bags) n).isEmpty)], false, Rgg.tyS (Rgg.wrt K fun n => (Rgg.miss K (Rgg.opF K bags) n).isEmpty), false, false, none⟩]) else none else bif Rgg.opE K bags != 0 then some (.tuple [osW 0 0, vi (Rgg.opE K bags)], [some { c := [.run .str []], vr := false, ty := 0, fz := false, loose := false : Row }]) else none) := by kernel_rfl
theorem nf66 (a b : ByteArray) : evBody R3 66 [vS a, vS b] [] = (some (vi (IntKind.i64.wrap ((↑a.size : Int) - (↑b.size : Int))), [])) := by kernel_rfl
def c17t (K : Int) (bags : List ByteArray) : Tree (AV × Hp) := .leaf (.tuple [osW 0 (Rgg.apL K bags).length, vi (Rgg.opE K bags)], [some (rS (Rgg.apL K bags))])
def c17 (args : List AV) (H : Hp) : Tree (AV × Hp) := match args, H with
  | [(.sc (.int .i64 K)), (.sl .str bags false)], [] => c17t K bags
  | _, _ => .fail
theorem c17_ok {T : Tab} (hT : TabOK T) (h : ∀ (K : Int) (bags : List ByteArray) (r : AV × Hp), (c17t K bags).val = some r → evBody T 17 [vi K, lS bags] [] = some r) : ∀ args H v H', (c17 args H).val = some (v, H') → CallOK T 17 args H v H' := by
  intro args H v H' hv
  unfold c17 at hv
  split at hv
  · exact evBody_sound hT (h _ _ _ hv)
  · cases hv
def c66t (a b : ByteArray) : Tree (AV × Hp) := .br (decide (a.size ≤ 100000) && decide (b.size ≤ 100000)) (.leaf (vi ((a.size : Int) - (b.size : Int)), [])) .fail
def c66 (args : List AV) (H : Hp) : Tree (AV × Hp) := match args, H with
  | [(.sc (.string a)), (.sc (.string b))], [] => c66t a b
  | _, _ => .fail
theorem c66_ok {T : Tab} (hT : TabOK T) (h : ∀ (a b : ByteArray) (r : AV × Hp), (c66t a b).val = some r → evBody T 66 [vS a, vS b] [] = some r) : ∀ args H v H', (c66 args H).val = some (v, H') → CallOK T 66 args H v H' := by
  intro args H v H' hv
  unfold c66 at hv
  split at hv
  · exact evBody_sound hT (h _ _ _ hv)
  · cases hv
noncomputable def P1 : Tab := ((R3).addCall 17 c17).addCall 66 c66
theorem nl65 (again : Ag) (l : List ByteArray) (m : ByteArray) (i : Int) : lpStep P1 65 5 0 (lpc P1 65 5) again [lS l, fn66, vS m, vi i] [] = (bif decide (i < (↑l.length : Int)) then bif decide (0 ≤ i) then bif decide (i < (↑l.length : Int)) then oM l[i.toNat]? fun x => bif decide (ByteArray.size x ≤ 100000) && decide (m.size ≤ 100000) then bif decide ((↑(ByteArray.size x) : Int) - (↑m.size : Int) > 0) then bif decide (0 ≤ i) then bif decide (i < (↑l.length : Int)) then oM l[i.toNat]? fun x => again [.sl .str l false, .fn (Go.Fn.func 66) [] [], .sc (.string x), vi (IntKind.i64.wrap (i + 1))] [] else none else none else again [.sl .str l false, .fn (Go.Fn.func 66) [] [], .sc (.string m), vi (IntKind.i64.wrap (i + 1))] [] else none else none else none else some (.ext 0, [.sl .str l false, .fn (Go.Fn.func 66) [] [], .sc (.string m), vi i], [])) := by kernel_rfl
def l65_5t (l : List ByteArray) (m : ByteArray) : Tree (Out × List AV × Hp) := .br (sm l && Rgg.szs l && decide (m.size ≤ 100000) && !l.isEmpty) (.leaf (.ext 0, [lS l, fn66, vS ((l.drop 1).foldl Rgg.mxP m), vi l.length], [])) .fail
def l65_5 (base : Nat) (kv : List AV) (H : Hp) : Tree (Out × List AV × Hp) := match Nat.beq base 0, kv, H with
  | true, [(.sl .str l false), .fn (.func 66) [] [], (.sc (.string m)), (.sc (.int .i64 1))], [] => l65_5t l m
  | _, _, _ => .fail
theorem l65_5_ok {T : Tab} (hT : TabOK T) (hlo : loopOf T.fn 65 5 = some (lpc T 65 5)) (h : ∀ (l : List ByteArray) (m : ByteArray) (r : Out × List AV × Hp), (l65_5t l m).val = some r → ∃ mm, lpRun T 65 5 0 (lpc T 65 5) mm [lS l, fn66, vS m, vi 1] [] = some r) : ∀ base kv H o kv' H', (l65_5 base kv H).val = some (o, kv', H') → LoopOK T 65 5 base kv H o kv' H' := by
  intro base kv H o kv' H' hv
  unfold l65_5 at hv
  split at hv
  · rename_i hb
    obtain rfl := Nat.eq_of_beq_eq_true hb
    exact loop_ok hT hlo (h _ _ _ hv)
  · cases hv
noncomputable def P2 : Tab := (P1).addLoop 65 5 l65_5
theorem nf65 (l : List ByteArray) : evBody P2 65 [lS l, fn66] [] = (bif decide ((↑l.length : Int) < 1) then none else bif decide (0 < (↑l.length : Int)) then oM l[0]? fun x => bif sm l && Rgg.szs l && decide (ByteArray.size x ≤ 100000) && !l.isEmpty then some (.sc (.string (List.foldl Rgg.mxP x (List.drop 1 l))), []) else none else none) := by kernel_rfl
def c65t (l : List ByteArray) : Tree (AV × Hp) := .br (sm l && Rgg.szs l && !l.isEmpty) (.leaf (vS (Rgg.mxS l), [])) .fail
def c65 (args : List AV) (H : Hp) : Tree (AV × Hp) := match args, H with
  | [(.sl .str l false), .fn (.func 66) [] []], [] => c65t l
  | _, _ => .fail
theorem c65_ok {T : Tab} (hT : TabOK T) (h : ∀ (l : List ByteArray) (r : AV × Hp), (c65t l).val = some r → evBody T 65 [lS l, fn66] [] = some r) : ∀ args H v H', (c65 args H).val = some (v, H') → CallOK T 65 args H v H' := by
  intro args H v H' hv
  unfold c65 at hv
  split at hv
  · exact evBody_sound hT (h _ _ hv)
  · cases hv
noncomputable def P3 : Tab := (P1).addCall 65 c65
theorem nf24 (K : Int) (bags : List ByteArray) (s p : ByteArray) : evBody P3 24 [vi K, lS bags, vS s, vS p] [] = (bif Rgg.opE K bags == 0 then bif Rgg.rdE (Rgg.rd K s) != 0 then some (vi (Rgg.rdE (Rgg.rd K s)), []) else bif decide (1 ≤ K) && decide (K ≤ 5) then bif Rgg.rdE (Rgg.rd K p) != 0 then some (vi (Rgg.rdE (Rgg.rd K p)), []) else bif IntKind.i64.wrap (↑(BitVec.ofInt 64 (↑(Rgg.rdV (Rgg.rd K p)) : Int) &&& ~~~BitVec.ofInt 64 (↑(Rgg.rdV (Rgg.rd K s)) : Int)).toNat : Int) != 0 then some (vi 14, []) else bif decide ((Rgg.opF K bags).length = 32) && decide (0 ≤ (↑(Rgg.rdV (Rgg.rd K s)) : Int)) && decide ((↑(Rgg.rdV (Rgg.rd K s)) : Int) < 32) then bif decide ((↑(Rgg.rdV (Rgg.rd K p)) : Int) < (↑32 : Int)) then oM (Rgg.tr (Rgg.opF K bags) (↑(Rgg.rdV (Rgg.rd K s)) : Int).toNat)[(↑(Rgg.rdV (Rgg.rd K p)) : Int).toNat]? fun x => bif x then some (vi 14, []) else some (vi 0, []) else none else none else none else bif Rgg.opE K bags != 0 then some (vi (Rgg.opE K bags), []) else bif decide (1 ≤ K) && decide (K ≤ 5) then bif Rgg.rdE (Rgg.rd K p) != 0 then some (vi (Rgg.rdE (Rgg.rd K p)), []) else bif IntKind.i64.wrap (↑(BitVec.ofInt 64 (↑(Rgg.rdV (Rgg.rd K p)) : Int) &&& ~~~BitVec.ofInt 64 0).toNat : Int) != 0 then some (vi 14, []) else none else none) := by kernel_rfl
def c24t (K : Int) (bags : List ByteArray) (s p : ByteArray) : Tree (AV × Hp) := .leaf (vi (Rgg.pvE K bags s p), [])
def c24 (args : List AV) (H : Hp) : Tree (AV × Hp) := match args, H with
  | [(.sc (.int .i64 K)), (.sl .str bags false), (.sc (.string s)), (.sc (.string p))], [] => c24t K bags s p
  | _, _ => .fail
theorem c24_ok {T : Tab} (hT : TabOK T) (h : ∀ (K : Int) (bags : List ByteArray) (s p : ByteArray) (r : AV × Hp), (c24t K bags s p).val = some r → evBody T 24 [vi K, lS bags, vS s, vS p] [] = some r) : ∀ args H v H', (c24 args H).val = some (v, H') → CallOK T 24 args H v H' := by
  intro args H v H' hv
  unfold c24 at hv
  split at hv
  · exact evBody_sound hT (h _ _ _ _ _ hv)
  · cases hv
end Go.Ev.Rag
namespace Rgg
open Go
theorem mx_sz : ∀ (l : List ByteArray) (m : ByteArray), (∀ x ∈ l, x.size ≤ 100000) → m.size ≤ 100000 → (l.foldl mxP m).size ≤ 100000
  | [], m, _, h => h
  | x :: l, m, hl, h => by
    refine mx_sz l _ (fun y hy => hl y (List.mem_cons_of_mem _ hy)) ?_
    unfold mxP
    cases decide (m.size < x.size) with
    | true => exact hl x (by simp)
    | false => exact h
end Rgg
namespace Go.Ev.Rag
open Go Go.Ev Go.Proofs
set_option maxRecDepth 1000000
set_option linter.unusedVariables false
set_option linter.unusedSimpArgs false
theorem c17_run : ∀ args H v H', (c17 args H).val = some (v, H') → CallOK R3 17 args H v H' := c17_ok R3_ok (by
  intro K bags r hv
  refine (nf17 ..).trans ?_
  rw [leaf_val hv]
  unfold Rgg.apL
  cases h : Rgg.opE K bags == 0 with
  | true =>
    obtain ⟨k1, k5, _⟩ := Rgg.opE_zero h
    rw [beq_iff_eq.1 h, Rgg.opF_fam, decide_eq_true k1, decide_eq_true k5]; rfl
  | false => rw [bne, h]; rfl)
theorem c66_run : ∀ args H v H', (c66 args H).val = some (v, H') → CallOK R3 66 args H v H' := c66_ok R3_ok (by
  intro a b r hv
  obtain ⟨hl, hv2⟩ := guard_val hv
  simp only [Bool.and_eq_true, decide_eq_true_eq] at hl
  rw [nf66, leaf_val hv2, wrapi (by omega) (by omega)])
theorem P1_ok : TabOK P1 := by
  have h := R3_ok
  have h := h.addCall (g := 17) (r := c17) fun a H v H' hv => by refine CallOK.tab ?_ ?_ (c17_run a H v H' hv) <;> rfl
  have h := h.addCall (g := 66) (r := c66) fun a H v H' hv => by refine CallOK.tab ?_ ?_ (c66_run a H v H' hv) <;> rfl
  exact h
theorem l65_5_run : ∀ base kv H o kv' H', (l65_5 base kv H).val = some (o, kv', H') → LoopOK P1 65 5 base kv H o kv' H' := l65_5_ok P1_ok (by kernel_rfl) (by
  intro l m r hv
  obtain ⟨hl, hv2⟩ := guard_val hv
  simp only [Bool.and_eq_true, decide_eq_true_eq] at hl
  obtain ⟨⟨⟨hsm, hsz⟩, hm⟩, hne⟩ := hl
  have hsm := sm_le hsm
  have hpos : 1 ≤ l.length := by
    cases l with
    | nil => cases hne
    | cons _ _ => simp
  have hd : (l.drop 1).length = l.length - 1 := List.length_drop
  obtain ⟨mm, hmm⟩ := steps_of (T := P1) (fid := 65) (lid := 5) (base := 0) (c := lpc P1 65 5) (l.length - 1) (fun i => [lS l, fn66, vS (((l.drop 1).take i).foldl Rgg.mxP m), vi ((i + 1 : Nat) : Int)]) (fun _ => [])
    (.ext 0, [lS l, fn66, vS ((l.drop 1).foldl Rgg.mxP m), vi l.length], [])
    (fun i hi again => by
      refine (nl65 ..).trans ?_
      have hx := List.getElem?_eq_getElem (l := l) (i := i + 1) (by omega)
      have hx2 : (l.drop 1)[i]? = some l[i + 1] := by rw [List.getElem?_drop, Nat.add_comm 1 i]; exact hx
      generalize l[i + 1]'(by omega) = x at hx hx2
      have hxs := Rgg.szs_get hsz (List.mem_of_getElem? hx)
      have hms := Rgg.mx_sz ((l.drop 1).take i) m (fun y hy => Rgg.szs_get hsz (List.mem_of_mem_drop (List.mem_of_mem_take hy))) hm
      rw [List.take_add_one, hx2, wrap_succ (by omega)]
      simp only [dec_lt (show i + 1 < l.length by omega), dec_ge, cond_true, toNat_cast, hx, oM, decide_eq_true hxs, decide_eq_true hms, Bool.and_self, Option.toList, List.foldl_append, List.foldl_cons, List.foldl_nil]
      generalize ((l.drop 1).take i).foldl Rgg.mxP m = q at hms ⊢
      unfold Rgg.mxP
      by_cases h : q.size < x.size
      · rw [decide_eq_true h, decide_eq_true (show (x.size : Int) - (q.size : Int) > 0 by omega)]; rfl
      · rw [decide_eq_false h, decide_eq_false (show ¬ (x.size : Int) - (q.size : Int) > 0 by omega)]; rfl)
    (fun again => by
      refine (nl65 ..).trans ?_
      rw [show l.length - 1 + 1 = l.length by omega, List.take_of_length_le (by omega)]
      simp only [dec_ll, cond_false])
  exact ⟨mm, hmm.trans (by rw [leaf_val hv2])⟩)
theorem P2_ok : TabOK P2 := by
  have h := P1_ok
  have h := h.addLoop (g := 65) (lid := 5) (r := l65_5) fun b k H o k' H' hv => by refine LoopOK.tab ?_ ?_ ?_ ?_ (l65_5_run b k H o k' H' hv) <;> rfl
  exact h
theorem c65_run : ∀ args H v H', (c65 args H).val = some (v, H') → CallOK P2 65 args H v H' := c65_ok P2_ok (by
  intro l r hv
  obtain ⟨hl, hv2⟩ := guard_val hv
  simp only [Bool.and_eq_true] at hl
  obtain ⟨⟨hsm, hsz⟩, hne⟩ := hl
  refine (nf65 ..).trans ?_
  cases l with
  | nil => cases hne
  | cons x t =>
    have hx := Rgg.szs_get hsz (x := x) (by simp)
    rw [decide_eq_false (show ¬ (((x :: t).length : Nat) : Int) < 1 by simp; omega), decide_eq_true (show (0 : Int) < (((x :: t).length : Nat) : Int) by simp), hsm, hsz, leaf_val hv2]
    simp only [List.getElem?_cons_zero, oM, decide_eq_true hx]
    rfl)
theorem P3_ok : TabOK P3 := by
  have h := P1_ok
  have h := h.addCall (g := 65) (r := c65) fun a H v H' hv => by refine CallOK.tab ?_ ?_ (c65_run a H v H' hv) <;> rfl
  exact h
theorem c24_run : ∀ args H v H', (c24 args H).val = some (v, H') → CallOK P3 24 args H v H' := c24_ok P3_ok (by
  intro K bags s p r hv
  refine (nf24 ..).trans ?_
  rw [leaf_val hv]
  unfold Rgg.pvE Rgg.meE
  cases h : Rgg.opE K bags == 0 with
  | false =>
    have hb : (Rgg.opE K bags != 0) = true := by rw [bne, h]; rfl
    simp only [hb, cond_true, cond_false, h]
  | true =>
    obtain ⟨k1, k5, _⟩ := Rgg.opE_zero h
    have hlt := Rgg.rdV_lt (K := K) k5 s
    have hlp := Rgg.rdV_lt (K := K) k5 p
    have hb : (Rgg.opE K bags != 0) = false := by rw [bne, h]; rfl
    rw [hb, cond_false, cond_true, bne, bne]
    cases he : Rgg.rdE (Rgg.rd K s) == 0 with
    | false => simp only [Bool.not_false, cond_true, cond_false, he]
    | true =>
      rw [Rgg.dif64 _ hlp _ hlt]
      simp only [Bool.not_true, cond_false, cond_true, he, decide_eq_true k1, decide_eq_true k5, Bool.and_self]
      cases hp : Rgg.rdE (Rgg.rd K p) == 0 with
      | false => rfl
      | true =>
        have htl := Rgg.tr_len (Rgg.opF K bags) (Rgg.rdV (Rgg.rd K s))
        simp only [Bool.not_true, cond_false, cond_true, Rgg.opF_fam, decide_true, dec_ge, decide_eq_true (show ((Rgg.rdV (Rgg.rd K s) : Nat) : Int) < 32 by omega), Bool.and_self, toNat_cast, Rgg.at_get (show Rgg.rdV (Rgg.rd K p) < (Rgg.tr (Rgg.opF K bags) (Rgg.rdV (Rgg.rd K s))).length by omega), oM]
        rw [decide_eq_true (show ((Rgg.rdV (Rgg.rd K p) : Nat) : Int) < 32 by omega)]
        unfold Rgg.dif
        rw [show ((((Rgg.rdV (Rgg.rd K p) &&& (31 ^^^ Rgg.rdV (Rgg.rd K s)) : Nat) : Int)) != 0) = (Rgg.rdV (Rgg.rd K p) &&& (31 ^^^ Rgg.rdV (Rgg.rd K s)) != 0) by
          rw [Bool.eq_iff_iff, bne_iff_ne, bne_iff_ne]; omega]
        cases Rgg.rdV (Rgg.rd K p) &&& (31 ^^^ Rgg.rdV (Rgg.rd K s)) != 0 <;> cases Rgg.at_ (Rgg.tr (Rgg.opF K bags) (Rgg.rdV (Rgg.rd K s))) (Rgg.rdV (Rgg.rd K p)) <;> rfl)
end Go.Ev.Rag
