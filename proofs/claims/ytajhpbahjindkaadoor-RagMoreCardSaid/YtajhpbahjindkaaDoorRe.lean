/- Bags are read; Tidy, Rest, Traces, Check: tables and normal forms. -/
import Derived.Test.YtajhpbahjindkaaDoorRc
import Derived.Test.YtajhpbahjindkaaDoorEvF
set_option linter.unusedVariables false
set_option linter.unusedSimpArgs false
namespace Rgg
open Go
def opErr (K : Int) (_ : Nat) (l : List Bool) (s : ByteArray) : Int := bif rdE (rd K s) != 0 then rdE (rd K s) else bif at_ l (rdV (rd K s)) then 6 else 0
def opSt (K : Int) (_ : Nat) (l : List Bool) (s : ByteArray) : List Bool := l.set (rdV (rd K s)) true
def opX (K : Int) (bags : List ByteArray) : Sum (Int × Nat × List Bool) (List Bool) := Erx.errX (opErr K) (opSt K) bags (List.replicate 32 false)
def opE (K : Int) (bags : List ByteArray) : Int := bif decide (K < 1) || decide (5 < K) then 1 else bif decide (32 < bags.length) then 3 else Erx.errE (opX K bags)
def opF (K : Int) (bags : List ByteArray) : List Bool := Erx.errS (opX K bags)
def meE (K : Int) (bags : List ByteArray) (s : ByteArray) : Int := bif opE K bags != 0 then opE K bags else rdE (rd K s)
end Rgg
namespace Go.Ev.Rag
open Go Go.Ev
set_option maxRecDepth 1000000
set_option maxHeartbeats 0
set_option linter.unusedVariables false
abbrev lS (l : List ByteArray) : AV := .sl .str l false
abbrev nP : AV := .sc (.pointer none)
theorem nl59 (again : Ag) (K q i : Int) (bags : List ByteArray) (l : List Bool) : lpStep T8 59 7 0 (lpc T8 59 7) again [vi K, nP, vi 0, ps 0, lS bags, vi q, vi i] [some (rF K l)] = (bif decide (i < q) then bif decide (0 ≤ i) then bif decide (i < (↑bags.length : Int)) then oM bags[i.toNat]? fun x => bif decide (1 ≤ K) && decide (K ≤ 5) then bif Rgg.rdE (Rgg.rd K x) != 0 then some (.ret, [vi K, .sc (.pointer none), vi (Rgg.rdE (Rgg.rd K x)), .ps 0 0 0 0, .sl .str bags false, vi q, vi i], [some ⟨[vi K, .run .bool l], true, 89, false, false, none⟩]) else bif decide ((↑(Rgg.rdV (Rgg.rd K x)) : Int) < (↑32 : Int)) then oM l[(↑(Rgg.rdV (Rgg.rd K x)) : Int).toNat]? fun x_1 => bif x_1 then some (.ret, [vi K, .sc (.pointer none), vi 6, .ps 0 0 0 0, .sl .str bags false, vi q, vi i], [some ⟨[vi K, .run .bool l], true, 89, false, false, none⟩]) else bif decide ((↑(Rgg.rdV (Rgg.rd K x)) : Int) < (↑32 : Int)) then oM l[(↑(Rgg.rdV (Rgg.rd K x)) : Int).toNat]? fun x_2 => again [vi K, .sc (.pointer none), vi 0, .ps 0 0 0 0, .sl .str bags false, vi q, vi (IntKind.i64.wrap (i + 1))] [some ⟨[vi K, .run .bool (l.set (↑(Rgg.rdV (Rgg.rd K x)) : Int).toNat true)], true, 89, false, false, none⟩] else none else none else none else none else none else some (.ext 1, [vi K, .sc (.pointer none), vi 0, .ps 0 0 0 0, .sl .str bags false, vi q, vi i], [some ⟨[vi K, .run .bool l], true, 89, false, false, none⟩])) := by kernel_rfl
def l59_7t (K K2 q : Int) (bags : List ByteArray) (l : List Bool) : Tree (Out × List AV × Hp) := .br (decide (K2 = K) && decide (1 ≤ K) && decide (K ≤ 5) && decide (q = (bags.length : Int)) && sm bags && decide (l = List.replicate 32 false)) (.br (Erx.errE (Rgg.opX K bags) == 0) (.leaf (.ext 1, [vi K, nP, vi 0, ps 0, lS bags, vi bags.length, vi bags.length], [some (rF K (Rgg.opF K bags))])) (.leaf (.ret, [vi K, nP, vi (Erx.errE (Rgg.opX K bags)), ps 0, lS bags, vi bags.length, vi (Erx.errI 0 (Rgg.opX K bags))], [some (rF K (Rgg.opF K bags))]))) .fail
def l59_7 (base : Nat) (kv : List AV) (H : Hp) : Tree (Out × List AV × Hp) := match Nat.beq base 0, kv, H with
  | true, [(.sc (.int .i64 K)), (.sc (.pointer none)), (.sc (.int .i64 0)), (.ps 0 0 0 0), (.sl .str bags false), (.sc (.int .i64 q)), (.sc (.int .i64 0))], [some ⟨[.sc (.int .i64 K2), .run .bool l], true, 89, false, false, none⟩] => l59_7t K K2 q bags l
  | _, _, _ => .fail
theorem l59_7_ok {T : Tab} (hT : TabOK T) (hlo : loopOf T.fn 59 7 = some (lpc T 59 7)) (h : ∀ (K K2 q : Int) (bags : List ByteArray) (l : List Bool) (r : Out × List AV × Hp), (l59_7t K K2 q bags l).val = some r → ∃ mm, lpRun T 59 7 0 (lpc T 59 7) mm [vi K, nP, vi 0, ps 0, lS bags, vi q, vi 0] [some (rF K2 l)] = some r) : ∀ base kv H o kv' H', (l59_7 base kv H).val = some (o, kv', H') → LoopOK T 59 7 base kv H o kv' H' := by
  intro base kv H o kv' H' hv
  unfold l59_7 at hv
  split at hv
  · rename_i hb
    obtain rfl := Nat.eq_of_beq_eq_true hb
    exact loop_ok hT hlo (h _ _ _ _ _ _ hv)
  · cases hv
noncomputable def R1 : Tab := (T8).addLoop 59 7 l59_7
theorem nf59 (K : Int) (bags : List ByteArray) : evBody R1 59 [vi K, lS bags] [] = (bif decide (K < 1) then some (.tuple [.sc (.pointer none), vi 1], []) else bif decide (K > 5) then some (.tuple [.sc (.pointer none), vi 1], []) else bif decide ((↑bags.length : Int) > 32) then some (.tuple [.sc (.pointer none), vi 3], []) else bif decide (K = K) && decide (1 ≤ K) && decide (K ≤ 5) && decide ((↑bags.length : Int) = (↑bags.length : Int)) && sm bags && decide (List.replicate 32 false = List.replicate 32 false) then bif Erx.errE (Rgg.opX K bags) == 0 then some (.tuple [.ps 0 0 0 0, vi 0], [some ⟨[vi K, .run .bool (Rgg.opF K bags)], true, 89, false, false, none⟩]) else some (.tuple [.sc (.pointer none), vi (Erx.errE (Rgg.opX K bags))], []) else none) := by kernel_rfl
def c59t (K : Int) (bags : List ByteArray) : Tree (AV × Hp) := .br (Rgg.opE K bags == 0) (.leaf (.tuple [ps 0, vi 0], [some (rF K (Rgg.opF K bags))])) (.leaf (.tuple [nP, vi (Rgg.opE K bags)], []))
def c59 (args : List AV) (H : Hp) : Tree (AV × Hp) := match args, H with
  | [(.sc (.int .i64 K)), (.sl .str bags false)], [] => c59t K bags
  | _, _ => .fail
theorem c59_ok {T : Tab} (hT : TabOK T) (h : ∀ (K : Int) (bags : List ByteArray) (r : AV × Hp), (c59t K bags).val = some r → evBody T 59 [vi K, lS bags] [] = some r) : ∀ args H v H', (c59 args H).val = some (v, H') → CallOK T 59 args H v H' := by
  intro args H v H' hv
  unfold c59 at hv
  split at hv
  · exact evBody_sound hT (h _ _ _ hv)
  · cases hv
theorem nf80 (K : Int) (l : List Bool) : evBody T8 80 [fP K l] [] = (bif decide (l.length = 32) && decide (1 ≤ K) && decide (K ≤ 5) then some (.os 0 0 0 (Rgg.wrt K fun n => Rgg.at_ l n).length true false true, [some ⟨[.run .str (Rgg.wrt K fun n => Rgg.at_ l n)], false, Rgg.tyS (Rgg.wrt K fun n => Rgg.at_ l n), false, false, none⟩]) else none) := by kernel_rfl
def c80t (K : Int) (l : List Bool) : Tree (AV × Hp) := .br (fam l && decide (1 ≤ K) && decide (K ≤ 5)) (.leaf (osW 0 (Rgg.wrt K (fun n => Rgg.at_ l n)).length, [some (rS (Rgg.wrt K (fun n => Rgg.at_ l n)))])) .fail
def c80 (args : List AV) (H : Hp) : Tree (AV × Hp) := match args, H with
  | [(.pt [.sc (.int .i64 K), .run .bool l] (some 89) 0 0 0)], [] => c80t K l
  | _, _ => .fail
theorem c80_ok {T : Tab} (hT : TabOK T) (h : ∀ (K : Int) (l : List Bool) (r : AV × Hp), (c80t K l).val = some r → evBody T 80 [fP K l] [] = some r) : ∀ args H v H', (c80 args H).val = some (v, H') → CallOK T 80 args H v H' := by
  intro args H v H' hv
  unfold c80 at hv
  split at hv
  · exact evBody_sound hT (h _ _ _ hv)
  · cases hv
noncomputable def R2 : Tab := ((T8).addCall 59 c59).addCall 80 c80
theorem nf67 (K : Int) (bags : List ByteArray) (s : ByteArray) : evBody R2 67 [vi K, lS bags, vS s] [] = (bif Rgg.opE K bags == 0 then bif decide (1 ≤ K) && decide (K ≤ 5) then some (.tuple [.ps 0 0 0 0, vi (↑(Rgg.rdV (Rgg.rd K s)) : Int), vi (Rgg.rdE (Rgg.rd K s))], [some ⟨[vi K, .run .bool (Rgg.opF K bags)], true, 89, false, false, none⟩]) else none else bif Rgg.opE K bags != 0 then some (.tuple [.sc (.pointer none), vi 0, vi (Rgg.opE K bags)], []) else bif decide (1 ≤ K) && decide (K ≤ 5) then some (.tuple [.sc (.pointer none), vi (↑(Rgg.rdV (Rgg.rd K s)) : Int), vi (Rgg.rdE (Rgg.rd K s))], []) else none) := by kernel_rfl
def c67t (K : Int) (bags : List ByteArray) (s : ByteArray) : Tree (AV × Hp) := .br (Rgg.opE K bags == 0) (.leaf (.tuple [ps 0, vi (Rgg.rdV (Rgg.rd K s) : Nat), vi (Rgg.rdE (Rgg.rd K s))], [some (rF K (Rgg.opF K bags))])) (.leaf (.tuple [nP, vi 0, vi (Rgg.opE K bags)], []))
def c67 (args : List AV) (H : Hp) : Tree (AV × Hp) := match args, H with
  | [(.sc (.int .i64 K)), (.sl .str bags false), (.sc (.string s))], [] => c67t K bags s
  | _, _ => .fail
theorem c67_ok {T : Tab} (hT : TabOK T) (h : ∀ (K : Int) (bags : List ByteArray) (s : ByteArray) (r : AV × Hp), (c67t K bags s).val = some r → evBody T 67 [vi K, lS bags, vS s] [] = some r) : ∀ args H v H', (c67 args H).val = some (v, H') → CallOK T 67 args H v H' := by
  intro args H v H' hv
  unfold c67 at hv
  split at hv
  · exact evBody_sound hT (h _ _ _ _ hv)
  · cases hv
noncomputable def R3 : Tab := (R2).addCall 67 c67
def _root_.Rgg.tdL (K : Int) (bags : List ByteArray) : List ByteArray := bif Rgg.opE K bags == 0 then Rgg.wrt K (fun n => Rgg.at_ (Rgg.opF K bags) n) else []
def _root_.Rgg.reL (K : Int) (bags : List ByteArray) : List ByteArray := bif Rgg.opE K bags == 0 then Rgg.wrt K (fun n => !Rgg.at_ (Rgg.opF K bags) n) else []
def _root_.Rgg.tcL (K : Int) (bags : List ByteArray) (s : ByteArray) : List ByteArray := bif Rgg.meE K bags s == 0 then Rgg.wrt K (fun n => Rgg.at_ (Rgg.tr (Rgg.opF K bags) (Rgg.rdV (Rgg.rd K s))) n) else []
def c45t (K : Int) (bags : List ByteArray) : Tree (AV × Hp) := .leaf (vi (Rgg.opE K bags), [])
def c45 (args : List AV) (H : Hp) : Tree (AV × Hp) := match args, H with
  | [(.sc (.int .i64 K)), (.sl .str bags false)], [] => c45t K bags
  | _, _ => .fail
def c40t (K : Int) (bags : List ByteArray) : Tree (AV × Hp) := .leaf (.tuple [osW 0 (Rgg.tdL K bags).length, vi (Rgg.opE K bags)], [some (rS (Rgg.tdL K bags))])
def c40 (args : List AV) (H : Hp) : Tree (AV × Hp) := match args, H with
  | [(.sc (.int .i64 K)), (.sl .str bags false)], [] => c40t K bags
  | _, _ => .fail
def c42t (K : Int) (bags : List ByteArray) : Tree (AV × Hp) := .leaf (.tuple [osW 0 (Rgg.reL K bags).length, vi (Rgg.opE K bags)], [some (rS (Rgg.reL K bags))])
def c42 (args : List AV) (H : Hp) : Tree (AV × Hp) := match args, H with
  | [(.sc (.int .i64 K)), (.sl .str bags false)], [] => c42t K bags
  | _, _ => .fail
def c37t (K : Int) (bags : List ByteArray) (s : ByteArray) : Tree (AV × Hp) := .leaf (.tuple [osW 0 (Rgg.tcL K bags s).length, vi (Rgg.meE K bags s)], [some (rS (Rgg.tcL K bags s))])
def c37 (args : List AV) (H : Hp) : Tree (AV × Hp) := match args, H with
  | [(.sc (.int .i64 K)), (.sl .str bags false), (.sc (.string s))], [] => c37t K bags s
  | _, _ => .fail
noncomputable def R4 : Tab := ((((R3).addCall 45 c45).addCall 40 c40).addCall 42 c42).addCall 37 c37
end Go.Ev.Rag
namespace Rgg
open Go
theorem rdS_lt {K : Int} (hK : K ≤ 5) : ∀ (l : List UInt8) (last : Int) (out n : Nat), out < 32 → rdS K l last out = .inr n → n < 32
  | [], _, out, n, h, e => by cases e; exact h
  | c :: l, last, out, n, h, e => by
    unfold rdS at e
    cases h1 : decide ((c.toNat : Int) - 97 < 0) || decide (K ≤ (c.toNat : Int) - 97) with
    | true => rw [h1] at e; cases e
    | false =>
      rw [h1, cond_false] at e
      cases h2 : decide ((c.toNat : Int) - 97 ≤ last) with
      | true => rw [h2] at e; cases e
      | false =>
        rw [h2, cond_false] at e
        rw [Bool.or_eq_false_iff, decide_eq_false_iff_not, decide_eq_false_iff_not] at h1
        exact rdS_lt hK l _ _ n (Nat.or_lt_two_pow (n := 5) h (Nat.pow_lt_pow_right (by decide) (by omega))) e
theorem rdV_lt {K : Int} (hK : K ≤ 5) (s : ByteArray) : rdV (rd K s) < 32 := by
  unfold rdV
  split
  · omega
  · rename_i n h
    exact rdS_lt hK _ _ _ n (by omega) h
theorem opX_len {K : Int} (bags : List ByteArray) : (Erx.errS (opX K bags)).length = 32 := by
  have main : ∀ (l : List ByteArray) (i : Nat) (s : List Bool), s.length = 32 → (Erx.errS (Ev.foldX (fun i s p => bif opErr K i s p == 0 then .inr (opSt K i s p) else .inl (opErr K i s p, i, s)) i l s)).length = 32 := by
    intro l
    induction l with
    | nil => intro i s h; exact h
    | cons x l ih =>
      intro i s h
      simp only [Ev.foldX]
      cases opErr K i s x == 0 with
      | true => exact ih (i + 1) _ (by unfold opSt; rw [List.length_set, h])
      | false => exact h
  exact main bags 0 _ List.length_replicate
theorem opF_fam (K : Int) (bags : List ByteArray) : (opF K bags).length = 32 := opX_len bags
theorem opE_zero {K : Int} {bags : List ByteArray} (h : (opE K bags == 0) = true) : 1 ≤ K ∧ K ≤ 5 ∧ bags.length ≤ 32 ∧ Erx.errE (opX K bags) = 0 := by
  have h := beq_iff_eq.1 h
  unfold opE at h
  cases h1 : decide (K < 1) || decide (5 < K) with
  | true => rw [h1] at h; cases h
  | false =>
    rw [h1, cond_false] at h
    rw [Bool.or_eq_false_iff, decide_eq_false_iff_not, decide_eq_false_iff_not] at h1
    cases h2 : decide (32 < bags.length) with
    | true => rw [h2] at h; cases h
    | false =>
      rw [h2, cond_false] at h
      have := of_decide_eq_false h2
      exact ⟨by omega, by omega, by omega, h⟩
end Rgg
namespace Go.Ev.Rag
open Go Go.Ev Go.Proofs
set_option maxRecDepth 1000000
set_option linter.unusedVariables false
set_option linter.unusedSimpArgs false
theorem l59_7_run : ∀ base kv H o kv' H', (l59_7 base kv H).val = some (o, kv', H') → LoopOK T8 59 7 base kv H o kv' H' := l59_7_ok T8_ok (by kernel_rfl) (by
  intro K K2 q bags l r hv
  obtain ⟨hl, hv2⟩ := guard_val hv
  simp only [Bool.and_eq_true, decide_eq_true_eq] at hl
  obtain ⟨⟨⟨⟨⟨rfl, k1⟩, k5⟩, rfl⟩, hsm⟩, rfl⟩ := hl
  have hsm := sm_le hsm
  obtain ⟨mm, hm⟩ := err_of (T := T8) (fid := 59) (lid := 7) (base := 0) (c := lpc T8 59 7) bags (Rgg.opErr K2) (Rgg.opSt K2) (fun _ l => l.length = 32)
    (fun i l => [vi K2, nP, vi 0, ps 0, lS bags, vi bags.length, vi i]) (fun l => [some (rF K2 l)])
    (fun e i l => (.ret, [vi K2, nP, vi e, ps 0, lS bags, vi bags.length, vi i], [some (rF K2 l)])) (fun l => (.ext 1, [vi K2, nP, vi 0, ps 0, lS bags, vi bags.length, vi bags.length], [some (rF K2 l)]))
    (fun i x l hx hlt hI again => by
      have hlt2 := Rgg.rdV_lt (K := K2) k5 x
      refine (nl59 ..).trans ?_
      simp only [dec_lt hlt, dec_ge, cond_true, toNat_cast, hx, oM, decide_eq_true k1, decide_eq_true k5, Bool.and_self, decide_eq_true (show ((Rgg.rdV (Rgg.rd K2 x) : Nat) : Int) < ((32 : Nat) : Int) by omega), decide_eq_true (show ((Rgg.rdV (Rgg.rd K2 x) : Nat) : Int) < 32 by omega), Rgg.at_get (l := l) (i := Rgg.rdV (Rgg.rd K2 x)) (by omega)]
      rw [wrap_succ (by omega)]
      unfold Rgg.opErr Rgg.opSt
      cases he : Rgg.rdE (Rgg.rd K2 x) != 0 with
      | true =>
        simp only [cond_true]
        rw [show (Rgg.rdE (Rgg.rd K2 x) == 0) = false by rw [bne] at he; simpa using he]
        rfl
      | false => cases Rgg.at_ l (Rgg.rdV (Rgg.rd K2 x)) <;> rfl)
    (fun i x l hx hlt hI _ => by unfold Rgg.opSt; rw [List.length_set, hI])
    (fun l hI again => by
      refine (nl59 ..).trans ?_
      simp only [dec_ll, cond_false]) _ List.length_replicate
  refine ⟨mm, hm.trans ?_⟩
  unfold Rgg.opF at hv2
  rcases br_val hv2 with ⟨h, hv3⟩ | ⟨h, hv3⟩ <;> (rw [leaf_val hv3]; unfold Rgg.opX at h ⊢; rw [h]; rfl))
theorem R1_ok : TabOK R1 := by
  have h := T8_ok
  have h := h.addLoop (g := 59) (lid := 7) (r := l59_7) fun b k H o k' H' hv => by refine LoopOK.tab ?_ ?_ ?_ ?_ (l59_7_run b k H o k' H' hv) <;> rfl
  exact h
theorem c59_run : ∀ args H v H', (c59 args H).val = some (v, H') → CallOK R1 59 args H v H' := c59_ok R1_ok (by
  intro K bags r hv
  refine (nf59 ..).trans ?_
  unfold c59t Rgg.opE at hv
  by_cases h1 : K < 1
  · rw [decide_eq_true h1] at hv ⊢
    rw [leaf_val (show (Tree.leaf _).val = some r from hv)]; rfl
  · rw [decide_eq_false h1] at hv ⊢
    by_cases h2 : K > 5
    · rw [show decide (5 < K) = true from decide_eq_true h2] at hv
      rw [decide_eq_true h2, leaf_val (show (Tree.leaf _).val = some r from hv)]; rfl
    · rw [show decide (5 < K) = false from decide_eq_false h2] at hv
      rw [decide_eq_false h2]
      by_cases h3 : 32 < bags.length
      · rw [decide_eq_true h3] at hv
        rw [decide_eq_true (show (bags.length : Int) > 32 by omega), leaf_val (show (Tree.leaf _).val = some r from hv)]; rfl
      · rw [decide_eq_false h3] at hv
        rw [decide_eq_false (show ¬ (bags.length : Int) > 32 by omega), show sm bags = true from decide_eq_true (by omega), decide_eq_true (show 1 ≤ K by omega), decide_eq_true (show K ≤ 5 by omega)]
        simp only [cond_false, Bool.or_self] at hv ⊢
        simp only [decide_true, Bool.and_self, cond_true]
        rcases br_val hv with ⟨h, hv3⟩ | ⟨h, hv3⟩ <;> (rw [leaf_val hv3, h]; rfl))
theorem c80_run : ∀ args H v H', (c80 args H).val = some (v, H') → CallOK T8 80 args H v H' := c80_ok T8_ok (by
  intro K l r hv
  obtain ⟨hl, hv2⟩ := guard_val hv
  rw [nf80, leaf_val hv2]
  unfold fam at hl
  rw [hl]; rfl)
theorem R2_ok : TabOK R2 := by
  have h := T8_ok
  have h := h.addCall (g := 59) (r := c59) fun a H v H' hv => by refine CallOK.tab ?_ ?_ (c59_run a H v H' hv) <;> rfl
  exact h.addCall (g := 80) (r := c80) fun a H v H' hv => by refine CallOK.tab ?_ ?_ (c80_run a H v H' hv) <;> rfl
theorem c67_run : ∀ args H v H', (c67 args H).val = some (v, H') → CallOK R2 67 args H v H' := c67_ok R2_ok (by
  intro K bags s r hv
  refine (nf67 ..).trans ?_
  rcases br_val hv with ⟨h, hv3⟩ | ⟨h, hv3⟩
  · obtain ⟨k1, k5, _⟩ := Rgg.opE_zero h
    rw [leaf_val hv3, h, decide_eq_true k1, decide_eq_true k5]; rfl
  · rw [leaf_val hv3, bne, h]; rfl)
theorem R3_ok : TabOK R3 := by
  have h := R2_ok
  have h := h.addCall (g := 67) (r := c67) fun a H v H' hv => by refine CallOK.tab ?_ ?_ (c67_run a H v H' hv) <;> rfl
  exact h
end Go.Ev.Rag
