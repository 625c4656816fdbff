/- Sets told apart with the same rest: tables and normal forms. -/
import Derived.Test.YtajhpbahjindkaaDoorRk
import Derived.Test.YtajhpbahjindkaaDoorRl
import Derived.Test.YtajhpbahjindkaaDoorRm
set_option linter.unusedVariables false
set_option linter.unusedSimpArgs false
namespace Rgg
open Go
def woS (a b : ByteArray) : ByteArray := ⟨((bts a).filter fun c => !win b c).toArray⟩
end Rgg
namespace Go.Ev.Rag
open Go Go.Ev
set_option maxRecDepth 1000000
set_option maxHeartbeats 0
set_option linter.unusedVariables false
theorem nl100 (again : Ag) (a b out : ByteArray) (i : Int) : lpStep Q3 100 3 0 (lpc Q3 100 3) again [vS a, vS b, vS out, vi i] [] = (bif decide (i < (↑a.size : Int)) then bif decide (0 ≤ i) then oM a[i.toNat]? fun x => bif decide (b.size ≤ 100000) && decide (0 ≤ (↑x.toNat : Int)) && decide ((↑x.toNat : Int) < 256) then bif !Rgg.win b (UInt8.ofNat (↑x.toNat : Int).toNat) then bif decide (0 ≤ i) then bif decide (i ≤ IntKind.i64.wrap (i + 1)) then bif decide (IntKind.i64.wrap (i + 1) ≤ (↑a.size : Int)) then bif room (out.size + (a.extract ((some i.toNat).getD 0) ((some (IntKind.i64.wrap (i + 1)).toNat).getD a.size)).size) 1 then again [.sc (.string a), .sc (.string b), .sc (.string (out ++ a.extract ((some i.toNat).getD 0) ((some (IntKind.i64.wrap (i + 1)).toNat).getD a.size))), vi (IntKind.i64.wrap (i + 1))] [] else none else none else none else none else again [.sc (.string a), .sc (.string b), .sc (.string out), vi (IntKind.i64.wrap (i + 1))] [] else none else none else some (.ext 0, [.sc (.string a), .sc (.string b), .sc (.string out), vi i], [])) := by kernel_rfl
def l100_3t (a b e : ByteArray) : Tree (Out × List AV × Hp) := .br (decide (a.size ≤ 100000) && decide (b.size ≤ 100000) && decide (e.size = 0)) (.leaf (.ext 0, [vS a, vS b, vS (Rgg.woS a b), vi a.size], [])) .fail
def l100_3 (base : Nat) (kv : List AV) (H : Hp) : Tree (Out × List AV × Hp) := match Nat.beq base 0, kv, H with
  | true, [(.sc (.string a)), (.sc (.string b)), (.sc (.string e)), (.sc (.int .i64 0))], [] => l100_3t a b e
  | _, _, _ => .fail
theorem l100_3_ok {T : Tab} (hT : TabOK T) (hlo : loopOf T.fn 100 3 = some (lpc T 100 3)) (h : ∀ (a b e : ByteArray) (r : Out × List AV × Hp), (l100_3t a b e).val = some r → ∃ mm, lpRun T 100 3 0 (lpc T 100 3) mm [vS a, vS b, vS e, vi 0] [] = some r) : ∀ base kv H o kv' H', (l100_3 base kv H).val = some (o, kv', H') → LoopOK T 100 3 base kv H o kv' H' := by
  intro base kv H o kv' H' hv
  unfold l100_3 at hv
  split at hv
  · rename_i hb
    obtain rfl := Nat.eq_of_beq_eq_true hb
    exact loop_ok hT hlo (h _ _ _ _ hv)
  · cases hv
noncomputable def B2 : Tab := (Q3).addLoop 100 3 l100_3
theorem nf100 (a b : ByteArray) : evBody B2 100 [vS a, vS b] [] = (bif decide (a.size ≤ 100000) && decide (b.size ≤ 100000) && decide (0 = 0) then some (.sc (.string (Rgg.woS a b)), []) else none) := by kernel_rfl
def c100t (a b : ByteArray) : Tree (AV × Hp) := .br (decide (a.size ≤ 100000) && decide (b.size ≤ 100000)) (.leaf (vS (Rgg.woS a b), [])) .fail
def c100 (args : List AV) (H : Hp) : Tree (AV × Hp) := match args, H with
  | [(.sc (.string a)), (.sc (.string b))], [] => c100t a b
  | _, _ => .fail
theorem c100_ok {T : Tab} (hT : TabOK T) (h : ∀ (a b : ByteArray) (r : AV × Hp), (c100t a b).val = some r → evBody T 100 [vS a, vS b] [] = some r) : ∀ args H v H', (c100 args H).val = some (v, H') → CallOK T 100 args H v H' := by
  intro args H v H' hv
  unfold c100 at hv
  split at hv
  · exact evBody_sound hT (h _ _ _ hv)
  · cases hv
noncomputable def B3 : Tab := (U1).addCall 100 c100
end Go.Ev.Rag
namespace Rgg
open Go
def woT (a b : ByteArray) (i : Nat) : ByteArray := ⟨(((bts a).take i).filter fun c => !win b c).toArray⟩
theorem woT_size (a b : ByteArray) (i : Nat) : (woT a b i).size ≤ i := by
  show (((bts a).take i).filter fun c => !win b c).toArray.size ≤ i
  rw [List.size_toArray]
  exact Nat.le_trans (List.length_filter_le _ _) (by rw [List.length_take]; omega)
theorem woT_end (a b : ByteArray) : woT a b a.size = woS a b := by
  unfold woT woS
  rw [List.take_of_length_le (by rw [bts_len]; exact Nat.le_refl _)]
theorem woT_succ {a b : ByteArray} {i : Nat} {x : UInt8} (hx : (bts a)[i]? = some x) : woT a b (i + 1) = bif !win b x then woT a b i ++ a.extract i (i + 1) else woT a b i := by
  unfold woT
  rw [List.take_add_one, hx, List.filter_append]
  cases h : win b x with
  | false => rw [Bool.not_false, cond_true, ba_app _ a i x hx]; simp [h]
  | true => simp [h]
end Rgg
namespace Go.Ev.Rag
open Go Go.Ev Go.Proofs
set_option maxRecDepth 1000000
set_option linter.unusedVariables false
set_option linter.unusedSimpArgs false
theorem l100_3_run : ∀ base kv H o kv' H', (l100_3 base kv H).val = some (o, kv', H') → LoopOK Q3 100 3 base kv H o kv' H' := l100_3_ok Q3_ok (by kernel_rfl) (by
  intro a b e r hv
  obtain ⟨hl, hv2⟩ := guard_val hv
  simp only [Bool.and_eq_true, decide_eq_true_eq] at hl
  obtain ⟨⟨ha, hb⟩, he⟩ := hl
  have hlen := Rgg.bts_len a
  have he0 : e = Rgg.woT a b 0 := by
    apply ByteArray.ext
    exact (Array.eq_empty_of_size_eq_zero he).trans rfl
  subst he0
  obtain ⟨mm, hm⟩ := steps_of (T := Q3) (fid := 100) (lid := 3) (base := 0) (c := lpc Q3 100 3) a.size (fun i => [vS a, vS b, vS (Rgg.woT a b i), vi (i : Nat)]) (fun _ => [])
    (.ext 0, [vS a, vS b, vS (Rgg.woS a b), vi a.size], [])
    (fun i hi again => by
      refine (nl100 ..).trans ?_
      have hx : (Rgg.bts a)[i]? = some ((Rgg.bts a).getD i 0) := by
        rw [List.getD_eq_getElem?_getD, List.getElem?_eq_getElem (by omega)]; rfl
      generalize (Rgg.bts a).getD i 0 = x at hx
      have hb8 : x.toNat < 256 := UInt8.toNat_lt x
      have hsz := Rgg.woT_size a b i
      have hex : (a.extract i (i + 1)).size ≤ 1 := by
        show (a.extract i (i + 1)).data.size ≤ 1
        rw [ByteArray.data_extract, Array.size_extract]; omega
      rw [Rgg.woT_succ hx, wrap_succ (by omega)]
      simp only [dec_lt hi, dec_ge, cond_true, toNat_cast, Rgg.ba_get, hx, oM, decide_eq_true hb, decide_eq_true (show (x.toNat : Int) < 256 by omega), Bool.and_self, UInt8.ofNat_toNat, Option.getD_some]
      rw [decide_eq_true (show (i : Int) ≤ ((i + 1 : Nat) : Int) by omega), decide_eq_true (show ((i + 1 : Nat) : Int) ≤ (a.size : Int) by omega)]
      simp only [cond_true]
      rw [room_ok (n := (Rgg.woT a b i).size + (a.extract i (i + 1)).size) (b := 1) (by omega) (by omega)]
      cases Rgg.win b x <;> rfl)
    (fun again => by
      refine (nl100 ..).trans ?_
      simp only [dec_ll, cond_false, Rgg.woT_end])
  exact ⟨mm, hm.trans (by rw [leaf_val hv2])⟩)
theorem B2_ok : TabOK B2 := by
  have h := Q3_ok
  have h := h.addLoop (g := 100) (lid := 3) (r := l100_3) fun b k H o k' H' hv => by refine LoopOK.tab ?_ ?_ ?_ ?_ (l100_3_run b k H o k' H' hv) <;> rfl
  exact h
theorem c100_run : ∀ args H v H', (c100 args H).val = some (v, H') → CallOK B2 100 args H v H' := c100_ok B2_ok (by
  intro a b r hv
  obtain ⟨hl, hv2⟩ := guard_val hv
  refine (nf100 ..).trans ?_
  rw [hl, leaf_val hv2]; rfl)
theorem B3_ok : TabOK B3 := by
  have h := U1_ok
  have h := h.addCall (g := 100) (r := c100) fun a H v H' hv => by refine CallOK.tab ?_ ?_ (c100_run a H v H' hv) <;> rfl
  exact h
end Go.Ev.Rag
namespace Go.Ev.Rag
open Go Go.Ev Go.Proofs
set_option maxRecDepth 1000000
set_option linter.unusedVariables false
set_option linter.unusedSimpArgs false
end Go.Ev.Rag
