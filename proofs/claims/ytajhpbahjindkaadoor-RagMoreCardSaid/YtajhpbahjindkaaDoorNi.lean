/- The law RagPajor: tables and normal forms. -/
import Derived.Test.YtajhpbahjindkaaDoorNc
import Derived.Test.YtajhpbahjindkaaDoorRk
import Derived.Test.YtajhpbahjindkaaDoorRo
import Derived.Test.YtajhpbahjindkaaDoorRf
import Derived.Test.YtajhpbahjindkaaDoorRg
set_option linter.unusedVariables false
set_option linter.unusedSimpArgs false
namespace Rgg
open Go
def cu3 (n s r i : Nat) : Bool := (List.range i).all fun p => dif p s != 0 || n.testBit (p ||| r)
def cu2 (n q s i : Nat) : Bool := (List.range i).any fun r => r &&& s == 0 && cu3 n s r q
end Rgg
namespace Go.Ev.Rag
open Go Go.Ev
set_option maxRecDepth 1000000
set_option maxHeartbeats 0
set_option linter.unusedVariables false
theorem nl88 (again : Ag) (l : List ByteArray) (s : ByteArray) (q i : Int) : lpStep N0 88 2 0 (lpc N0 88 2) again [lS l, vS s, vi 0, vi q, vi i] [] = (bif decide (i < q) then bif decide (0 ≤ i) then bif decide (i < (↑l.length : Int)) then oM l[i.toNat]? fun x => bif s == x then some (.ret, [.sl .str l false, .sc (.string s), vi i, vi q, vi i], []) else again [.sl .str l false, .sc (.string s), vi 0, vi q, vi (IntKind.i64.wrap (i + 1))] [] else none else none else some (.ext 0, [.sl .str l false, .sc (.string s), vi 0, vi q, vi i], [])) := by kernel_rfl
def l88_2t (l : List ByteArray) (s : ByteArray) (q : Int) : Tree (Out × List AV × Hp) := .br (sm l && decide (q = (l.length : Int))) (.br (l.any fun x => s == x) (.leaf (.ret, [lS l, vS s, vi (l.findIdx fun x => s == x), vi l.length, vi (l.findIdx fun x => s == x)], [])) (.leaf (.ext 0, [lS l, vS s, vi 0, vi l.length, vi l.length], []))) .fail
def l88_2 (base : Nat) (kv : List AV) (H : Hp) : Tree (Out × List AV × Hp) := match Nat.beq base 0, kv, H with
  | true, [(.sl .str l false), (.sc (.string s)), (.sc (.int .i64 0)), (.sc (.int .i64 q)), (.sc (.int .i64 0))], [] => l88_2t l s q
  | _, _, _ => .fail
theorem l88_2_ok {T : Tab} (hT : TabOK T) (hlo : loopOf T.fn 88 2 = some (lpc T 88 2)) (h : ∀ (l : List ByteArray) (s : ByteArray) (q : Int) (r : Out × List AV × Hp), (l88_2t l s q).val = some r → ∃ mm, lpRun T 88 2 0 (lpc T 88 2) mm [lS l, vS s, vi 0, vi q, vi 0] [] = some r) : ∀ base kv H o kv' H', (l88_2 base kv H).val = some (o, kv', H') → LoopOK T 88 2 base kv H o kv' H' := by
  intro base kv H o kv' H' hv
  unfold l88_2 at hv
  split at hv
  · rename_i hb
    obtain rfl := Nat.eq_of_beq_eq_true hb
    exact loop_ok hT hlo (h _ _ _ _ hv)
  · cases hv
noncomputable def Na4 : Tab := (N0).addLoop 88 2 l88_2
theorem nf88 (l : List ByteArray) (s : ByteArray) : evBody Na4 88 [lS l, vS s] [] = (bif sm l && decide ((↑l.length : Int) = (↑l.length : Int)) then bif l.any fun x => s == x then some (vi (↑(List.findIdx (fun x => s == x) l) : Int), []) else some (vi (-1), []) else none) := by kernel_rfl
def c88t (l : List ByteArray) (s : ByteArray) : Tree (AV × Hp) := .br (sm l) (.br (l.any fun x => s == x) (.leaf (vi (l.findIdx fun x => s == x), [])) (.leaf (vi (-1), []))) .fail
def c88 (args : List AV) (H : Hp) : Tree (AV × Hp) := match args, H with
  | [(.sl .str l false), (.sc (.string s))], [] => c88t l s
  | _, _ => .fail
theorem c88_ok {T : Tab} (hT : TabOK T) (h : ∀ (l : List ByteArray) (s : ByteArray) (r : AV × Hp), (c88t l s).val = some r → evBody T 88 [lS l, vS s] [] = some r) : ∀ args H v H', (c88 args H).val = some (v, H') → CallOK T 88 args H v H' := by
  intro args H v H' hv
  unfold c88 at hv
  split at hv
  · exact evBody_sound hT (h _ _ _ hv)
  · cases hv
noncomputable def Na5 : Tab := (N0).addCall 88 c88
theorem nf54 (l : List ByteArray) (s : ByteArray) : evBody Na5 54 [lS l, vS s] [] = (bif sm l then bif l.any fun x => s == x then some (vb true, []) else some (vb false, []) else none) := by kernel_rfl
def c54t (l : List ByteArray) (s : ByteArray) : Tree (AV × Hp) := .br (sm l) (.leaf (vb (l.any fun x => s == x), [])) .fail
def c54 (args : List AV) (H : Hp) : Tree (AV × Hp) := match args, H with
  | [(.sl .str l false), (.sc (.string s))], [] => c54t l s
  | _, _ => .fail
theorem c54_ok {T : Tab} (hT : TabOK T) (h : ∀ (l : List ByteArray) (s : ByteArray) (r : AV × Hp), (c54t l s).val = some r → evBody T 54 [lS l, vS s] [] = some r) : ∀ args H v H', (c54 args H).val = some (v, H') → CallOK T 54 args H v H' := by
  intro args H v H' hv
  unfold c54 at hv
  split at hv
  · exact evBody_sound hT (h _ _ _ hv)
  · cases hv
end Go.Ev.Rag
namespace Rgg
open Go
end Rgg
namespace Go.Ev.Rag
open Go Go.Ev Go.Proofs
set_option maxRecDepth 1000000
set_option linter.unusedVariables false
set_option linter.unusedSimpArgs false
theorem l88_2_run : ∀ base kv H o kv' H', (l88_2 base kv H).val = some (o, kv', H') → LoopOK N0 88 2 base kv H o kv' H' := l88_2_ok N0_ok (by kernel_rfl) (by
  intro l s q r hv
  obtain ⟨hl, hv2⟩ := guard_val hv
  simp only [Bool.and_eq_true, decide_eq_true_eq] at hl
  obtain ⟨hsm, rfl⟩ := hl
  have hsm := sm_le hsm
  obtain ⟨mm, hm⟩ := found_of (T := N0) (fid := 88) (lid := 2) (base := 0) (c := lpc N0 88 2) l (fun x => s == x) (fun i => [lS l, vS s, vi 0, vi l.length, vi i]) []
    (fun i => (.ret, [lS l, vS s, vi i, vi l.length, vi i], [])) (.ext 0, [lS l, vS s, vi 0, vi l.length, vi l.length], [])
    (fun i x hx hlt again => by
      refine (nl88 ..).trans ?_
      rw [wrap_succ (by omega)]
      simp only [dec_lt hlt, dec_ge, cond_true, toNat_cast, hx, oM])
    (fun again => by
      refine (nl88 ..).trans ?_
      simp only [dec_ll, cond_false])
  refine ⟨mm, hm.trans ?_⟩
  cases h : l.any fun x => s == x with
  | true => rw [h] at hv2; rw [cond_true, leaf_val hv2]
  | false => rw [h] at hv2; rw [cond_false, leaf_val hv2])
theorem Na4_ok : TabOK Na4 := N0_ok.addLoop (g := 88) (lid := 2) (r := l88_2) fun b k H o k' H' hv => by refine LoopOK.tab ?_ ?_ ?_ ?_ (l88_2_run b k H o k' H' hv) <;> rfl
theorem c88_run : ∀ args H v H', (c88 args H).val = some (v, H') → CallOK Na4 88 args H v H' := c88_ok Na4_ok (by
  intro l s r hv
  obtain ⟨hl, hv2⟩ := guard_val hv
  refine (nf88 ..).trans ?_
  rw [hl, decide_eq_true (rfl : (l.length : Int) = _)]
  cases h : l.any fun x => s == x with
  | true => rw [h] at hv2; rw [leaf_val hv2]; rfl
  | false => rw [h] at hv2; rw [leaf_val hv2]; rfl)
theorem Na5_ok : TabOK Na5 := N0_ok.addCall (g := 88) (r := c88) fun a H v H' hv => by refine CallOK.tab ?_ ?_ (c88_run a H v H' hv) <;> rfl
theorem c54_run : ∀ args H v H', (c54 args H).val = some (v, H') → CallOK Na5 54 args H v H' := c54_ok Na5_ok (by
  intro l s r hv
  obtain ⟨hl, hv2⟩ := guard_val hv
  refine (nf54 ..).trans ?_
  rw [hl, leaf_val hv2]
  cases l.any fun x => s == x <;> rfl)
end Go.Ev.Rag
