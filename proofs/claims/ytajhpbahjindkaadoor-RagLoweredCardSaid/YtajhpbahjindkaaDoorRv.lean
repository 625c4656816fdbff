/- Lowered bags, the reference: tables and normal forms. -/
import Derived.Test.YtajhpbahjindkaaDoorRt
import Derived.Test.YtajhpbahjindkaaDoorRp
import Derived.Test.YtajhpbahjindkaaDoorRq
set_option linter.unusedVariables false
set_option linter.unusedSimpArgs false
namespace Go.Ev.Rag
open Go Go.Ev
set_option maxRecDepth 1000000
set_option maxHeartbeats 0
set_option linter.unusedVariables false
theorem nl81 (again : Ag) (K i : Int) (bags out : List ByteArray) (s : ByteArray) (ty : TypeId) : lpStep B3 81 4 0 (lpc B3 81 4) again [vi K, lS bags, vS s, osW 0 out.length, vi i] [some (rowS out ty)] = (bif decide (i < (↑bags.length : Int)) then bif decide (0 ≤ i) then bif decide (i < (↑bags.length : Int)) then oM bags[i.toNat]? fun x => bif decide (ByteArray.size x ≤ 100000) && decide (s.size ≤ 100000) then bif sm bags then bif Rgg.hasS bags (Rgg.woS x s) then bif decide (0 ≤ i) then bif decide (i < (↑bags.length : Int)) then oM bags[i.toNat]? fun x => bif room (out.length + 1) 16 then again [vi K, .sl .str bags false, .sc (.string s), osW 0 (out.length + 1), vi (IntKind.i64.wrap (i + 1))] [some ⟨[.run .str (out ++ [x])], false, 9, false, false, none⟩] else none else none else none else bif room (out.length + 1) 16 then again [vi K, .sl .str bags false, .sc (.string s), osW 0 (out.length + 1), vi (IntKind.i64.wrap (i + 1))] [some ⟨[.run .str (out ++ [Rgg.woS x s])], false, 9, false, false, none⟩] else none else none else none else none else none else some (.ext 0, [vi K, .sl .str bags false, .sc (.string s), osW 0 out.length, vi i], [some { c := [.run .str out], vr := false, ty := ty, fz := false, loose := false : Row }])) := by kernel_rfl
theorem nl83 (again : Ag) (n i : Int) (bags : List ByteArray) : lpStep B3 83 3 0 (lpc B3 83 3) again [lS bags, vi n, vi i] [] = (bif decide (i < (↑bags.length : Int)) then bif decide (0 ≤ i) then bif decide (i < (↑bags.length : Int)) then oM bags[i.toNat]? fun x => again [.sl .str bags false, vi (IntKind.i64.wrap (n + (↑(ByteArray.size x) : Int))), vi (IntKind.i64.wrap (i + 1))] [] else none else none else some (.ext 0, [.sl .str bags false, vi n, vi i], [])) := by kernel_rfl
def l81_4t (K : Int) (l : List ByteArray) (s : ByteArray) : Tree (Out × List AV × Hp) := .br (sm l && Rgg.szs l && decide (s.size ≤ 100000)) (.leaf (.ext 0, [vi K, lS l, vS s, osW 0 (l.map (Rgg.lwB l s)).length, vi l.length], [some (rS (l.map (Rgg.lwB l s)))])) .fail
def l81_4 (base : Nat) (kv : List AV) (H : Hp) : Tree (Out × List AV × Hp) := match Nat.beq base 0, kv, H with
  | true, [(.sc (.int .i64 K)), (.sl .str l false), (.sc (.string s)), (.os 0 0 0 0 true false true), (.sc (.int .i64 0))], [some ⟨[.run .str []], false, 0, false, false, none⟩] => l81_4t K l s
  | _, _, _ => .fail
theorem l81_4_ok {T : Tab} (hT : TabOK T) (hlo : loopOf T.fn 81 4 = some (lpc T 81 4)) (h : ∀ (K : Int) (l : List ByteArray) (s : ByteArray) (r : Out × List AV × Hp), (l81_4t K l s).val = some r → ∃ mm, lpRun T 81 4 0 (lpc T 81 4) mm [vi K, lS l, vS s, osW 0 0, vi 0] [some (rowS [] 0)] = some r) : ∀ base kv H o kv' H', (l81_4 base kv H).val = some (o, kv', H') → LoopOK T 81 4 base kv H o kv' H' := by
  intro base kv H o kv' H' hv
  unfold l81_4 at hv
  split at hv
  · rename_i hb
    obtain rfl := Nat.eq_of_beq_eq_true hb
    exact loop_ok hT hlo (h _ _ _ _ hv)
  · cases hv
def l83_3t (l : List ByteArray) : Tree (Out × List AV × Hp) := .br (sm l && Rgg.szs l) (.leaf (.ext 0, [lS l, vi (Rgg.ltS l : Nat), vi l.length], [])) .fail
def l83_3 (base : Nat) (kv : List AV) (H : Hp) : Tree (Out × List AV × Hp) := match Nat.beq base 0, kv, H with
  | true, [(.sl .str l false), (.sc (.int .i64 0)), (.sc (.int .i64 0))], [] => l83_3t l
  | _, _, _ => .fail
theorem l83_3_ok {T : Tab} (hT : TabOK T) (hlo : loopOf T.fn 83 3 = some (lpc T 83 3)) (h : ∀ (l : List ByteArray) (r : Out × List AV × Hp), (l83_3t l).val = some r → ∃ mm, lpRun T 83 3 0 (lpc T 83 3) mm [lS l, vi 0, vi 0] [] = some r) : ∀ base kv H o kv' H', (l83_3 base kv H).val = some (o, kv', H') → LoopOK T 83 3 base kv H o kv' H' := by
  intro base kv H o kv' H' hv
  unfold l83_3 at hv
  split at hv
  · rename_i hb
    obtain rfl := Nat.eq_of_beq_eq_true hb
    exact loop_ok hT hlo (h _ _ hv)
  · cases hv
noncomputable def F1 : Tab := ((B3).addLoop 81 4 l81_4).addLoop 83 3 l83_3
theorem nf81 (K k : Int) (l : List ByteArray) : evBody F1 81 [vi K, lS l, vi k] [] = (bif sm l && Rgg.szs l && decide (1 ≤ 100000) then bif decide (1 ≤ K) && decide (K ≤ 5) && sm (List.map (Rgg.lwB l (bytesStr [IntKind.u8.wrap (IntKind.i64.wrap (97 + k))])) l) then some (.os 0 0 0 (Rgg.ofS K (List.map (Rgg.lwB l (bytesStr [IntKind.u8.wrap (IntKind.i64.wrap (97 + k))])) l)).length true false true, [some ⟨[.run .str (Rgg.ofS K (List.map (Rgg.lwB l (bytesStr [IntKind.u8.wrap (IntKind.i64.wrap (97 + k))])) l))], false, Rgg.tyS (Rgg.ofS K (List.map (Rgg.lwB l (bytesStr [IntKind.u8.wrap (IntKind.i64.wrap (97 + k))])) l)), false, false, none⟩]) else none else none) := by kernel_rfl
theorem nf83 (l : List ByteArray) : evBody F1 83 [lS l] [] = (bif sm l && Rgg.szs l then some (vi (↑(Rgg.ltS l) : Int), []) else none) := by kernel_rfl
def c81t (K k : Int) (l : List ByteArray) : Tree (AV × Hp) := .br (decide (1 ≤ K) && decide (K ≤ 5) && sm l && Rgg.szs l && decide (0 ≤ k) && decide (k < 5)) (.leaf (osW 0 (Rgg.lrR K l k).length, [some (rS (Rgg.lrR K l k))])) .fail
def c81 (args : List AV) (H : Hp) : Tree (AV × Hp) := match args, H with
  | [(.sc (.int .i64 K)), (.sl .str l false), (.sc (.int .i64 k))], [] => c81t K k l
  | _, _ => .fail
theorem c81_ok {T : Tab} (hT : TabOK T) (h : ∀ (K k : Int) (l : List ByteArray) (r : AV × Hp), (c81t K k l).val = some r → evBody T 81 [vi K, lS l, vi k] [] = some r) : ∀ args H v H', (c81 args H).val = some (v, H') → CallOK T 81 args H v H' := by
  intro args H v H' hv
  unfold c81 at hv
  split at hv
  · exact evBody_sound hT (h _ _ _ _ hv)
  · cases hv
def c83t (l : List ByteArray) : Tree (AV × Hp) := .br (sm l && Rgg.szs l) (.leaf (vi (Rgg.ltS l : Nat), [])) .fail
def c83 (args : List AV) (H : Hp) : Tree (AV × Hp) := match args, H with
  | [(.sl .str l false)], [] => c83t l
  | _, _ => .fail
theorem c83_ok {T : Tab} (hT : TabOK T) (h : ∀ (l : List ByteArray) (r : AV × Hp), (c83t l).val = some r → evBody T 83 [lS l] [] = some r) : ∀ args H v H', (c83 args H).val = some (v, H') → CallOK T 83 args H v H' := by
  intro args H v H' hv
  unfold c83 at hv
  split at hv
  · exact evBody_sound hT (h _ _ hv)
  · cases hv
noncomputable def F3 : Tab := ((B3).addCall 81 c81).addCall 83 c83
theorem nl33_9 (again : Ag) (K b i : Int) (l : List ByteArray) (ty : TypeId) : lpStep F3 33 9 0 (lpc F3 33 9) again [vi K, osW 0 l.length, vi b, vi i] [some (rowS l ty)] = (bif decide (i < K) then bif decide (1 ≤ K) && decide (K ≤ 5) && sm l && Rgg.szs l && decide (0 ≤ i) && decide (i < 5) then again [vi K, .os 0 0 0 (Rgg.lrR K l i).length true false true, vi b, vi (IntKind.i64.wrap (i + 1))] [some ⟨[.run .str (Rgg.lrR K l i)], false, Rgg.tyS (Rgg.lrR K l i), false, false, none⟩] else none else some (.ext 2, [vi K, osW 0 l.length, vi b, vi i], [some { c := [.run .str l], vr := false, ty := ty, fz := false, loose := false : Row }])) := by kernel_rfl
def l33_9t (K b : Int) (l : List ByteArray) (m : Nat) (ty : TypeId) : Tree (Out × List AV × Hp) := .br (decide (1 ≤ K) && decide (K ≤ 5) && sm l && Rgg.szs l && decide (m = l.length) && decide (ty = Rgg.tyS l)) (.leaf (.ext 2, [vi K, osW 0 (Rgg.rrT K l K.toNat).length, vi b, vi K], [some (rS (Rgg.rrT K l K.toNat))])) .fail
def l33_9 (base : Nat) (kv : List AV) (H : Hp) : Tree (Out × List AV × Hp) := match Nat.beq base 0, kv, H with
  | true, [(.sc (.int .i64 K)), (.os 0 0 0 m true false true), (.sc (.int .i64 b)), (.sc (.int .i64 0))], [some ⟨[.run .str l], false, ty, false, false, none⟩] => l33_9t K b l m ty
  | _, _, _ => .fail
theorem l33_9_ok {T : Tab} (hT : TabOK T) (hlo : loopOf T.fn 33 9 = some (lpc T 33 9)) (h : ∀ (K b : Int) (l : List ByteArray) (m : Nat) (ty : TypeId) (r : Out × List AV × Hp), (l33_9t K b l m ty).val = some r → ∃ mm, lpRun T 33 9 0 (lpc T 33 9) mm [vi K, osW 0 m, vi b, vi 0] [some (rowS l ty)] = some r) : ∀ base kv H o kv' H', (l33_9 base kv H).val = some (o, kv', H') → LoopOK T 33 9 base kv H o kv' H' := by
  intro base kv H o kv' H' hv
  unfold l33_9 at hv
  split at hv
  · rename_i hb
    obtain rfl := Nat.eq_of_beq_eq_true hb
    exact loop_ok hT hlo (h _ _ _ _ _ _ hv)
  · cases hv
noncomputable def F4 : Tab := (F3).addLoop 33 9 l33_9
theorem nl33_6 (again : Ag) (K b : Int) (l : List ByteArray) (ty : TypeId) : lpStep F4 33 6 0 (lpc F4 33 6) again [vi K, osW 0 l.length, vi b] [some (rowS l ty)] = (bif sm l && Rgg.szs l then bif b != (↑(Rgg.ltS l) : Int) then bif sm l && Rgg.szs l then bif decide (1 ≤ K) && decide (K ≤ 5) && sm l && Rgg.szs l && decide (l.length = l.length) && decide (ty = Rgg.tyS l) then again [vi K, .os 0 0 0 (Rgg.rrT K l K.toNat).length true false true, vi (↑(Rgg.ltS l) : Int)] [some ⟨[.run .str (Rgg.rrT K l K.toNat)], false, Rgg.tyS (Rgg.rrT K l K.toNat), false, false, none⟩] else none else none else some (.ext 0, [vi K, osW 0 l.length, vi b], [some { c := [.run .str l], vr := false, ty := ty, fz := false, loose := false : Row }]) else none) := by kernel_rfl
def l33_6t (K b : Int) (l : List ByteArray) (m : Nat) (ty : TypeId) : Tree (Out × List AV × Hp) := .br (decide (1 ≤ K) && decide (K ≤ 5) && sm l && Rgg.szs l && decide (m = l.length) && decide (ty = Rgg.tyS l) && decide (b = -1) && Rgg.fxR K l) (.leaf (.ext 0, [vi K, osW 0 (Rgg.rrT K l K.toNat).length, vi (Rgg.ltS (Rgg.rrT K l K.toNat) : Nat)], [some (rS (Rgg.rrT K l K.toNat))])) .fail
def l33_6 (base : Nat) (kv : List AV) (H : Hp) : Tree (Out × List AV × Hp) := match Nat.beq base 0, kv, H with
  | true, [(.sc (.int .i64 K)), (.os 0 0 0 m true false true), (.sc (.int .i64 b))], [some ⟨[.run .str l], false, ty, false, false, none⟩] => l33_6t K b l m ty
  | _, _, _ => .fail
theorem l33_6_ok {T : Tab} (hT : TabOK T) (hlo : loopOf T.fn 33 6 = some (lpc T 33 6)) (h : ∀ (K b : Int) (l : List ByteArray) (m : Nat) (ty : TypeId) (r : Out × List AV × Hp), (l33_6t K b l m ty).val = some r → ∃ mm, lpRun T 33 6 0 (lpc T 33 6) mm [vi K, osW 0 m, vi b] [some (rowS l ty)] = some r) : ∀ base kv H o kv' H', (l33_6 base kv H).val = some (o, kv', H') → LoopOK T 33 6 base kv H o kv' H' := by
  intro base kv H o kv' H' hv
  unfold l33_6 at hv
  split at hv
  · rename_i hb
    obtain rfl := Nat.eq_of_beq_eq_true hb
    exact loop_ok hT hlo (h _ _ _ _ _ _ hv)
  · cases hv
noncomputable def F5 : Tab := (F4).addLoop 33 6 l33_6
theorem nf33 (K : Int) (l : List ByteArray) : evBody F5 33 [vi K, lS l] [] = (bif Rgg.szs l then bif Rgg.ckE K l != 0 then some (.tuple [osW 0 0, vi (Rgg.ckE K l)], [some { c := [.run .str []], vr := false, ty := 0, fz := false, loose := false : Row }]) else bif decide (1 ≤ K) && decide (K ≤ 5) && sm l then bif decide (1 ≤ K) && decide (K ≤ 5) && sm (Rgg.ofS K l) && Rgg.szs (Rgg.ofS K l) && decide ((Rgg.ofS K l).length = (Rgg.ofS K l).length) && decide (Rgg.tyS (Rgg.ofS K l) = Rgg.tyS (Rgg.ofS K l)) && decide (-1 = -1) && Rgg.fxR K (Rgg.ofS K l) then some (.tuple [.os 0 0 0 (Rgg.rrT K (Rgg.ofS K l) K.toNat).length true false true, vi 0], [some ⟨[.run .str (Rgg.rrT K (Rgg.ofS K l) K.toNat)], false, Rgg.tyS (Rgg.rrT K (Rgg.ofS K l) K.toNat), false, false, none⟩]) else none else none else none) := by kernel_rfl
theorem nf31 (K k : Int) (l : List ByteArray) : evBody F3 31 [vi K, lS l, vi k] [] = (bif Rgg.szs l then bif Rgg.ckE K l == 0 then bif !Rgg.inI k 0 (IntKind.i64.wrap (K - 1)) then some (.tuple [osW 0 0, vi 2], [some { c := [.run .str []], vr := false, ty := 0, fz := false, loose := false : Row }]) else bif Rgg.ckE K l != 0 then some (.tuple [osW 0 0, vi (Rgg.ckE K l)], [some ⟨[.run .str []], false, 0, false, false, none⟩]) else bif decide (1 ≤ K) && decide (K ≤ 5) && sm l && Rgg.szs l && decide (0 ≤ k) && decide (k < 5) then some (.tuple [.os 0 0 0 (Rgg.lrR K l k).length true false true, vi 0], [some ⟨[.run .str (Rgg.lrR K l k)], false, Rgg.tyS (Rgg.lrR K l k), false, false, none⟩]) else none else bif Rgg.ckE K l != 0 then some (.tuple [osW 0 0, vi (Rgg.ckE K l)], [some { c := [.run .str []], vr := false, ty := 0, fz := false, loose := false : Row }]) else bif decide (1 ≤ K) && decide (K ≤ 5) && sm l && Rgg.szs l && decide (0 ≤ k) && decide (k < 5) then some (.tuple [.os 0 0 0 (Rgg.lrR K l k).length true false true, vi 0], [some ⟨[.run .str (Rgg.lrR K l k)], false, Rgg.tyS (Rgg.lrR K l k), false, false, none⟩]) else none else none) := by kernel_rfl
def c31t (K k : Int) (l : List ByteArray) : Tree (AV × Hp) := .br (Rgg.szs l && sm l) (.leaf (.tuple [osW 0 (Rgg.lwR K l k).length, vi (Rgg.lwRE K l k)], [some (rS (Rgg.lwR K l k))])) .fail
def c31 (args : List AV) (H : Hp) : Tree (AV × Hp) := match args, H with
  | [(.sc (.int .i64 K)), (.sl .str l false), (.sc (.int .i64 k))], [] => c31t K k l
  | _, _ => .fail
theorem c31_ok {T : Tab} (hT : TabOK T) (h : ∀ (K k : Int) (l : List ByteArray) (r : AV × Hp), (c31t K k l).val = some r → evBody T 31 [vi K, lS l, vi k] [] = some r) : ∀ args H v H', (c31 args H).val = some (v, H') → CallOK T 31 args H v H' := by
  intro args H v H' hv
  unfold c31 at hv
  split at hv
  · exact evBody_sound hT (h _ _ _ _ hv)
  · cases hv
def c33t (K : Int) (l : List ByteArray) : Tree (AV × Hp) := .br (Rgg.szs l && sm l && (Rgg.ckE K l != 0 || Rgg.fxR K (Rgg.ofS K l))) (.leaf (.tuple [osW 0 (Rgg.lsR K l).length, vi (Rgg.ckE K l)], [some (rS (Rgg.lsR K l))])) .fail
def c33 (args : List AV) (H : Hp) : Tree (AV × Hp) := match args, H with
  | [(.sc (.int .i64 K)), (.sl .str l false)], [] => c33t K l
  | _, _ => .fail
theorem c33_ok {T : Tab} (hT : TabOK T) (h : ∀ (K : Int) (l : List ByteArray) (r : AV × Hp), (c33t K l).val = some r → evBody T 33 [vi K, lS l] [] = some r) : ∀ args H v H', (c33 args H).val = some (v, H') → CallOK T 33 args H v H' := by
  intro args H v H' hv
  unfold c33 at hv
  split at hv
  · exact evBody_sound hT (h _ _ _ hv)
  · cases hv
end Go.Ev.Rag
namespace Rgg
open Go
theorem of_len (K : Int) (h1 : 1 ≤ K) (h5 : K ≤ 5) (l : List ByteArray) : (ofS K l).length ≤ 32 ∧ szs (ofS K l) = true := by
  unfold ofS
  constructor
  · refine Nat.le_trans (List.length_filter_le _ _) ?_
    have : K = 1 ∨ K = 2 ∨ K = 3 ∨ K = 4 ∨ K = 5 := by omega
    rcases this with rfl | rfl | rfl | rfl | rfl <;> decide
  · unfold szs
    rw [List.all_eq_true]
    intro x hx
    exact decide_eq_true (Nat.le_trans (sets_szs h1 h5 x (List.mem_filter.1 hx).1) (by decide))
theorem ltr_eq {k : Int} (h0 : 0 ≤ k) (h5 : k < 5) : Ev.bytesStr [IntKind.u8.wrap (IntKind.i64.wrap (97 + k))] = ltr k := by
  have : k = 0 ∨ k = 1 ∨ k = 2 ∨ k = 3 ∨ k = 4 := by omega
  rcases this with rfl | rfl | rfl | rfl | rfl <;> rfl
theorem rr_len {K : Int} (h1 : 1 ≤ K) (h5 : K ≤ 5) {l : List ByteArray} (hs : Ev.sm l = true) (hz : szs l = true) : ∀ i, Ev.sm (rrT K l i) = true ∧ szs (rrT K l i) = true
  | 0 => ⟨hs, hz⟩
  | i + 1 => ⟨decide_eq_true (by have := (of_len K h1 h5 ((rrT K l i).map (lwB (rrT K l i) (ltr i)))).1; unfold rrT lrR; omega), (of_len K h1 h5 _).2⟩
end Rgg
namespace Go.Ev.Rag
open Go Go.Ev Go.Proofs
set_option maxRecDepth 1000000
set_option linter.unusedVariables false
set_option linter.unusedSimpArgs false
theorem l81_4_run : ∀ base kv H o kv' H', (l81_4 base kv H).val = some (o, kv', H') → LoopOK B3 81 4 base kv H o kv' H' := l81_4_ok B3_ok (by kernel_rfl) (by
  intro K l s r hv
  obtain ⟨hl, hv2⟩ := guard_val hv
  simp only [Bool.and_eq_true, decide_eq_true_eq] at hl
  obtain ⟨⟨hsm, hsz⟩, hs⟩ := hl
  have hsm' := sm_le hsm
  obtain ⟨mm, hm⟩ := steps_of (T := B3) (fid := 81) (lid := 4) (base := 0) (c := lpc B3 81 4) l.length (fun i => [vi K, lS l, vS s, osW 0 ((l.take i).map (Rgg.lwB l s)).length, vi (i : Nat)]) (fun i => [some (rS ((l.take i).map (Rgg.lwB l s)))])
    (.ext 0, [vi K, lS l, vS s, osW 0 (l.map (Rgg.lwB l s)).length, vi l.length], [some (rS (l.map (Rgg.lwB l s)))])
    (fun i hi again => by
      refine (nl81 ..).trans ?_
      have hx := List.getElem?_eq_getElem hi
      generalize l[i] = x at hx
      have hxs := Rgg.szs_get hsz (List.mem_of_getElem? hx)
      have hln : ((l.take i).map (Rgg.lwB l s)).length ≤ i := by rw [List.length_map, List.length_take]; omega
      rw [List.take_add_one, hx, wrap_succ (by omega), room_ok (by omega) (by omega)]
      have hb : Rgg.lwB l s x = bif Rgg.hasS l (Rgg.woS x s) then x else Rgg.woS x s := rfl
      simp only [dec_lt hi, dec_ge, cond_true, toNat_cast, hx, oM, decide_eq_true hxs, decide_eq_true hs, Bool.and_self, hsm, Option.toList, List.map_append, List.map_cons, List.map_nil, List.length_append, List.length_singleton, rS, Rgg.tyS_snoc, hb]
      cases Rgg.hasS l (Rgg.woS x s) <;> rfl)
    (fun again => by
      refine (nl81 ..).trans ?_
      simp only [dec_ll, cond_false, List.take_length])
  exact ⟨mm, hm.trans (by rw [leaf_val hv2])⟩)
theorem lt_snoc (l : List ByteArray) (x : ByteArray) : Rgg.ltS (l ++ [x]) = Rgg.ltS l + x.size := by
  unfold Rgg.ltS
  rw [List.map_append, List.sum_append]
  simp
theorem lt_le {l : List ByteArray} (h : Rgg.szs l = true) : Rgg.ltS l ≤ 100000 * l.length := by
  unfold Rgg.szs at h
  rw [List.all_eq_true] at h
  unfold Rgg.ltS
  induction l with
  | nil => simp
  | cons x t ih =>
    have h1 := of_decide_eq_true (h x (by simp))
    have h2 := ih fun y hy => h y (List.mem_cons_of_mem _ hy)
    rw [List.map_cons, List.sum_cons, List.length_cons]
    omega
theorem take_szs {l : List ByteArray} (h : Rgg.szs l = true) (i : Nat) : Rgg.szs (l.take i) = true := by
  unfold Rgg.szs at *
  rw [List.all_eq_true] at *
  exact fun x hx => h x (List.mem_of_mem_take hx)
theorem l83_3_run : ∀ base kv H o kv' H', (l83_3 base kv H).val = some (o, kv', H') → LoopOK B3 83 3 base kv H o kv' H' := l83_3_ok B3_ok (by kernel_rfl) (by
  intro l r hv
  obtain ⟨hl, hv2⟩ := guard_val hv
  simp only [Bool.and_eq_true, decide_eq_true_eq] at hl
  obtain ⟨hsm, hsz⟩ := hl
  have hsm' := sm_le hsm
  obtain ⟨mm, hm⟩ := steps_of (T := B3) (fid := 83) (lid := 3) (base := 0) (c := lpc B3 83 3) l.length (fun i => [lS l, vi (Rgg.ltS (l.take i) : Nat), vi (i : Nat)]) (fun i => [])
    (.ext 0, [lS l, vi (Rgg.ltS l : Nat), vi l.length], [])
    (fun i hi again => by
      refine (nl83 ..).trans ?_
      have hx := List.getElem?_eq_getElem hi
      generalize l[i] = x at hx
      have htk : l.take (i + 1) = l.take i ++ [x] := by rw [List.take_add_one, hx]; rfl
      have hb := lt_le (take_szs hsz (i + 1))
      rw [htk, lt_snoc, List.length_append, List.length_take, List.length_singleton] at hb
      rw [htk, lt_snoc, wrap_succ (by omega)]
      simp only [dec_lt hi, dec_ge, cond_true, toNat_cast, hx, oM]
      rw [show ((Rgg.ltS (l.take i) : Nat) : Int) + ((x.size : Nat) : Int) = ((Rgg.ltS (l.take i) + x.size : Nat) : Int) by omega, wrapi (by omega) (by omega)])
    (fun again => by
      refine (nl83 ..).trans ?_
      simp only [dec_ll, cond_false, List.take_length])
  exact ⟨mm, hm.trans (by rw [leaf_val hv2])⟩)
theorem F1_ok : TabOK F1 := by
  have h := B3_ok
  have h := h.addLoop (g := 81) (lid := 4) (r := l81_4) fun b k H o k' H' hv => by refine LoopOK.tab ?_ ?_ ?_ ?_ (l81_4_run b k H o k' H' hv) <;> rfl
  have h := h.addLoop (g := 83) (lid := 3) (r := l83_3) fun b k H o k' H' hv => by refine LoopOK.tab ?_ ?_ ?_ ?_ (l83_3_run b k H o k' H' hv) <;> rfl
  exact h
theorem c81_run : ∀ args H v H', (c81 args H).val = some (v, H') → CallOK F1 81 args H v H' := c81_ok F1_ok (by
  intro K k l r hv
  obtain ⟨hl, hv2⟩ := guard_val hv
  simp only [Bool.and_eq_true, decide_eq_true_eq] at hl
  obtain ⟨⟨⟨⟨⟨k1, k5⟩, hsm⟩, hsz⟩, q0⟩, q5⟩ := hl
  have hm : sm (l.map (Rgg.lwB l (Rgg.ltr k))) = true := decide_eq_true (by rw [List.length_map]; exact of_decide_eq_true hsm)
  refine (nf81 ..).trans ?_
  rw [Rgg.ltr_eq q0 q5, hsm, hsz, hm, decide_eq_true k1, decide_eq_true k5, leaf_val hv2]
  rfl)
theorem c83_run : ∀ args H v H', (c83 args H).val = some (v, H') → CallOK F1 83 args H v H' := c83_ok F1_ok (by
  intro l r hv
  obtain ⟨hl, hv2⟩ := guard_val hv
  refine (nf83 ..).trans ?_
  rw [hl, leaf_val hv2]; rfl)
theorem F3_ok : TabOK F3 := by
  have h := B3_ok
  have h := h.addCall (g := 81) (r := c81) fun a H v H' hv => by refine CallOK.tab ?_ ?_ (c81_run a H v H' hv) <;> rfl
  have h := h.addCall (g := 83) (r := c83) fun a H v H' hv => by refine CallOK.tab ?_ ?_ (c83_run a H v H' hv) <;> rfl
  exact h
theorem l33_9_run : ∀ base kv H o kv' H', (l33_9 base kv H).val = some (o, kv', H') → LoopOK F3 33 9 base kv H o kv' H' := l33_9_ok F3_ok (by kernel_rfl) (by
  intro K b l m ty r hv
  obtain ⟨hl, hv2⟩ := guard_val hv
  simp only [Bool.and_eq_true, decide_eq_true_eq] at hl
  obtain ⟨⟨⟨⟨⟨k1, k5⟩, hsm⟩, hsz⟩, rfl⟩, rfl⟩ := hl
  have hr := Rgg.rr_len k1 k5 hsm hsz
  obtain ⟨K, rfl⟩ := Int.eq_ofNat_of_zero_le (show 0 ≤ K by omega)
  rw [toNat_cast] at hv2
  obtain ⟨mm, hm⟩ := steps_of (T := F3) (fid := 33) (lid := 9) (base := 0) (c := lpc F3 33 9) K (fun i => [vi K, osW 0 (Rgg.rrT K l i).length, vi b, vi (i : Nat)]) (fun i => [some (rS (Rgg.rrT K l i))])
    (.ext 2, [vi K, osW 0 (Rgg.rrT K l K).length, vi b, vi K], [some (rS (Rgg.rrT K l K))])
    (fun i hi again => by
      refine (nl33_9 ..).trans ?_
      rw [wrap_succ (by omega), (hr i).1, (hr i).2, decide_eq_true k1, decide_eq_true k5]
      simp only [dec_lt hi, dec_ge, cond_true, decide_eq_true (show (i : Int) < 5 by omega), Bool.and_self]
      rfl)
    (fun again => by
      refine (nl33_9 ..).trans ?_
      simp only [dec_ll, cond_false])
  exact ⟨mm, hm.trans (by rw [leaf_val hv2])⟩)
theorem F4_ok : TabOK F4 := by
  have h := F3_ok
  have h := h.addLoop (g := 33) (lid := 9) (r := l33_9) fun b k H o k' H' hv => by refine LoopOK.tab ?_ ?_ ?_ ?_ (l33_9_run b k H o k' H' hv) <;> rfl
  exact h
theorem l33_6_run : ∀ base kv H o kv' H', (l33_6 base kv H).val = some (o, kv', H') → LoopOK F4 33 6 base kv H o kv' H' := l33_6_ok F4_ok (by kernel_rfl) (by
  intro K b l m ty r hv
  obtain ⟨hl, hv2⟩ := guard_val hv
  simp only [Bool.and_eq_true, decide_eq_true_eq] at hl
  obtain ⟨⟨⟨⟨⟨⟨⟨k1, k5⟩, hsm⟩, hsz⟩, rfl⟩, rfl⟩, rfl⟩, hfx⟩ := hl
  have hfx : Rgg.rrT K (Rgg.rrT K l K.toNat) K.toNat = Rgg.rrT K l K.toNat := eq_of_beq hfx
  have hr := Rgg.rr_len k1 k5 hsm hsz K.toNat
  generalize hm : Rgg.rrT K l K.toNat = m at *
  cases he : Rgg.ltS l == Rgg.ltS m with
  | true =>
    have he := eq_of_beq he
    obtain ⟨mm, hm⟩ := steps_of (T := F4) (fid := 33) (lid := 6) (base := 0) (c := lpc F4 33 6) 1 (fun i => [vi K, osW 0 (match i with | 0 => l | _ => m).length, vi (match i with | 0 => -1 | _ => (Rgg.ltS l : Int))]) (fun i => [some (rS (match i with | 0 => l | _ => m))])
      (.ext 0, [vi K, osW 0 m.length, vi (Rgg.ltS m : Nat)], [some (rS m)])
      (fun i hi again => by
        obtain rfl : i = 0 := by omega
        refine (nl33_6 again K (-1) l (Rgg.tyS l)).trans ?_
        rw [hsm, hsz, hm, show ((-1 : Int) != (Rgg.ltS l : Int)) = true by rw [bne, Bool.not_eq_true']; exact beq_false_of_ne (by omega), decide_eq_true k1, decide_eq_true k5, decide_eq_true (rfl : l.length = l.length), decide_eq_true (rfl : Rgg.tyS l = Rgg.tyS l)]
        rfl)
      (fun again => by
        refine (nl33_6 again K (Rgg.ltS l : Int) m (Rgg.tyS m)).trans ?_
        rw [hr.1, hr.2, he, show ((Rgg.ltS m : Int) != (Rgg.ltS m : Int)) = false by rw [bne, beq_self_eq_true]; rfl]
        rfl)
    exact ⟨mm, hm.trans (by rw [leaf_val hv2])⟩
  | false =>
    have he : Rgg.ltS l ≠ Rgg.ltS m := ne_of_beq_false he
    obtain ⟨mm, hm⟩ := steps_of (T := F4) (fid := 33) (lid := 6) (base := 0) (c := lpc F4 33 6) 2 (fun i => [vi K, osW 0 (match i with | 0 => l | _ => m).length, vi (match i with | 0 => -1 | 1 => (Rgg.ltS l : Int) | _ => (Rgg.ltS m : Int))]) (fun i => [some (rS (match i with | 0 => l | _ => m))])
      (.ext 0, [vi K, osW 0 m.length, vi (Rgg.ltS m : Nat)], [some (rS m)])
      (fun i hi again => by
        match i with
        | 0 =>
          refine (nl33_6 again K (-1) l (Rgg.tyS l)).trans ?_
          rw [hsm, hsz, hm, show ((-1 : Int) != (Rgg.ltS l : Int)) = true by rw [bne, Bool.not_eq_true']; exact beq_false_of_ne (by omega), decide_eq_true k1, decide_eq_true k5, decide_eq_true (rfl : l.length = l.length), decide_eq_true (rfl : Rgg.tyS l = Rgg.tyS l)]
          rfl
        | 1 =>
          refine (nl33_6 again K (Rgg.ltS l : Int) m (Rgg.tyS m)).trans ?_
          rw [hr.1, hr.2, hfx, show ((Rgg.ltS l : Int) != (Rgg.ltS m : Int)) = true by rw [bne, Bool.not_eq_true']; exact beq_false_of_ne (by omega), decide_eq_true k1, decide_eq_true k5, decide_eq_true (rfl : m.length = m.length), decide_eq_true (rfl : Rgg.tyS m = Rgg.tyS m)]
          rfl
        | i + 2 => omega)
      (fun again => by
        refine (nl33_6 again K (Rgg.ltS m : Int) m (Rgg.tyS m)).trans ?_
        rw [hr.1, hr.2, show ((Rgg.ltS m : Int) != (Rgg.ltS m : Int)) = false by rw [bne, beq_self_eq_true]; rfl]
        rfl)
    exact ⟨mm, hm.trans (by rw [leaf_val hv2])⟩)
theorem F5_ok : TabOK F5 := by
  have h := F4_ok
  have h := h.addLoop (g := 33) (lid := 6) (r := l33_6) fun b k H o k' H' hv => by refine LoopOK.tab ?_ ?_ ?_ ?_ (l33_6_run b k H o k' H' hv) <;> rfl
  exact h
theorem c33_run : ∀ args H v H', (c33 args H).val = some (v, H') → CallOK F5 33 args H v H' := c33_ok F5_ok (by
  intro K l r hv
  obtain ⟨hl, hv2⟩ := guard_val hv
  simp only [Bool.and_eq_true, Bool.or_eq_true] at hl
  obtain ⟨⟨hsz, hsm⟩, hfx⟩ := hl
  refine (nf33 ..).trans ?_
  rw [leaf_val hv2, hsz]
  unfold Rgg.lsR
  cases h : Rgg.ckE K l == 0 with
  | false => rw [bne, h]; rfl
  | true =>
    obtain ⟨k1, k5, _⟩ := Rgg.ckE_zero h
    obtain ⟨o1, o2⟩ := Rgg.of_len K k1 k5 l
    have hfx : Rgg.fxR K (Rgg.ofS K l) = true := by
      rcases hfx with hfx | hfx
      · rw [bne, h] at hfx; cases hfx
      · exact hfx
    rw [bne, h, beq_iff_eq.1 h, hsm, hfx, o2, show sm (Rgg.ofS K l) = true from decide_eq_true (by omega), decide_eq_true k1, decide_eq_true k5, decide_eq_true (rfl : (Rgg.ofS K l).length = _), decide_eq_true (rfl : Rgg.tyS (Rgg.ofS K l) = _)]
    rfl)
theorem c31_run : ∀ args H v H', (c31 args H).val = some (v, H') → CallOK F3 31 args H v H' := c31_ok F3_ok (by
  intro K k l r hv
  obtain ⟨hl, hv2⟩ := guard_val hv
  simp only [Bool.and_eq_true] at hl
  obtain ⟨hsz, hsm⟩ := hl
  refine (nf31 ..).trans ?_
  rw [leaf_val hv2, hsz]
  unfold Rgg.lwR Rgg.lwRE
  cases h : Rgg.ckE K l == 0 with
  | false =>
    rw [bne, h]
    simp only [cond_false, cond_true, Bool.not_false, Bool.false_and, h]
    rfl
  | true =>
    obtain ⟨k1, k5, _⟩ := Rgg.ckE_zero h
    rw [bne, h, wrapi (by omega) (by omega)]
    cases hi : Rgg.inI k 0 (K - 1) with
    | false => rfl
    | true =>
      unfold Rgg.inI at hi
      rw [Bool.and_eq_true, decide_eq_true_eq, decide_eq_true_eq] at hi
      rw [beq_iff_eq.1 h, hsm, decide_eq_true k1, decide_eq_true k5, decide_eq_true hi.1, decide_eq_true (show k < 5 by omega)]
      rfl)
end Go.Ev.Rag
