/- The law RagMore: tables and normal forms. -/
import Derived.Test.YtajhpbahjindkaaDoorNc
import Derived.Test.YtajhpbahjindkaaDoorRk
import Derived.Test.YtajhpbahjindkaaDoorNi
import Derived.Test.YtajhpbahjindkaaDoorRf
import Derived.Test.YtajhpbahjindkaaDoorNt
import Derived.Test.YtajhpbahjindkaaDoorRo
import Derived.Test.YtajhpbahjindkaaDoorRi
set_option linter.unusedVariables false
set_option linter.unusedSimpArgs false
namespace Go.Ev.Rag
open Go Go.Ev
set_option maxRecDepth 1000000
set_option maxHeartbeats 0
set_option linter.unusedVariables false
noncomputable def Mo1 : Tab := (((((T0).addCall 34 c34).addCall 35 c35).addCall 17 c17).addCall 26 c26).addCall 54 c54
noncomputable def Mo2 : Tab := Mo1.addCall 16 c16t
theorem nl11_10f (again : Ag) (q i : Int) (a b c e : List ByteArray) (t1 t2 t3 t4 : TypeId) : lpStep Mo2 11 10 0 (lpc Mo2 11 10) again [vb false, osW 0 a.length, osW 1 b.length, osW 2 c.length, osW 3 e.length, osW 0 a.length, vi q, vi i] [some (rowS a t1), some (rowS b t2), some (rowS c t3), some (rowS e t4)] = (bif decide (i < q) then bif decide (0 ≤ i) then bif decide (i < (↑a.length : Int)) then oM a[i.toNat]? fun x => bif sm b then bif !b.any fun x_1 => x == x_1 then some (.ret, [vb false, osW 0 a.length, osW 1 b.length, osW 2 c.length, osW 3 e.length, osW 0 a.length, vi q, vi i], [some ⟨[.run .str a], false, t1, false, false, none⟩, some ⟨[.run .str b], false, t2, false, false, none⟩, some ⟨[.run .str c], false, t3, false, false, none⟩, some ⟨[.run .str e], false, t4, false, false, none⟩]) else again [vb false, osW 0 a.length, osW 1 b.length, osW 2 c.length, osW 3 e.length, osW 0 a.length, vi q, vi (IntKind.i64.wrap (i + 1))] [some ⟨[.run .str a], false, t1, false, false, none⟩, some ⟨[.run .str b], false, t2, false, false, none⟩, some ⟨[.run .str c], false, t3, false, false, none⟩, some ⟨[.run .str e], false, t4, false, false, none⟩] else none else none else none else some (.ext 0, [vb false, osW 0 a.length, osW 1 b.length, osW 2 c.length, osW 3 e.length, osW 0 a.length, vi q, vi i], [some { c := [.run .str a], vr := false, ty := t1, fz := false, loose := false : Row }, some { c := [.run .str b], vr := false, ty := t2, fz := false, loose := false : Row }, some { c := [.run .str c], vr := false, ty := t3, fz := false, loose := false : Row }, some { c := [.run .str e], vr := false, ty := t4, fz := false, loose := false : Row }])) := by kernel_rfl
def l11_10t (q : Int) (a b c e : List ByteArray) (k1 k2 k3 k4 k5 : Nat) (t1 t2 t3 t4 : TypeId) : Tree (Out × List AV × Hp) := .br (decide (k1 = a.length) && decide (k2 = b.length) && decide (k3 = c.length) && decide (k4 = e.length) && decide (k5 = a.length) && decide (q = (a.length : Int)) && sm a && sm b && a.all fun s => b.any fun x => s == x) (.leaf (.ext 0, [vb false, osW 0 a.length, osW 1 b.length, osW 2 c.length, osW 3 e.length, osW 0 a.length, vi a.length, vi a.length], [some (rowS a t1), some (rowS b t2), some (rowS c t3), some (rowS e t4)])) .fail
def l11_10 (base : Nat) (kv : List AV) (H : Hp) : Tree (Out × List AV × Hp) := match Nat.beq base 0, kv, H with
  | true, [(.sc (.bool false)), (.os 0 0 0 k1 true false true), (.os 1 0 0 k2 true false true), (.os 2 0 0 k3 true false true), (.os 3 0 0 k4 true false true), (.os 0 0 0 k5 true false true), (.sc (.int .i64 q)), (.sc (.int .i64 0))], [some ⟨[.run .str a], false, t1, false, false, none⟩, some ⟨[.run .str b], false, t2, false, false, none⟩, some ⟨[.run .str c], false, t3, false, false, none⟩, some ⟨[.run .str e], false, t4, false, false, none⟩] => l11_10t q a b c e k1 k2 k3 k4 k5 t1 t2 t3 t4
  | _, _, _ => .fail
theorem l11_10_ok {T : Tab} (hT : TabOK T) (hlo : loopOf T.fn 11 10 = some (lpc T 11 10)) (h : ∀ (q : Int) (a b c e : List ByteArray) (k1 k2 k3 k4 k5 : Nat) (t1 t2 t3 t4 : TypeId) (r : Out × List AV × Hp), (l11_10t q a b c e k1 k2 k3 k4 k5 t1 t2 t3 t4).val = some r → ∃ mm, lpRun T 11 10 0 (lpc T 11 10) mm [vb false, osW 0 k1, osW 1 k2, osW 2 k3, osW 3 k4, osW 0 k5, vi q, vi 0] [some (rowS a t1), some (rowS b t2), some (rowS c t3), some (rowS e t4)] = some r) : ∀ base kv H o kv' H', (l11_10 base kv H).val = some (o, kv', H') → LoopOK T 11 10 base kv H o kv' H' := by
  intro base kv H o kv' H' hv
  unfold l11_10 at hv
  split at hv
  · rename_i hb
    obtain rfl := Nat.eq_of_beq_eq_true hb
    exact loop_ok hT hlo (h _ _ _ _ _ _ _ _ _ _ _ _ _ _ _ hv)
  · cases hv
theorem nl11_16 (again : Ag) (q i : Int) (a c e : List ByteArray) (t1 t3 t4 : TypeId) : lpStep Mo2 11 16 0 (lpc Mo2 11 16) again [vb false, osW 0 a.length, osW 1 c.length, osW 2 e.length, osW 1 c.length, vi q, vi i] [some (rowS a t1), some (rowS c t3), some (rowS e t4)] = (bif decide (i < q) then bif decide (0 ≤ i) then bif decide (i < (↑c.length : Int)) then oM c[i.toNat]? fun x => bif sm e then bif !e.any fun x_1 => x == x_1 then some (.ret, [vb false, osW 0 a.length, osW 1 c.length, osW 2 e.length, osW 1 c.length, vi q, vi i], [some ⟨[.run .str a], false, t1, false, false, none⟩, some ⟨[.run .str c], false, t3, false, false, none⟩, some ⟨[.run .str e], false, t4, false, false, none⟩]) else again [vb false, osW 0 a.length, osW 1 c.length, osW 2 e.length, osW 1 c.length, vi q, vi (IntKind.i64.wrap (i + 1))] [some ⟨[.run .str a], false, t1, false, false, none⟩, some ⟨[.run .str c], false, t3, false, false, none⟩, some ⟨[.run .str e], false, t4, false, false, none⟩] else none else none else none else some (.ext 2, [vb false, osW 0 a.length, osW 1 c.length, osW 2 e.length, osW 1 c.length, vi q, vi i], [some { c := [.run .str a], vr := false, ty := t1, fz := false, loose := false : Row }, some { c := [.run .str c], vr := false, ty := t3, fz := false, loose := false : Row }, some { c := [.run .str e], vr := false, ty := t4, fz := false, loose := false : Row }])) := by kernel_rfl
def l11_16t (q : Int) (a c e : List ByteArray) (k1 k3 k4 k5 : Nat) (t1 t3 t4 : TypeId) : Tree (Out × List AV × Hp) := .br (decide (k1 = a.length) && decide (k3 = c.length) && decide (k4 = e.length) && decide (k5 = c.length) && decide (q = (c.length : Int)) && sm c && sm e && c.all fun s => e.any fun x => s == x) (.leaf (.ext 2, [vb false, osW 0 a.length, osW 1 c.length, osW 2 e.length, osW 1 c.length, vi c.length, vi c.length], [some (rowS a t1), some (rowS c t3), some (rowS e t4)])) .fail
def l11_16 (base : Nat) (kv : List AV) (H : Hp) : Tree (Out × List AV × Hp) := match Nat.beq base 0, kv, H with
  | true, [(.sc (.bool false)), (.os 0 0 0 k1 true false true), (.os 1 0 0 k3 true false true), (.os 2 0 0 k4 true false true), (.os 1 0 0 k5 true false true), (.sc (.int .i64 q)), (.sc (.int .i64 0))], [some ⟨[.run .str a], false, t1, false, false, none⟩, some ⟨[.run .str c], false, t3, false, false, none⟩, some ⟨[.run .str e], false, t4, false, false, none⟩] => l11_16t q a c e k1 k3 k4 k5 t1 t3 t4
  | _, _, _ => .fail
theorem l11_16_ok {T : Tab} (hT : TabOK T) (hlo : loopOf T.fn 11 16 = some (lpc T 11 16)) (h : ∀ (q : Int) (a c e : List ByteArray) (k1 k3 k4 k5 : Nat) (t1 t3 t4 : TypeId) (r : Out × List AV × Hp), (l11_16t q a c e k1 k3 k4 k5 t1 t3 t4).val = some r → ∃ mm, lpRun T 11 16 0 (lpc T 11 16) mm [vb false, osW 0 k1, osW 1 k3, osW 2 k4, osW 1 k5, vi q, vi 0] [some (rowS a t1), some (rowS c t3), some (rowS e t4)] = some r) : ∀ base kv H o kv' H', (l11_16 base kv H).val = some (o, kv', H') → LoopOK T 11 16 base kv H o kv' H' := by
  intro base kv H o kv' H' hv
  unfold l11_16 at hv
  split at hv
  · rename_i hb
    obtain rfl := Nat.eq_of_beq_eq_true hb
    exact loop_ok hT hlo (h _ _ _ _ _ _ _ _ _ _ _ _ hv)
  · cases hv
end Go.Ev.Rag
namespace Go.Ev.Rag
open Go Go.Ev
set_option maxRecDepth 1000000
set_option maxHeartbeats 0
set_option linter.unusedVariables false
noncomputable def Mo3 : Tab := (Mo2.addLoop 11 10 l11_10).addLoop 11 16 l11_16
def sqL : Code → Code
  | .seq a _ => a
  | _ => .skip
def sqR : Code → Code
  | .seq _ b => b
  | _ => .skip
def bkB : Code → Code
  | .block _ c => c
  | .loop c => c
  | _ => .skip
noncomputable def m25 : Code := sqL (lpc T0 11 25)
noncomputable def m25c : Code := sqL (sqR (lpc T0 11 25))
noncomputable def m7 : Code := bkB (sqL (sqR (sqR (lpc T0 11 25))))
noncomputable def m34 : Code := sqR (sqR (sqR (lpc T0 11 25)))
noncomputable def m26 : Code := sqL m7
noncomputable def m27 : Code := sqL (sqR m7)
noncomputable def m29 : Code := sqL (sqR (sqR m7))
noncomputable def m30 : Code := bkB (bkB (sqR (sqR (sqR m7))))
noncomputable def m30r : Code := sqR m30
theorem m_parts : lpc T0 11 25 = .seq m25 (.seq m25c (.seq (.block 7 (.seq m26 (.seq m27 (.seq m29 (.block 8 (.loop m30)))))) m34)) := by kernel_rfl
theorem m_start : strStart m29 = some (24, 9, 119, 120) := by kernel_rfl
theorem m_next : strNext m30 = some (120, 121, 122, m30r) := by kernel_rfl
def K25 : List Nat := [4, 22, 104, 105, 106, 110, 111, 112]
def K26 : List Nat := [4, 22, 24, 104, 105, 106, 110, 111, 112]
def K30 : List Nat := [4, 22, 24, 104, 105, 106, 110, 111, 112, 120]
@[reducible] def kv25 (a c l : List ByteArray) (n j q i : Int) : List AV := [.sc (.bool false), .sl .str l false, .slg [.sl .str a false, .sl .str c false] true, .sc (.int .i64 n), .sc (.int .i64 j), .sl .str l false, .sc (.int .i64 q), .sc (.int .i64 i)]
@[reducible] def kv26 (s : ByteArray) (a c l : List ByteArray) (n j q i : Int) : List AV := [.sc (.bool false), .sl .str l false, .sc (.string s), .slg [.sl .str a false, .sl .str c false] true, .sc (.int .i64 n), .sc (.int .i64 j), .sl .str l false, .sc (.int .i64 q), .sc (.int .i64 i)]
@[reducible] def kv30 (s : ByteArray) (a c l : List ByteArray) (n j q i : Int) (b : Nat) : List AV := [.sc (.bool false), .sl .str l false, .sc (.string s), .slg [.sl .str a false, .sl .str c false] true, .sc (.int .i64 n), .sc (.int .i64 j), .sl .str l false, .sc (.int .i64 q), .sc (.int .i64 i), ptrOf b]
theorem nm25 (a c l : List ByteArray) (n j q i : Int) : evC Mo3 11 0 m25 (kNrm (113 :: K25)) (mkFr K25 (kv25 a c l n j q i)) [] = (some [vb (decide (i < q)), vb false, .sl .str l false, .slg [.sl .str a false, .sl .str c false] true, vi n, vi j, .sl .str l false, vi q, vi i]) := by kernel_rfl
theorem nm25c (a c l : List ByteArray) (n j q i : Int) : evC Mo3 11 0 m25c (kNrm K25) (mkFr (113 :: K25) (vb true :: kv25 a c l n j q i)) [] = (some [vb false, .sl .str l false, .slg [.sl .str a false, .sl .str c false] true, vi n, vi j, .sl .str l false, vi q, vi i]) := by kernel_rfl
theorem nm25x (a c l : List ByteArray) (n j q i : Int) : evC Mo3 11 0 m25c (kExt 6 K25) (mkFr (113 :: K25) (vb false :: kv25 a c l n j q i)) [] = (some [vb false, .sl .str l false, .slg [.sl .str a false, .sl .str c false] true, vi n, vi j, .sl .str l false, vi q, vi i]) := by kernel_rfl
theorem nm26 (a c l : List ByteArray) (n j q i : Int) : evC Mo3 11 0 m26 (kNrm K26) (mkFr K25 (kv25 a c l n j q i)) [] = (bif decide (0 ≤ i) then bif decide (i < (↑l.length : Int)) then oM l[i.toNat]? fun x => some [vb false, .sl .str l false, .sc (.string x), .slg [.sl .str a false, .sl .str c false] true, vi n, vi j, .sl .str l false, vi q, vi i] else none else none) := by kernel_rfl
theorem nm27 (s : ByteArray) (a c l : List ByteArray) (n j q i : Int) : evC Mo3 11 0 m27 (kNrm K26) (mkFr K26 (kv26 s a c l n j q i)) [] = (bif decide ((↑s.size : Int) > 5) then none else some [vb false, .sl .str l false, .sc (.string s), .slg [.sl .str a false, .sl .str c false] true, vi n, vi j, .sl .str l false, vi q, vi i]) := by kernel_rfl
theorem nm34 (s : ByteArray) (a c l : List ByteArray) (n j q i : Int) (b : Nat) : evC Mo3 11 0 m34 (kNrm K25) (mkFr K30 (kv30 s a c l n j q i b)) [] = (some [vb false, .sl .str l false, .slg [.sl .str a false, .sl .str c false] true, vi n, vi j, .sl .str l false, vi q, vi (IntKind.i64.wrap (i + 1))]) := by kernel_rfl
theorem nm30 (s : ByteArray) (a c l : List ByteArray) (n j q i p r : Int) (b : Nat) : evC Mo3 11 0 m30r (kNrm K30) ((122, vb true) :: (121, .tuple [vb true, vi p, .sc (.int .i32 r)]) :: mkFr K30 (kv30 s a c l n j q i b)) [] = (bif decide (0 ≤ p) then bif decide (p ≤ (↑s.size : Int)) then bif decide (0 ≤ IntKind.i64.wrap (p + 1)) then bif decide (IntKind.i64.wrap (p + 1) ≤ (↑s.size : Int)) then bif room ((s.extract 0 ((some p.toNat).getD s.size)).size + (s.extract ((some (IntKind.i64.wrap (p + 1)).toNat).getD 0) (none.getD s.size)).size) 1 then bif sm l then bif !l.any fun x => s.extract (none.getD 0) ((some p.toNat).getD s.size) ++ s.extract ((some (IntKind.i64.wrap (p + 1)).toNat).getD 0) (none.getD s.size) == x then none else some [vb false, .sl .str l false, .sc (.string s), .slg [.sl .str a false, .sl .str c false] true, vi n, vi j, .sl .str l false, vi q, vi i, .sc (.pointer (some { block := b, off := 0 : Go.Addr }))] else none else none else none else none else none else none) := by kernel_rfl
theorem nm30x (s : ByteArray) (a c l : List ByteArray) (n j q i p r : Int) (b : Nat) : evC Mo3 11 0 m30r (kExt 8 K30) ((122, vb false) :: (121, .tuple [vb false]) :: mkFr K30 (kv30 s a c l n j q i b)) [] = (some [vb false, .sl .str l false, .sc (.string s), .slg [.sl .str a false, .sl .str c false] true, vi n, vi j, .sl .str l false, vi q, vi i, .sc (.pointer (some { block := b, off := 0 : Go.Addr }))]) := by kernel_rfl
end Go.Ev.Rag
namespace Rgg
open Go
def wout (s : ByteArray) (i : Nat) : ByteArray := s.extract 0 i ++ s.extract (i + 1) s.size
def asc (s : ByteArray) : Bool := (List.range s.size).all fun i => Nat.ble (s.data.getD i 0).toNat 127
def good (l : List ByteArray) (s : ByteArray) : Bool := Nat.ble s.size 5 && asc s && (List.range s.size).all fun i => l.any fun x => wout s i == x
theorem asc_at {s : ByteArray} (h : asc s = true) {i : Nat} (hi : i < s.size) : (s[i]'hi).toNat < 128 := by
  have h1 := Nat.le_of_ble_eq_true (List.all_eq_true.1 h i (List.mem_range.2 hi))
  have e : s.data.getD i 0 = s[i]'hi := by
    have hi' : i < s.data.size := hi
    rw [Array.getD_eq_getD_getElem?, Array.getElem?_eq_getElem hi']
    rfl
  rw [e] at h1
  omega
end Rgg
namespace Go.Ev.Rag
open Go Go.Ev Go.Proofs
set_option maxRecDepth 1000000
set_option linter.unusedVariables false
set_option linter.unusedSimpArgs false
theorem Mo1_ok : TabOK Mo1 := by
  have h := T0_ok
  have h := h.addCall (g := 34) (r := c34) fun a H v H' hv => by refine CallOK.tab ?_ ?_ (c34_run a H v H' hv) <;> rfl
  have h := h.addCall (g := 35) (r := c35) fun a H v H' hv => by refine CallOK.tab ?_ ?_ (c35_run a H v H' hv) <;> rfl
  have h := h.addCall (g := 17) (r := c17) fun a H v H' hv => by refine CallOK.tab ?_ ?_ (c17_run a H v H' hv) <;> rfl
  have h := h.addCall (g := 26) (r := c26) fun a H v H' hv => by refine CallOK.tab ?_ ?_ (c26_run a H v H' hv) <;> rfl
  have h := h.addCall (g := 54) (r := c54) fun a H v H' hv => by refine CallOK.tab ?_ ?_ (c54_run a H v H' hv) <;> rfl
  exact h
theorem Mo2_ok : TabOK Mo2 := Mo1_ok.addCall (g := 16) (r := c16t) fun a H v H' hv => by refine CallOK.tab ?_ ?_ (c16t_run a H v H' hv) <;> rfl
theorem l11_10_run : ∀ base kv H o kv' H', (l11_10 base kv H).val = some (o, kv', H') → LoopOK Mo2 11 10 base kv H o kv' H' := l11_10_ok Mo2_ok (by kernel_rfl) (by
  intro q a b c e k1 k2 k3 k4 k5 t1 t2 t3 t4 r hv
  obtain ⟨hl, hv2⟩ := guard_val hv
  simp only [Bool.and_eq_true, decide_eq_true_eq] at hl
  obtain ⟨⟨⟨⟨⟨⟨⟨⟨rfl, rfl⟩, rfl⟩, rfl⟩, rfl⟩, rfl⟩, hsa⟩, hsb⟩, hall⟩ := hl
  have hsc := sm_le hsa
  rw [List.all_eq_true] at hall
  obtain ⟨mm, hm⟩ := steps_of (T := Mo2) (fid := 11) (lid := 10) (base := 0) (c := lpc Mo2 11 10) a.length (fun i => [vb false, osW 0 a.length, osW 1 b.length, osW 2 c.length, osW 3 e.length, osW 0 a.length, vi a.length, vi (i : Nat)]) (fun _ => [some (rowS a t1), some (rowS b t2), some (rowS c t3), some (rowS e t4)])
    (.ext 0, [vb false, osW 0 a.length, osW 1 b.length, osW 2 c.length, osW 3 e.length, osW 0 a.length, vi a.length, vi a.length], [some (rowS a t1), some (rowS b t2), some (rowS c t3), some (rowS e t4)])
    (fun i hi again => by
      have hx := List.getElem?_eq_getElem hi
      generalize a[i] = x at hx
      have hin := hall x (List.mem_of_getElem? hx)
      refine (nl11_10f ..).trans ?_
      rw [wrap_succ (by omega)]
      simp only [dec_lt hi, dec_ge, cond_true, toNat_cast, hx, oM, hsb, hin, Bool.not_true, cond_false])
    (fun again => by
      refine (nl11_10f ..).trans ?_
      simp only [dec_ll, cond_false])
  exact ⟨mm, hm.trans (by rw [leaf_val hv2])⟩)
theorem l11_16_run : ∀ base kv H o kv' H', (l11_16 base kv H).val = some (o, kv', H') → LoopOK Mo2 11 16 base kv H o kv' H' := l11_16_ok Mo2_ok (by kernel_rfl) (by
  intro q a c e k1 k3 k4 k5 t1 t3 t4 r hv
  obtain ⟨hl, hv2⟩ := guard_val hv
  simp only [Bool.and_eq_true, decide_eq_true_eq] at hl
  obtain ⟨⟨⟨⟨⟨⟨⟨rfl, rfl⟩, rfl⟩, rfl⟩, rfl⟩, hsa⟩, hsb⟩, hall⟩ := hl
  have hsc := sm_le hsa
  rw [List.all_eq_true] at hall
  obtain ⟨mm, hm⟩ := steps_of (T := Mo2) (fid := 11) (lid := 16) (base := 0) (c := lpc Mo2 11 16) c.length (fun i => [vb false, osW 0 a.length, osW 1 c.length, osW 2 e.length, osW 1 c.length, vi c.length, vi (i : Nat)]) (fun _ => [some (rowS a t1), some (rowS c t3), some (rowS e t4)])
    (.ext 2, [vb false, osW 0 a.length, osW 1 c.length, osW 2 e.length, osW 1 c.length, vi c.length, vi c.length], [some (rowS a t1), some (rowS c t3), some (rowS e t4)])
    (fun i hi again => by
      have hx := List.getElem?_eq_getElem hi
      generalize c[i] = x at hx
      have hin := hall x (List.mem_of_getElem? hx)
      refine (nl11_16 ..).trans ?_
      rw [wrap_succ (by omega)]
      simp only [dec_lt hi, dec_ge, cond_true, toNat_cast, hx, oM, hsb, hin, Bool.not_true, cond_false])
    (fun again => by
      refine (nl11_16 ..).trans ?_
      simp only [dec_ll, cond_false])
  exact ⟨mm, hm.trans (by rw [leaf_val hv2])⟩)
theorem Mo3_ok : TabOK Mo3 := by
  have h := Mo2_ok
  have h := h.addLoop (g := 11) (lid := 10) (r := l11_10) fun b k H o k' H' hv => by refine LoopOK.tab ?_ ?_ ?_ ?_ (l11_10_run b k H o k' H' hv) <;> rfl
  have h := h.addLoop (g := 11) (lid := 16) (r := l11_16) fun b k H o k' H' hv => by refine LoopOK.tab ?_ ?_ ?_ ?_ (l11_16_run b k H o k' H' hv) <;> rfl
  exact h
def l11_25 (base : Nat) (kv : List AV) (H : Hp) : Tree (Out × List AV × Hp) := match Nat.beq base 0, kv, H with
  | true, [.sc (.bool false), .sl .str l false, .slg [.sl .str a false, .sl .str c false] true, .sc (.int .i64 n), .sc (.int .i64 j), .sl .str l2 false, .sc (.int .i64 q), .sc (.int .i64 0)], [] => .br (decide (l2 = l) && decide (q = (l.length : Int)) && sm l && l.all (Rgg.good l)) (.leaf (.ext 6, kv25 a c l n j l.length l.length, [])) .fail
  | _, _, _ => .fail
theorem m_round {l : List ByteArray} (hsm : sm l = true) {s : ByteArray} (hg : Rgg.good l s = true) {a c : List ByteArray} {n j q i : Int} {pos : Nat} (hp : pos < s.size) {b : Nat} {r : Int} :
    evC Mo3 11 0 m30r (kNrm K30) ((122, vb true) :: (121, .tuple [vb true, vi pos, .sc (.int .i32 r)]) :: mkFr K30 (kv30 s a c l n j q i b)) [] = some (kv30 s a c l n j q i b) := by
  unfold Rgg.good at hg
  simp only [Bool.and_eq_true] at hg
  obtain ⟨⟨h5, ha⟩, hall⟩ := hg
  have h5 := Nat.le_of_ble_eq_true h5
  have hin := List.all_eq_true.1 hall pos (List.mem_range.2 hp)
  refine (nm30 ..).trans ?_
  have e1 : ((some (((pos + 1 : Nat) : Int)).toNat).getD 0) = pos + 1 := rfl
  have e2 : ((some ((pos : Int)).toNat).getD s.size) = pos := rfl
  rw [wrap_succ (by omega), e1, e2]
  have e3 : (none : Option Nat).getD s.size = s.size := rfl
  have e4 : (none : Option Nat).getD 0 = 0 := rfl
  rw [e3, e4]
  have hrm : room ((s.extract 0 pos).size + (s.extract (pos + 1) s.size).size) 1 = true := by
    unfold room
    have z1 : (s.extract 0 pos).size ≤ s.size := by rw [ByteArray.size_extract]; omega
    have z2 : (s.extract (pos + 1) s.size).size ≤ s.size := by rw [ByteArray.size_extract]; omega
    simp
    omega
  have hin' : (l.any fun x => s.extract 0 pos ++ s.extract (pos + 1) s.size == x) = true := hin
  rw [hrm, hsm, hin']
  simp only [dec_ge, cond_true, decide_eq_true (show (pos : Int) ≤ (s.size : Int) by omega), decide_eq_true (show ((pos + 1 : Nat) : Int) ≤ (s.size : Int) by omega), Bool.not_true, cond_false]
theorem m_size : (T0.fn 11).map (fun f => Nat.blt 122 f.ntmps) = some true := by kernel_rfl
theorem m_str : T0.P.underlying 9 = some .string := by kernel_rfl
theorem m_30 : m30 = .seq (sqL m30) m30r := by kernel_rfl
theorem m_lpc : loopOf T0.fn 11 25 = some (lpc T0 11 25) := by kernel_rfl
theorem kv30_it (s : ByteArray) (a c l : List ByteArray) (n j q i : Int) (b : Nat) : get (mkFr K30 (kv30 s a c l n j q i b)) 120 = ptrOf b := rfl
theorem l11_25_walk {f : Func} (hf : T0.fn 11 = some f) {a c l : List ByteArray} {n j : Int} (hsm : sm l = true) (hall : ∀ s ∈ l, Rgg.good l s = true) {w0 : World} {S0 : Stab} {L0 : Loc} (hL : ∀ r, L0 r = none) {Q : Exit → Act → World → Prop}
    (hQ : ∀ a' w' S' L', CS Mo3 f.ntmps w0 S0 L0 (mkFr K25 (kv25 a c l n j l.length l.length)) [] a' w' S' L' → Q (.exit 6) a' w') :
    ∀ (m i : Nat), l.length - i ≤ m → i ≤ l.length → ∀ (ac : Act) (w : World) (S : Stab) (L : Loc), CS Mo3 f.ntmps w0 S0 L0 (mkFr K25 (kv25 a c l n j l.length i)) [] ac w S L → RoundWp Mo3.P (lpc T0 11 25) Q ac w := by
  have hf' : Mo3.fn 11 = some f := hf
  obtain ⟨hfu, hfo⟩ := Mo3_ok.fns 11 f hf'
  obtain ⟨body, hbody, hcode, hdis, _⟩ := fnOK_spec hfo
  have hsz : 122 < f.ntmps := by
    have := m_size
    rw [hf] at this
    simp only [Option.map_some, Option.some.injEq, Nat.blt_eq] at this
    exact this
  have hm : (25, lpc T0 11 25) ∈ loopsIn body := by
    have := m_lpc
    unfold loopOf at this
    simp only [hf, hbody] at this
    exact loopIn_mem this
  have hok := codeOK_loop _ _ hcode _ hm
  have hl := loopsIn_sub _ _ hm
  simp only at hok hl
  rw [m_parts, m_30] at hok hl
  simp only [codeOK, Bool.and_eq_true] at hok
  obtain ⟨k25, k25c, ⟨k26, k27, k29, k30h, k30⟩, k34⟩ := hok
  have hl25 : ∀ p ∈ loopsIn m25, p ∈ loopsIn body := fun p hp => hl p (by simp only [loopsIn, List.mem_append]; exact .inl hp)
  have hl25c : ∀ p ∈ loopsIn m25c, p ∈ loopsIn body := fun p hp => hl p (by simp only [loopsIn, List.mem_append]; exact .inr (.inl hp))
  have hl26 : ∀ p ∈ loopsIn m26, p ∈ loopsIn body := fun p hp => hl p (by simp only [loopsIn, List.mem_append]; exact .inr (.inr (.inl (.inl hp))))
  have hl27 : ∀ p ∈ loopsIn m27, p ∈ loopsIn body := fun p hp => hl p (by simp only [loopsIn, List.mem_append]; exact .inr (.inr (.inl (.inr (.inl hp)))))
  have hl34 : ∀ p ∈ loopsIn m34, p ∈ loopsIn body := fun p hp => hl p (by simp only [loopsIn, List.mem_append]; exact .inr (.inr (.inr hp)))
  have hl30 : ∀ p ∈ loopsIn m30r, p ∈ loopsIn body := fun p hp => hl p (by
    simp only [loopsIn, List.mem_append]
    refine .inr (.inr (.inl (.inr (.inr (.inr ?_)))))
    split
    · exact List.mem_cons_of_mem _ (List.mem_append.2 (.inr hp))
    · exact List.mem_append.2 (.inr hp))
  have hlen := sm_le hsm
  intro m
  induction m with
  | zero =>
    intro i hm1 hi ac w S L hcs
    have : i = l.length := by omega
    subst this
    refine RoundWp.unroll ?_
    rw [m_parts]
    refine wp_seq (piece Mo3_ok hf' hbody k25 hl25 ((nm25 ..).trans (by simp only [dec_ll]; rfl)) hL hcs fun a' w' S' L' h1 => ?_)
    exact wp_seq (pieceX Mo3_ok hf' hbody k25c hl25c (nm25x ..) hL h1 fun a' w' S' L' h2 => hQ _ _ _ _ h2)
  | succ m ih =>
    intro i hm1 hi ac w S L hcs
    by_cases he : i = l.length
    · subst he
      refine RoundWp.unroll ?_
      rw [m_parts]
      refine wp_seq (piece Mo3_ok hf' hbody k25 hl25 ((nm25 ..).trans (by simp only [dec_ll]; rfl)) hL hcs fun a' w' S' L' h1 => ?_)
      exact wp_seq (pieceX Mo3_ok hf' hbody k25c hl25c (nm25x ..) hL h1 fun a' w' S' L' h2 => hQ _ _ _ _ h2)
    · have hlt : i < l.length := by omega
      have hx := List.getElem?_eq_getElem hlt
      generalize l[i] = s at hx
      have hg := hall s (List.mem_of_getElem? hx)
      have hg' := hg
      unfold Rgg.good at hg'
      simp only [Bool.and_eq_true] at hg'
      obtain ⟨⟨h5, hasc⟩, _⟩ := hg'
      have h5 := Nat.le_of_ble_eq_true h5
      refine RoundWp.unroll ?_
      rw [m_parts]
      refine wp_seq (piece Mo3_ok hf' hbody k25 hl25 ((nm25 ..).trans (by simp only [dec_lt hlt]; rfl)) hL hcs fun a1 w1 S1 L1 h1 => ?_)
      refine wp_seq (piece Mo3_ok hf' hbody k25c hl25c (nm25c ..) hL h1 fun a2 w2 S2 L2 h2 => ?_)
      refine wp_seq (wp_block (wp_seq (piece Mo3_ok hf' hbody k26 hl26 ((nm26 ..).trans (by simp only [dec_lt hlt, dec_ge, toNat_cast, hx, oM, cond_true]; rfl)) hL h2 fun a3 w3 S3 L3 h3 => ?_)))
      refine wp_seq (piece Mo3_ok hf' hbody k27 hl27 ((nm27 ..).trans (by rw [decide_eq_false (show ¬ ((s.size : Int) > 5) by omega), cond_false])) hL h3 fun a4 w4 S4 L4 h4 => ?_)
      refine wp_seq (wp_start m_start h4 (by omega) (by omega) (s := s) rfl m_str fun a5 w5 b h5 hw5 hb5 => ?_)
      have h6 := h5.keepFr K30
      refine wp_block (RoundWp.loop (str_rounds Mo3_ok hf' hbody m_next (by omega) (by omega) k30 hl30 (K := K30) (kv := kv30 s a c l n j l.length i) (s := s) (id := 8) (I := fun _ => True) (kv30_it s a c l n j l.length i)
        (fun pos hp => by rw [decode_ascii s pos hp (Rgg.asc_at hasc hp)]; exact Nat.one_pos) (fun _ _ _ => trivial)
        (fun pos b' _ hp => m_round hsm hg hp) (fun b' => nm30x s a c l n j l.length i 0 0 b') (b := b) (fun a' w' S' L' h7 => ?_) hb5 s.size 0 (Nat.sub_le _ _) trivial a5 w5 _ _ h6 hw5))
      refine piece Mo3_ok hf' hbody k34 hl34 (nm34 ..) hL h7 fun a8 w8 S8 L8 h8 => ?_
      rw [wrap_succ (by omega)] at h8
      exact ih (i + 1) (by omega) (by omega) a8 w8 S8 L8 h8
theorem l11_25_run : ∀ base kv H o kv' H', (l11_25 base kv H).val = some (o, kv', H') → LoopOK Mo3 11 25 base kv H o kv' H' := by
  intro base kv H o kv' H' hv
  unfold l11_25 at hv
  split at hv
  · rename_i l a c n j l2 q hb
    obtain rfl := Nat.eq_of_beq_eq_true hb
    obtain ⟨hl, hv2⟩ := guard_val hv
    simp only [Bool.and_eq_true, decide_eq_true_eq] at hl
    obtain ⟨⟨⟨rfl, rfl⟩, hsm⟩, hall⟩ := hl
    rw [List.all_eq_true] at hall
    have e := leaf_val hv2
    injection e with e1 e2
    injection e2 with e2 e3
    subst e1 e2 e3
    refine ⟨fun _ => Nat.zero_le _, ?_⟩
    intro f c' hf hlo w0 S0 L0 ac w S L _ hL hcs Q hQ
    have hlo' : loopOf T0.fn 11 25 = some c' := hlo
    rw [m_lpc] at hlo'
    cases hlo'
    exact l11_25_walk hf hsm hall (fun r => hL r (Nat.zero_le _)) hQ l2.length 0 (Nat.sub_le _ _) (Nat.zero_le _) ac w S L hcs
  · cases hv
noncomputable def Mo4 : Tab := Mo3.addLoop 11 25 l11_25
theorem Mo4_ok : TabOK Mo4 := Mo3_ok.addLoop (g := 11) (lid := 25) (r := l11_25) fun b k H o k' H' hv => by refine LoopOK.tab ?_ ?_ ?_ ?_ (l11_25_run b k H o k' H' hv) <;> rfl
end Go.Ev.Rag
