/- Sets told apart with the same rest: tables and normal forms. -/
import Derived.Test.YtajhpbahjindkaaDoorRk
import Derived.Test.YtajhpbahjindkaaDoorRl
import Derived.Test.YtajhpbahjindkaaDoorRm
set_option linter.unusedVariables false
set_option linter.unusedSimpArgs false
namespace Rgg
open Go
def otF (l : List Bool) (q : Nat) : List Bool := (List.range 32).map fun n => decide (n < q) && !at_ l n
def cuL (K : Int) (bags : List ByteArray) : List ByteArray := bif opE K bags == 0 then wrt K (fun n => !(miss K (otF (opF K bags) (2 ^ K.toNat)) (dif (2 ^ K.toNat - 1) n)).isEmpty) else []
def woS (a b : ByteArray) : ByteArray := ⟨((bts a).filter fun c => !win b c).toArray⟩
def cntR (bags : List ByteArray) (s x : ByteArray) : Nat := (bags.filter fun b => woS b s == x).length
def cuAt (K : Int) (bags : List ByteArray) (s x : ByteArray) : Bool := (cntR bags s x : Int) == ((paR K s).length : Int)
def cuR (K : Int) (bags : List ByteArray) (s : ByteArray) : Bool := (setsL K).any fun x => cuAt K bags s x
def cbR (K : Int) (bags : List ByteArray) : List ByteArray := bif ckE K bags == 0 then (setsL K).filter (cuR K bags) else []
end Rgg
namespace Go.Ev.Rag
open Go Go.Ev
set_option maxRecDepth 1000000
set_option maxHeartbeats 0
set_option linter.unusedVariables false
theorem nl26 (again : Ag) (K q i al : Int) (l o : List Bool) : lpStep R3 26 7 0 (lpc R3 26 7) again [vi K, ps 0, ps 1, ps 2, vi q, vi i] [some (rF K l), some ⟨[vi al], true, 3, false, false, none⟩, some ⟨[ps 3], true, 68, false, true, none⟩, some (rF K o)] = (bif decide (i < q) then bif decide (0 ≤ i) then bif decide (i < (↑32 : Int)) then oM l[i.toNat]? fun x => bif decide (0 ≤ i) then bif decide (i < (↑32 : Int)) then oM o[i.toNat]? fun x_1 => again [vi K, .ps 0 0 0 0, .ps 1 0 0 0, .ps 2 0 0 0, vi q, vi (IntKind.i64.wrap (i + 1))] [some ⟨[vi K, .run .bool l], true, 89, false, false, none⟩, some ⟨[vi al], true, 3, false, false, none⟩, some { c := [.ps 3 0 0 0], vr := true, ty := 68, fz := false, loose := true : Row }, some ⟨[vi K, .run .bool (o.set i.toNat !x)], true, 89, false, false, none⟩] else none else none else none else none else some (.ext 0, [vi K, .ps 0 0 0 0, .ps 1 0 0 0, .ps 2 0 0 0, vi q, vi i], [some ⟨[vi K, .run .bool l], true, 89, false, false, none⟩, some ⟨[vi al], true, 3, false, false, none⟩, some ⟨[.ps 3 0 0 0], true, 68, false, true, none⟩, some ⟨[vi K, .run .bool o], true, 89, false, false, none⟩])) := by kernel_rfl
theorem nl100 (again : Ag) (a b out : ByteArray) (i : Int) : lpStep Q3 100 3 0 (lpc Q3 100 3) again [vS a, vS b, vS out, vi i] [] = (bif decide (i < (↑a.size : Int)) then bif decide (0 ≤ i) then oM a[i.toNat]? fun x => bif decide (b.size ≤ 100000) && decide (0 ≤ (↑x.toNat : Int)) && decide ((↑x.toNat : Int) < 256) then bif !Rgg.win b (UInt8.ofNat (↑x.toNat : Int).toNat) then bif decide (0 ≤ i) then bif decide (i ≤ IntKind.i64.wrap (i + 1)) then bif decide (IntKind.i64.wrap (i + 1) ≤ (↑a.size : Int)) then bif room (out.size + (a.extract ((some i.toNat).getD 0) ((some (IntKind.i64.wrap (i + 1)).toNat).getD a.size)).size) 1 then again [.sc (.string a), .sc (.string b), .sc (.string (out ++ a.extract ((some i.toNat).getD 0) ((some (IntKind.i64.wrap (i + 1)).toNat).getD a.size))), vi (IntKind.i64.wrap (i + 1))] [] else none else none else none else none else again [.sc (.string a), .sc (.string b), .sc (.string out), vi (IntKind.i64.wrap (i + 1))] [] else none else none else some (.ext 0, [.sc (.string a), .sc (.string b), .sc (.string out), vi i], [])) := by kernel_rfl
def l26_7t (K K2 K3 q al : Int) (l o : List Bool) : Tree (Out × List AV × Hp) := .br (fam l && decide (K2 = K) && decide (K3 = K) && decide (0 ≤ q) && decide (q ≤ 32) && decide (o = List.replicate 32 false)) (.leaf (.ext 0, [vi K, ps 0, ps 1, ps 2, vi q, vi q], [some (rF K l), some ⟨[vi al], true, 3, false, false, none⟩, some ⟨[ps 3], true, 68, false, true, none⟩, some (rF K (Rgg.otF l q.toNat))])) .fail
def l26_7 (base : Nat) (kv : List AV) (H : Hp) : Tree (Out × List AV × Hp) := match Nat.beq base 0, kv, H with
  | true, [(.sc (.int .i64 K)), (.ps 0 0 0 0), (.ps 1 0 0 0), (.ps 2 0 0 0), (.sc (.int .i64 q)), (.sc (.int .i64 0))], [some ⟨[.sc (.int .i64 K2), .run .bool l], true, 89, false, false, none⟩, some ⟨[(.sc (.int .i64 al))], true, 3, false, false, none⟩, some ⟨[(.ps 3 0 0 0)], true, 68, false, true, none⟩, some ⟨[.sc (.int .i64 K3), .run .bool o], true, 89, false, false, none⟩] => l26_7t K K2 K3 q al l o
  | _, _, _ => .fail
theorem l26_7_ok {T : Tab} (hT : TabOK T) (hlo : loopOf T.fn 26 7 = some (lpc T 26 7)) (h : ∀ (K K2 K3 q al : Int) (l o : List Bool) (r : Out × List AV × Hp), (l26_7t K K2 K3 q al l o).val = some r → ∃ mm, lpRun T 26 7 0 (lpc T 26 7) mm [vi K, ps 0, ps 1, ps 2, vi q, vi 0] [some (rF K2 l), some (⟨[vi al], true, 3, false, false, none⟩), some (⟨[ps 3], true, 68, false, true, none⟩), some (rF K3 o)] = some r) : ∀ base kv H o kv' H', (l26_7 base kv H).val = some (o, kv', H') → LoopOK T 26 7 base kv H o kv' H' := by
  intro base kv H o kv' H' hv
  unfold l26_7 at hv
  split at hv
  · rename_i hb
    obtain rfl := Nat.eq_of_beq_eq_true hb
    exact loop_ok hT hlo (h _ _ _ _ _ _ _ _ hv)
  · cases hv
noncomputable def B1 : Tab := (R3).addLoop 26 7 l26_7
theorem nf26 (K : Int) (bags : List ByteArray) : evBody B1 26 [vi K, lS bags] [] = (bif Rgg.opE K bags == 0 then bif decide (0 ≤ K) then bif decide ((Rgg.opF K bags).length = 32) && decide (K = K) && decide (K = K) && decide (0 ≤ IntKind.i64.wrap (IntKind.i64.wrap (IntKind.i64.wrap (1 * 2 ^ Min.min K.toNat 64) - 1) + 1)) && decide (IntKind.i64.wrap (IntKind.i64.wrap (IntKind.i64.wrap (1 * 2 ^ Min.min K.toNat 64) - 1) + 1) ≤ 32) && decide (List.replicate 32 false = List.replicate 32 false) then bif decide (32 = 32) && decide (1 ≤ K) && decide (K ≤ 5) && decide (0 ≤ IntKind.i64.wrap (IntKind.i64.wrap (1 * 2 ^ Min.min K.toNat 64) - 1)) && decide (IntKind.i64.wrap (IntKind.i64.wrap (1 * 2 ^ Min.min K.toNat 64) - 1) < 32) && decide (1 ≤ K) && decide (K ≤ 5) then some (.tuple [.os 0 0 0 (Rgg.wrt K fun n => !(Rgg.miss K (Rgg.otF (Rgg.opF K bags) (IntKind.i64.wrap (IntKind.i64.wrap (IntKind.i64.wrap (1 * 2 ^ Min.min K.toNat IntKind.i64.bits) - 1) + 1)).toNat) (Rgg.dif (IntKind.i64.wrap (IntKind.i64.wrap (1 * 2 ^ Min.min K.toNat IntKind.i64.bits) - 1)).toNat n)).isEmpty).length true false true, vi 0], [some ⟨[.run .str (Rgg.wrt K fun n => !(Rgg.miss K (Rgg.otF (Rgg.opF K bags) (IntKind.i64.wrap (IntKind.i64.wrap (IntKind.i64.wrap (1 * 2 ^ Min.min K.toNat IntKind.i64.bits) - 1) + 1)).toNat) (Rgg.dif (IntKind.i64.wrap (IntKind.i64.wrap (1 * 2 ^ Min.min K.toNat IntKind.i64.bits) - 1)).toNat n)).isEmpty)], false, Rgg.tyS (Rgg.wrt K fun n => !(Rgg.miss K (Rgg.otF (Rgg.opF K bags) (IntKind.i64.wrap (IntKind.i64.wrap (IntKind.i64.wrap (1 * 2 ^ Min.min K.toNat IntKind.i64.bits) - 1) + 1)).toNat) (Rgg.dif (IntKind.i64.wrap (IntKind.i64.wrap (1 * 2 ^ Min.min K.toNat IntKind.i64.bits) - 1)).toNat n)).isEmpty), false, false, none⟩]) else none else none else none else bif Rgg.opE K bags != 0 then some (.tuple [osW 0 0, vi (Rgg.opE K bags)], [some { c := [.run .str []], vr := false, ty := 0, fz := false, loose := false : Row }]) else bif decide (0 ≤ K) then none else none) := by kernel_rfl
def c26t (K : Int) (bags : List ByteArray) : Tree (AV × Hp) := .leaf (.tuple [osW 0 (Rgg.cuL K bags).length, vi (Rgg.opE K bags)], [some (rS (Rgg.cuL K bags))])
def c26 (args : List AV) (H : Hp) : Tree (AV × Hp) := match args, H with
  | [(.sc (.int .i64 K)), (.sl .str bags false)], [] => c26t K bags
  | _, _ => .fail
theorem c26_ok {T : Tab} (hT : TabOK T) (h : ∀ (K : Int) (bags : List ByteArray) (r : AV × Hp), (c26t K bags).val = some r → evBody T 26 [vi K, lS bags] [] = some r) : ∀ args H v H', (c26 args H).val = some (v, H') → CallOK T 26 args H v H' := by
  intro args H v H' hv
  unfold c26 at hv
  split at hv
  · exact evBody_sound hT (h _ _ _ hv)
  · cases hv
def l100_3t (a b e : ByteArray) : Tree (Out × List AV × Hp) := .br (decide (a.size ≤ 100000) && decide (b.size ≤ 100000) && decide (e.size = 0)) (.leaf (.ext 0, [vS a, vS b, vS (Rgg.woS a b), vi a.size], [])) .fail
def l100_3 (base : Nat) (kv : List AV) (H : Hp) : Tree (Out × List AV × Hp) := match Nat.beq base 0, kv, H with
  | true, [(.sc (.string a)), (.sc (.string b)), (.sc (.string e)), (.sc (.int .i64 0))], [] => l100_3t a b e
  | _, _, _ => .fail
theorem l100_3_ok {T : Tab} (hT : TabOK T) (hlo : loopOf T.fn 100 3 = some (lpc T 100 3)) (h : ∀ (a b e : ByteArray) (r : Out × List AV × Hp), (l100_3t a b e).val = some r → ∃ mm, lpRun T 100 3 0 (lpc T 100 3) mm [vS a, vS b, vS e, vi 0] [] = some r) : ∀ base kv H o kv' H', (l100_3 base kv H).val = some (o, kv', H') → LoopOK T 100 3 base kv H o kv' H' := by
  intro base kv H o kv' H' hv
  unfold l100_3 at hv
  split at hv
  · rename_i hb
    obtain rfl := Nat.eq_of_beq_eq_true hb
    exact loop_ok hT hlo (h _ _ _ _ hv)
  · cases hv
noncomputable def B2 : Tab := (Q3).addLoop 100 3 l100_3
theorem nf100 (a b : ByteArray) : evBody B2 100 [vS a, vS b] [] = (bif decide (a.size ≤ 100000) && decide (b.size ≤ 100000) && decide (0 = 0) then some (.sc (.string (Rgg.woS a b)), []) else none) := by kernel_rfl
def c100t (a b : ByteArray) : Tree (AV × Hp) := .br (decide (a.size ≤ 100000) && decide (b.size ≤ 100000)) (.leaf (vS (Rgg.woS a b), [])) .fail
def c100 (args : List AV) (H : Hp) : Tree (AV × Hp) := match args, H with
  | [(.sc (.string a)), (.sc (.string b))], [] => c100t a b
  | _, _ => .fail
theorem c100_ok {T : Tab} (hT : TabOK T) (h : ∀ (a b : ByteArray) (r : AV × Hp), (c100t a b).val = some r → evBody T 100 [vS a, vS b] [] = some r) : ∀ args H v H', (c100 args H).val = some (v, H') → CallOK T 100 args H v H' := by
  intro args H v H' hv
  unfold c100 at hv
  split at hv
  · exact evBody_sound hT (h _ _ _ hv)
  · cases hv
noncomputable def B3 : Tab := (U1).addCall 100 c100
theorem nl77_7 (again : Ag) (K j n k : Int) (bags al : List ByteArray) (s : ByteArray) : lpStep B3 77 7 0 (lpc B3 77 7) again [vi K, lS bags, vS s, osW 0 al.length, vi j, vi n, vi k] [some (rowS al 9)] = (bif decide (k < (↑bags.length : Int)) then bif decide (0 ≤ k) then bif decide (k < (↑bags.length : Int)) then oM bags[k.toNat]? fun x => bif decide (ByteArray.size x ≤ 100000) && decide (s.size ≤ 100000) then bif decide (0 ≤ j) then bif decide (j < (↑al.length : Int)) then oM al[j.toNat]? fun x_1 => bif Rgg.woS x s == x_1 then again [vi K, .sl .str bags false, .sc (.string s), osW 0 al.length, vi j, vi (IntKind.i64.wrap (n + 1)), vi (IntKind.i64.wrap (k + 1))] [some ⟨[.run .str al], false, 9, false, false, none⟩] else again [vi K, .sl .str bags false, .sc (.string s), osW 0 al.length, vi j, vi n, vi (IntKind.i64.wrap (k + 1))] [some ⟨[.run .str al], false, 9, false, false, none⟩] else none else none else none else none else none else some (.ext 2, [vi K, .sl .str bags false, .sc (.string s), osW 0 al.length, vi j, vi n, vi k], [some { c := [.run .str al], vr := false, ty := 9, fz := false, loose := false : Row }])) := by kernel_rfl
def l77_7t (K j : Int) (bags al : List ByteArray) (s : ByteArray) (m : Nat) : Tree (Out × List AV × Hp) := .br (sm bags && Rgg.szs bags && sm al && decide (s.size ≤ 100000) && decide (m = al.length) && decide (0 ≤ j) && decide (j < (al.length : Int))) (.leaf (.ext 2, [vi K, lS bags, vS s, osW 0 al.length, vi j, vi (Rgg.cntR bags s (al.getD j.toNat ⟨#[]⟩) : Nat), vi bags.length], [some (rowS al 9)])) .fail
def l77_7 (base : Nat) (kv : List AV) (H : Hp) : Tree (Out × List AV × Hp) := match Nat.beq base 0, kv, H with
  | true, [(.sc (.int .i64 K)), (.sl .str bags false), (.sc (.string s)), (.os 0 0 0 m true false true), (.sc (.int .i64 j)), (.sc (.int .i64 0)), (.sc (.int .i64 0))], [some ⟨[.run .str al], false, 9, false, false, none⟩] => l77_7t K j bags al s m
  | _, _, _ => .fail
theorem l77_7_ok {T : Tab} (hT : TabOK T) (hlo : loopOf T.fn 77 7 = some (lpc T 77 7)) (h : ∀ (K j : Int) (bags al : List ByteArray) (s : ByteArray) (m : Nat) (r : Out × List AV × Hp), (l77_7t K j bags al s m).val = some r → ∃ mm, lpRun T 77 7 0 (lpc T 77 7) mm [vi K, lS bags, vS s, osW 0 m, vi j, vi 0, vi 0] [some (rowS al 9)] = some r) : ∀ base kv H o kv' H', (l77_7 base kv H).val = some (o, kv', H') → LoopOK T 77 7 base kv H o kv' H' := by
  intro base kv H o kv' H' hv
  unfold l77_7 at hv
  split at hv
  · rename_i hb
    obtain rfl := Nat.eq_of_beq_eq_true hb
    exact loop_ok hT hlo (h _ _ _ _ _ _ _ hv)
  · cases hv
noncomputable def B4 : Tab := (B3).addLoop 77 7 l77_7
theorem nl77_3 (again : Ag) (K i : Int) (bags al : List ByteArray) (s : ByteArray) : lpStep B4 77 3 0 (lpc B4 77 3) again [vi K, lS bags, vS s, vb false, osW 0 al.length, vi i] [some (rowS al 9)] = (bif decide (i < (↑al.length : Int)) then bif sm bags && Rgg.szs bags && sm al && decide (s.size ≤ 100000) && decide (al.length = al.length) && decide (0 ≤ i) && decide (i < (↑al.length : Int)) then bif decide (1 ≤ K) && decide (K ≤ 5) && decide (s.size ≤ 100000) then bif (↑(Rgg.cntR bags s (al.getD i.toNat { data := #[] : ByteArray })) : Int) == (↑(Rgg.paR K s).length : Int) then some (.ret, [vi K, .sl .str bags false, .sc (.string s), vb true, osW 0 al.length, vi i], [some ⟨[.run .str al], false, 9, false, false, none⟩]) else again [vi K, .sl .str bags false, .sc (.string s), .dead, osW 0 al.length, vi (IntKind.i64.wrap (i + 1))] [some { c := [.run .str al], vr := false, ty := 9, fz := false, loose := false : Row }] else none else none else some (.ext 0, [vi K, .sl .str bags false, .sc (.string s), vb false, osW 0 al.length, vi i], [some { c := [.run .str al], vr := false, ty := 9, fz := false, loose := false : Row }])) := by kernel_rfl
theorem nl77_3d (again : Ag) (K i : Int) (bags al : List ByteArray) (s : ByteArray) : lpStep B4 77 3 0 (lpc B4 77 3) again [vi K, lS bags, vS s, .dead, osW 0 al.length, vi i] [some (rowS al 9)] = (bif decide (i < (↑al.length : Int)) then bif sm bags && Rgg.szs bags && sm al && decide (s.size ≤ 100000) && decide (al.length = al.length) && decide (0 ≤ i) && decide (i < (↑al.length : Int)) then bif decide (1 ≤ K) && decide (K ≤ 5) && decide (s.size ≤ 100000) then bif (↑(Rgg.cntR bags s (al.getD i.toNat { data := #[] : ByteArray })) : Int) == (↑(Rgg.paR K s).length : Int) then some (.ret, [vi K, .sl .str bags false, .sc (.string s), vb true, osW 0 al.length, vi i], [some ⟨[.run .str al], false, 9, false, false, none⟩]) else again [vi K, .sl .str bags false, .sc (.string s), .dead, osW 0 al.length, vi (IntKind.i64.wrap (i + 1))] [some { c := [.run .str al], vr := false, ty := 9, fz := false, loose := false : Row }] else none else none else some (.ext 0, [vi K, .sl .str bags false, .sc (.string s), .dead, osW 0 al.length, vi i], [some { c := [.run .str al], vr := false, ty := 9, fz := false, loose := false : Row }])) := by kernel_rfl
def l77_3t (K : Int) (bags al : List ByteArray) (s : ByteArray) (m : Nat) : Tree (Out × List AV × Hp) := .br (decide (1 ≤ K) && decide (K ≤ 5) && sm bags && Rgg.szs bags && sm al && decide (s.size ≤ 100000) && decide (m = al.length) && !al.isEmpty) (.br (al.any fun x => Rgg.cuAt K bags s x) (.leaf (.ret, [vi K, lS bags, vS s, vb true, osW 0 al.length, vi (al.findIdx fun x => Rgg.cuAt K bags s x)], [some (rowS al 9)])) (.leaf (.ext 0, [vi K, lS bags, vS s, .dead, osW 0 al.length, vi al.length], [some (rowS al 9)]))) .fail
def l77_3 (base : Nat) (kv : List AV) (H : Hp) : Tree (Out × List AV × Hp) := match Nat.beq base 0, kv, H with
  | true, [(.sc (.int .i64 K)), (.sl .str bags false), (.sc (.string s)), (.sc (.bool false)), (.os 0 0 0 m true false true), (.sc (.int .i64 0))], [some ⟨[.run .str al], false, 9, false, false, none⟩] => l77_3t K bags al s m
  | _, _, _ => .fail
theorem l77_3_ok {T : Tab} (hT : TabOK T) (hlo : loopOf T.fn 77 3 = some (lpc T 77 3)) (h : ∀ (K : Int) (bags al : List ByteArray) (s : ByteArray) (m : Nat) (r : Out × List AV × Hp), (l77_3t K bags al s m).val = some r → ∃ mm, lpRun T 77 3 0 (lpc T 77 3) mm [vi K, lS bags, vS s, vb false, osW 0 m, vi 0] [some (rowS al 9)] = some r) : ∀ base kv H o kv' H', (l77_3 base kv H).val = some (o, kv', H') → LoopOK T 77 3 base kv H o kv' H' := by
  intro base kv H o kv' H' hv
  unfold l77_3 at hv
  split at hv
  · rename_i hb
    obtain rfl := Nat.eq_of_beq_eq_true hb
    exact loop_ok hT hlo (h _ _ _ _ _ _ hv)
  · cases hv
noncomputable def B5 : Tab := (B4).addLoop 77 3 l77_3
theorem nf77 (K : Int) (bags : List ByteArray) (s : ByteArray) : evBody B5 77 [vi K, lS bags, vS s] [] = (bif decide (1 ≤ K) && decide (K ≤ 5) then bif decide (1 ≤ K) && decide (K ≤ 5) && sm bags && Rgg.szs bags && sm (Rgg.setsL K) && decide (s.size ≤ 100000) && decide ((Rgg.setsL K).length = (Rgg.setsL K).length) && !(Rgg.setsL K).isEmpty then bif (Rgg.setsL K).any fun x => Rgg.cuAt K bags s x then some (vb true, []) else some (vb false, []) else none else none) := by kernel_rfl
def c77t (K : Int) (bags : List ByteArray) (s : ByteArray) : Tree (AV × Hp) := .br (decide (1 ≤ K) && decide (K ≤ 5) && sm bags && Rgg.szs bags && decide (s.size ≤ 100000)) (.leaf (vb (Rgg.cuR K bags s), [])) .fail
def c77 (args : List AV) (H : Hp) : Tree (AV × Hp) := match args, H with
  | [(.sc (.int .i64 K)), (.sl .str bags false), (.sc (.string s))], [] => c77t K bags s
  | _, _ => .fail
theorem c77_ok {T : Tab} (hT : TabOK T) (h : ∀ (K : Int) (bags : List ByteArray) (s : ByteArray) (r : AV × Hp), (c77t K bags s).val = some r → evBody T 77 [vi K, lS bags, vS s] [] = some r) : ∀ args H v H', (c77 args H).val = some (v, H') → CallOK T 77 args H v H' := by
  intro args H v H' hv
  unfold c77 at hv
  split at hv
  · exact evBody_sound hT (h _ _ _ _ hv)
  · cases hv
noncomputable def B6 : Tab := (U1).addCall 77 c77
theorem nl27 (again : Ag) (K i : Int) (bags out al : List ByteArray) (ty : TypeId) : lpStep B6 27 7 0 (lpc B6 27 7) again [vi K, lS bags, osW 0 out.length, osW 1 al.length, vi i] [some (rowS out ty), some (rowS al 9)] = (bif decide (i < (↑al.length : Int)) then bif decide (0 ≤ i) then bif decide (i < (↑al.length : Int)) then oM al[i.toNat]? fun x => bif decide (1 ≤ K) && decide (K ≤ 5) && sm bags && Rgg.szs bags && decide (ByteArray.size x ≤ 100000) then bif Rgg.cuR K bags x then bif decide (0 ≤ i) then bif decide (i < (↑al.length : Int)) then oM al[i.toNat]? fun x => bif room (out.length + 1) 16 then again [vi K, .sl .str bags false, osW 0 (out.length + 1), osW 1 al.length, vi (IntKind.i64.wrap (i + 1))] [some ⟨[.run .str (out ++ [x])], false, 9, false, false, none⟩, some ⟨[.run .str al], false, 9, false, false, none⟩] else none else none else none else again [vi K, .sl .str bags false, osW 0 out.length, osW 1 al.length, vi (IntKind.i64.wrap (i + 1))] [some ⟨[.run .str out], false, ty, false, false, none⟩, some ⟨[.run .str al], false, 9, false, false, none⟩] else none else none else none else some (.ext 0, [vi K, .sl .str bags false, osW 0 out.length, osW 1 al.length, vi i], [some { c := [.run .str out], vr := false, ty := ty, fz := false, loose := false : Row }, some { c := [.run .str al], vr := false, ty := 9, fz := false, loose := false : Row }])) := by kernel_rfl
def l27_7t (K : Int) (bags al : List ByteArray) (k : Nat) : Tree (Out × List AV × Hp) := .br (decide (1 ≤ K) && decide (K ≤ 5) && sm bags && Rgg.szs bags && sm al && Rgg.szs al && decide (k = al.length)) (.leaf (.ext 0, [vi K, lS bags, osW 0 (al.filter (Rgg.cuR K bags)).length, osW 1 al.length, vi al.length], [some (rS (al.filter (Rgg.cuR K bags))), some (rowS al 9)])) .fail
def l27_7 (base : Nat) (kv : List AV) (H : Hp) : Tree (Out × List AV × Hp) := match Nat.beq base 0, kv, H with
  | true, [(.sc (.int .i64 K)), (.sl .str bags false), (.os 0 0 0 0 true false true), (.os 1 0 0 k true false true), (.sc (.int .i64 0))], [some ⟨[.run .str []], false, 0, false, false, none⟩, some ⟨[.run .str al], false, 9, false, false, none⟩] => l27_7t K bags al k
  | _, _, _ => .fail
theorem l27_7_ok {T : Tab} (hT : TabOK T) (hlo : loopOf T.fn 27 7 = some (lpc T 27 7)) (h : ∀ (K : Int) (bags al : List ByteArray) (k : Nat) (r : Out × List AV × Hp), (l27_7t K bags al k).val = some r → ∃ mm, lpRun T 27 7 0 (lpc T 27 7) mm [vi K, lS bags, osW 0 0, osW 1 k, vi 0] [some (rowS [] 0), some (rowS al 9)] = some r) : ∀ base kv H o kv' H', (l27_7 base kv H).val = some (o, kv', H') → LoopOK T 27 7 base kv H o kv' H' := by
  intro base kv H o kv' H' hv
  unfold l27_7 at hv
  split at hv
  · rename_i hb
    obtain rfl := Nat.eq_of_beq_eq_true hb
    exact loop_ok hT hlo (h _ _ _ _ _ hv)
  · cases hv
noncomputable def B7 : Tab := (B6).addLoop 27 7 l27_7
theorem nf27 (K : Int) (bags : List ByteArray) : evBody B7 27 [vi K, lS bags] [] = (bif Rgg.szs bags then bif Rgg.ckE K bags != 0 then some (.tuple [osW 0 0, vi (Rgg.ckE K bags)], [some { c := [.run .str []], vr := false, ty := 0, fz := false, loose := false : Row }]) else bif decide (1 ≤ K) && decide (K ≤ 5) then bif decide (1 ≤ K) && decide (K ≤ 5) && sm bags && Rgg.szs bags && sm (Rgg.setsL K) && Rgg.szs (Rgg.setsL K) && decide ((Rgg.setsL K).length = (Rgg.setsL K).length) then some (.tuple [.os 0 0 0 (List.filter (Rgg.cuR K bags) (Rgg.setsL K)).length true false true, vi 0], [some { c := [.run .str (List.filter (Rgg.cuR K bags) (Rgg.setsL K))], vr := false, ty := Rgg.tyS (List.filter (Rgg.cuR K bags) (Rgg.setsL K)), fz := false, loose := false : Row }]) else none else none else none) := by kernel_rfl
def c27t (K : Int) (bags : List ByteArray) : Tree (AV × Hp) := .br (sm bags && Rgg.szs bags) (.leaf (.tuple [osW 0 (Rgg.cbR K bags).length, vi (Rgg.ckE K bags)], [some (rS (Rgg.cbR K bags))])) .fail
def c27 (args : List AV) (H : Hp) : Tree (AV × Hp) := match args, H with
  | [(.sc (.int .i64 K)), (.sl .str bags false)], [] => c27t K bags
  | _, _ => .fail
theorem c27_ok {T : Tab} (hT : TabOK T) (h : ∀ (K : Int) (bags : List ByteArray) (r : AV × Hp), (c27t K bags).val = some r → evBody T 27 [vi K, lS bags] [] = some r) : ∀ args H v H', (c27 args H).val = some (v, H') → CallOK T 27 args H v H' := by
  intro args H v H' hv
  unfold c27 at hv
  split at hv
  · exact evBody_sound hT (h _ _ _ hv)
  · cases hv
end Go.Ev.Rag
namespace Rgg
open Go
theorem otF_len (l : List Bool) (q : Nat) : (otF l q).length = 32 := by unfold otF; rw [List.length_map, List.length_range]
theorem otF_get (l : List Bool) (q n : Nat) : (otF l q)[n]? = if n < 32 then some (decide (n < q) && !at_ l n) else none := by
  by_cases h : n < 32
  · rw [if_pos h]
    unfold otF
    rw [List.getElem?_map, List.getElem?_range h]; rfl
  · rw [if_neg h, List.getElem?_eq_none (by rw [otF_len]; omega)]
theorem otF_zero (l : List Bool) : otF l 0 = List.replicate 32 false := by
  refine List.ext_getElem? fun n => ?_
  rw [otF_get, List.getElem?_replicate]
  by_cases h : n < 32
  · rw [if_pos h, if_pos h]; rfl
  · rw [if_neg h, if_neg h]
theorem otF_succ (l : List Bool) {i : Nat} (hi : i < 32) : otF l (i + 1) = (otF l i).set i (!at_ l i) := by
  refine List.ext_getElem? fun n => ?_
  rw [List.getElem?_set, otF_get, otF_get, otF_len]
  by_cases h : i = n
  · subst h; rw [if_pos rfl, if_pos hi, if_pos hi, decide_eq_true (show i < i + 1 by omega)]; rfl
  · rw [if_neg h]
    by_cases h2 : n < 32
    · rw [if_pos h2, if_pos h2, decide_eq_decide.2 (show n < i + 1 ↔ n < i by omega)]
    · rw [if_neg h2, if_neg h2]
def woT (a b : ByteArray) (i : Nat) : ByteArray := ⟨(((bts a).take i).filter fun c => !win b c).toArray⟩
theorem woT_size (a b : ByteArray) (i : Nat) : (woT a b i).size ≤ i := by
  show (((bts a).take i).filter fun c => !win b c).toArray.size ≤ i
  rw [List.size_toArray]
  exact Nat.le_trans (List.length_filter_le _ _) (by rw [List.length_take]; omega)
theorem woT_end (a b : ByteArray) : woT a b a.size = woS a b := by
  unfold woT woS
  rw [List.take_of_length_le (by rw [bts_len]; exact Nat.le_refl _)]
theorem woT_succ {a b : ByteArray} {i : Nat} {x : UInt8} (hx : (bts a)[i]? = some x) : woT a b (i + 1) = bif !win b x then woT a b i ++ a.extract i (i + 1) else woT a b i := by
  unfold woT
  rw [List.take_add_one, hx, List.filter_append]
  cases h : win b x with
  | false => rw [Bool.not_false, cond_true, ba_app _ a i x hx]; simp [h]
  | true => simp [h]
theorem sets_ne {K : Int} (h1 : 1 ≤ K) (h5 : K ≤ 5) : (setsL K).isEmpty = false := by
  have : K = 1 ∨ K = 2 ∨ K = 3 ∨ K = 4 ∨ K = 5 := by omega
  rcases this with rfl | rfl | rfl | rfl | rfl <;> rfl
end Rgg
namespace Go.Ev.Rag
open Go Go.Ev Go.Proofs
set_option maxRecDepth 1000000
set_option linter.unusedVariables false
set_option linter.unusedSimpArgs false
theorem l26_7_run : ∀ base kv H o kv' H', (l26_7 base kv H).val = some (o, kv', H') → LoopOK R3 26 7 base kv H o kv' H' := l26_7_ok R3_ok (by kernel_rfl) (by
  intro K K2 K3 q al l o r hv
  obtain ⟨hl, hv2⟩ := guard_val hv
  simp only [Bool.and_eq_true, decide_eq_true_eq] at hl
  obtain ⟨⟨⟨⟨⟨hf, rfl⟩, rfl⟩, q0⟩, q32⟩, rfl⟩ := hl
  have hf := fam_len hf
  obtain ⟨q, rfl⟩ := Int.eq_ofNat_of_zero_le q0
  rw [toNat_cast] at hv2
  rw [← Rgg.otF_zero l]
  obtain ⟨mm, hm⟩ := steps_of (T := R3) (fid := 26) (lid := 7) (base := 0) (c := lpc R3 26 7) q (fun i => [vi K3, ps 0, ps 1, ps 2, vi q, vi (i : Nat)]) (fun i => [some (rF K3 l), some ⟨[vi al], true, 3, false, false, none⟩, some ⟨[ps 3], true, 68, false, true, none⟩, some (rF K3 (Rgg.otF l i))])
    (.ext 0, [vi K3, ps 0, ps 1, ps 2, vi q, vi q], [some (rF K3 l), some ⟨[vi al], true, 3, false, false, none⟩, some ⟨[ps 3], true, 68, false, true, none⟩, some (rF K3 (Rgg.otF l q))])
    (fun i hi again => by
      have h1 := Rgg.otF_len l i
      refine (nl26 ..).trans ?_
      rw [Rgg.otF_succ l (show i < 32 by omega), wrap_succ (by omega)]
      simp only [dec_lt hi, dec_ge, cond_true, toNat_cast, decide_eq_true (show (i : Int) < ((32 : Nat) : Int) by omega), decide_eq_true (show (i : Int) < 32 by omega), Rgg.at_get (l := l) (i := i) (by omega), Rgg.at_get (l := Rgg.otF l i) (i := i) (by omega), oM])
    (fun again => by
      refine (nl26 ..).trans ?_
      simp only [dec_ll, cond_false])
  exact ⟨mm, hm.trans (by rw [leaf_val hv2])⟩)
theorem B1_ok : TabOK B1 := by
  have h := R3_ok
  have h := h.addLoop (g := 26) (lid := 7) (r := l26_7) fun b k H o k' H' hv => by refine LoopOK.tab ?_ ?_ ?_ ?_ (l26_7_run b k H o k' H' hv) <;> rfl
  exact h
theorem c26_run : ∀ args H v H', (c26 args H).val = some (v, H') → CallOK B1 26 args H v H' := c26_ok B1_ok (by
  intro K bags r hv
  refine (nf26 ..).trans ?_
  rw [leaf_val hv]
  unfold Rgg.cuL
  cases h : Rgg.opE K bags == 0 with
  | false => rw [bne, h]; rfl
  | true =>
    obtain ⟨k1, k5, _⟩ := Rgg.opE_zero h
    rw [beq_iff_eq.1 h, Rgg.opF_fam]
    have : K = 1 ∨ K = 2 ∨ K = 3 ∨ K = 4 ∨ K = 5 := by omega
    rcases this with rfl | rfl | rfl | rfl | rfl <;> rfl)
theorem l100_3_run : ∀ base kv H o kv' H', (l100_3 base kv H).val = some (o, kv', H') → LoopOK Q3 100 3 base kv H o kv' H' := l100_3_ok Q3_ok (by kernel_rfl) (by
  intro a b e r hv
  obtain ⟨hl, hv2⟩ := guard_val hv
  simp only [Bool.and_eq_true, decide_eq_true_eq] at hl
  obtain ⟨⟨ha, hb⟩, he⟩ := hl
  have hlen := Rgg.bts_len a
  have he0 : e = Rgg.woT a b 0 := by
    apply ByteArray.ext
    exact (Array.eq_empty_of_size_eq_zero he).trans rfl
  subst he0
  obtain ⟨mm, hm⟩ := steps_of (T := Q3) (fid := 100) (lid := 3) (base := 0) (c := lpc Q3 100 3) a.size (fun i => [vS a, vS b, vS (Rgg.woT a b i), vi (i : Nat)]) (fun _ => [])
    (.ext 0, [vS a, vS b, vS (Rgg.woS a b), vi a.size], [])
    (fun i hi again => by
      refine (nl100 ..).trans ?_
      have hx : (Rgg.bts a)[i]? = some ((Rgg.bts a).getD i 0) := by
        rw [List.getD_eq_getElem?_getD, List.getElem?_eq_getElem (by omega)]; rfl
      generalize (Rgg.bts a).getD i 0 = x at hx
      have hb8 : x.toNat < 256 := UInt8.toNat_lt x
      have hsz := Rgg.woT_size a b i
      have hex : (a.extract i (i + 1)).size ≤ 1 := by
        show (a.extract i (i + 1)).data.size ≤ 1
        rw [ByteArray.data_extract, Array.size_extract]; omega
      rw [Rgg.woT_succ hx, wrap_succ (by omega)]
      simp only [dec_lt hi, dec_ge, cond_true, toNat_cast, Rgg.ba_get, hx, oM, decide_eq_true hb, decide_eq_true (show (x.toNat : Int) < 256 by omega), Bool.and_self, UInt8.ofNat_toNat, Option.getD_some]
      rw [decide_eq_true (show (i : Int) ≤ ((i + 1 : Nat) : Int) by omega), decide_eq_true (show ((i + 1 : Nat) : Int) ≤ (a.size : Int) by omega)]
      simp only [cond_true]
      rw [room_ok (n := (Rgg.woT a b i).size + (a.extract i (i + 1)).size) (b := 1) (by omega) (by omega)]
      cases Rgg.win b x <;> rfl)
    (fun again => by
      refine (nl100 ..).trans ?_
      simp only [dec_ll, cond_false, Rgg.woT_end])
  exact ⟨mm, hm.trans (by rw [leaf_val hv2])⟩)
theorem B2_ok : TabOK B2 := by
  have h := Q3_ok
  have h := h.addLoop (g := 100) (lid := 3) (r := l100_3) fun b k H o k' H' hv => by refine LoopOK.tab ?_ ?_ ?_ ?_ (l100_3_run b k H o k' H' hv) <;> rfl
  exact h
theorem c100_run : ∀ args H v H', (c100 args H).val = some (v, H') → CallOK B2 100 args H v H' := c100_ok B2_ok (by
  intro a b r hv
  obtain ⟨hl, hv2⟩ := guard_val hv
  refine (nf100 ..).trans ?_
  rw [hl, leaf_val hv2]; rfl)
theorem B3_ok : TabOK B3 := by
  have h := U1_ok
  have h := h.addCall (g := 100) (r := c100) fun a H v H' hv => by refine CallOK.tab ?_ ?_ (c100_run a H v H' hv) <;> rfl
  exact h
end Go.Ev.Rag
namespace Go.Ev.Rag
open Go Go.Ev Go.Proofs
set_option maxRecDepth 1000000
set_option linter.unusedVariables false
set_option linter.unusedSimpArgs false
theorem l77_7_run : ∀ base kv H o kv' H', (l77_7 base kv H).val = some (o, kv', H') → LoopOK B3 77 7 base kv H o kv' H' := l77_7_ok B3_ok (by kernel_rfl) (by
  intro K j l al s m r hv
  obtain ⟨hl, hv2⟩ := guard_val hv
  simp only [Bool.and_eq_true, decide_eq_true_eq] at hl
  obtain ⟨⟨⟨⟨⟨⟨hsm, hsz⟩, hsa⟩, hs⟩, rfl⟩, j0⟩, jl⟩ := hl
  have hsm := sm_le hsm
  obtain ⟨j, rfl⟩ := Int.eq_ofNat_of_zero_le j0
  rw [toNat_cast] at hv2
  have hj : j < al.length := by omega
  have hx := List.getElem?_eq_getElem hj
  rw [List.getD_eq_getElem?_getD, hx] at hv2
  generalize al[j] = x at hx hv2
  obtain ⟨mm, hm⟩ := steps_of (T := B3) (fid := 77) (lid := 7) (base := 0) (c := lpc B3 77 7) l.length (fun i => [vi K, lS l, vS s, osW 0 al.length, vi j, vi (((l.take i).filter fun b => Rgg.woS b s == x).length : Nat), vi (i : Nat)]) (fun i => [some (rowS al 9)])
    (.ext 2, [vi K, lS l, vS s, osW 0 al.length, vi j, vi (Rgg.cntR l s x : Nat), vi l.length], [some (rowS al 9)])
    (fun i hi again => by
      refine (nl77_7 ..).trans ?_
      have hy := List.getElem?_eq_getElem hi
      generalize l[i] = y at hy
      have hys := Rgg.szs_get hsz (List.mem_of_getElem? hy)
      have hln := Rgg.filt_len (fun b => Rgg.woS b s == x) l i
      rw [Rgg.filt_succ _ hy, wrap_succ (by omega), wrap_succ (by omega)]
      simp only [dec_lt hi, dec_lt hj, dec_ge, cond_true, toNat_cast, hx, hy, oM, decide_eq_true hys, decide_eq_true hs, Bool.and_self]
      cases Rgg.woS y s == x with
      | true => simp only [cond_true, List.length_append, List.length_singleton]
      | false => rfl)
    (fun again => by
      refine (nl77_7 ..).trans ?_
      simp only [dec_ll, cond_false, List.take_length]
      rfl)
  exact ⟨mm, hm.trans (by rw [leaf_val hv2]; rfl)⟩)
theorem B4_ok : TabOK B4 := by
  have h := B3_ok
  have h := h.addLoop (g := 77) (lid := 7) (r := l77_7) fun b k H o k' H' hv => by refine LoopOK.tab ?_ ?_ ?_ ?_ (l77_7_run b k H o k' H' hv) <;> rfl
  exact h
theorem l77_3_run : ∀ base kv H o kv' H', (l77_3 base kv H).val = some (o, kv', H') → LoopOK B4 77 3 base kv H o kv' H' := l77_3_ok B4_ok (by kernel_rfl) (by
  intro K l al s m r hv
  obtain ⟨hl, hv2⟩ := guard_val hv
  simp only [Bool.and_eq_true, decide_eq_true_eq] at hl
  obtain ⟨⟨⟨⟨⟨⟨⟨k1, k5⟩, hsm⟩, hsz⟩, hsa⟩, hs⟩, rfl⟩, hne⟩ := hl
  have hsa' := sm_le hsa
  have hpos : 1 ≤ al.length := by
    cases al with
    | nil => cases hne
    | cons _ _ => simp
  obtain ⟨mm, hm⟩ := found_of (T := B4) (fid := 77) (lid := 3) (base := 0) (c := lpc B4 77 3) al (fun x => Rgg.cuAt K l s x) (fun i => [vi K, lS l, vS s, bif decide (i = 0) then vb false else .dead, osW 0 al.length, vi i]) [some (rowS al 9)]
    (fun i => (.ret, [vi K, lS l, vS s, vb true, osW 0 al.length, vi i], [some (rowS al 9)])) (.ext 0, [vi K, lS l, vS s, .dead, osW 0 al.length, vi al.length], [some (rowS al 9)])
    (fun i x hx hlt again => by
      rw [decide_eq_false (show ¬ ((i + 1 : Nat) : Int) = 0 by omega)]
      have hd : al.getD i ⟨#[]⟩ = x := by rw [List.getD_eq_getElem?_getD, hx]; rfl
      by_cases h0 : i = 0
      · subst h0
        refine (nl77_3 ..).trans ?_
        rw [wrap_succ (by omega)]
        simp only [dec_lt hlt, dec_ge, cond_true, toNat_cast, hd, hsm, hsz, hsa, decide_eq_true hs, decide_eq_true k1, decide_eq_true k5, Bool.and_self, decide_true]
        unfold Rgg.cuAt
        rfl
      · rw [decide_eq_false (show ¬ ((i : Nat) : Int) = 0 by omega)]
        refine (nl77_3d ..).trans ?_
        rw [wrap_succ (by omega)]
        simp only [dec_lt hlt, dec_ge, cond_true, toNat_cast, hd, hsm, hsz, hsa, decide_eq_true hs, decide_eq_true k1, decide_eq_true k5, Bool.and_self, decide_true]
        unfold Rgg.cuAt
        rfl)
    (fun again => by
      rw [decide_eq_false (show ¬ ((al.length : Nat) : Int) = 0 by omega)]
      refine (nl77_3d ..).trans ?_
      simp only [dec_ll, cond_false])
  refine ⟨mm, hm.trans ?_⟩
  rcases br_val hv2 with ⟨h, hv3⟩ | ⟨h, hv3⟩ <;> (rw [leaf_val hv3, h]; rfl))
theorem B5_ok : TabOK B5 := by
  have h := B4_ok
  have h := h.addLoop (g := 77) (lid := 3) (r := l77_3) fun b k H o k' H' hv => by refine LoopOK.tab ?_ ?_ ?_ ?_ (l77_3_run b k H o k' H' hv) <;> rfl
  exact h
theorem c77_run : ∀ args H v H', (c77 args H).val = some (v, H') → CallOK B5 77 args H v H' := c77_ok B5_ok (by
  intro K l s r hv
  obtain ⟨hl, hv2⟩ := guard_val hv
  simp only [Bool.and_eq_true, decide_eq_true_eq] at hl
  obtain ⟨⟨⟨⟨k1, k5⟩, hsm⟩, hsz⟩, hs⟩ := hl
  have hK := Rgg.setsL_len k1 k5
  refine (nf77 ..).trans ?_
  rw [decide_eq_true k1, decide_eq_true k5, hsm, hsz, decide_eq_true hs, show sm (Rgg.setsL K) = true from decide_eq_true (by omega), decide_eq_true rfl, Rgg.sets_ne k1 k5, leaf_val hv2]
  unfold Rgg.cuR
  cases (Rgg.setsL K).any fun x => Rgg.cuAt K l s x <;> rfl)
theorem B6_ok : TabOK B6 := by
  have h := U1_ok
  have h := h.addCall (g := 77) (r := c77) fun a H v H' hv => by refine CallOK.tab ?_ ?_ (c77_run a H v H' hv) <;> rfl
  exact h
theorem l27_7_run : ∀ base kv H o kv' H', (l27_7 base kv H).val = some (o, kv', H') → LoopOK B6 27 7 base kv H o kv' H' := l27_7_ok B6_ok (by kernel_rfl) (by
  intro K l al k r hv
  obtain ⟨hl, hv2⟩ := guard_val hv
  simp only [Bool.and_eq_true, decide_eq_true_eq] at hl
  obtain ⟨⟨⟨⟨⟨⟨k1, k5⟩, hsm⟩, hsz⟩, hsa⟩, hza⟩, rfl⟩ := hl
  have hsa := sm_le hsa
  obtain ⟨mm, hm⟩ := steps_of (T := B6) (fid := 27) (lid := 7) (base := 0) (c := lpc B6 27 7) al.length (fun i => [vi K, lS l, osW 0 ((al.take i).filter (Rgg.cuR K l)).length, osW 1 al.length, vi (i : Nat)]) (fun i => [some (rS ((al.take i).filter (Rgg.cuR K l))), some (rowS al 9)])
    (.ext 0, [vi K, lS l, osW 0 (al.filter (Rgg.cuR K l)).length, osW 1 al.length, vi al.length], [some (rS (al.filter (Rgg.cuR K l))), some (rowS al 9)])
    (fun i hi again => by
      refine (nl27 ..).trans ?_
      have hx := List.getElem?_eq_getElem hi
      generalize al[i] = x at hx
      have hxs := Rgg.szs_get hza (List.mem_of_getElem? hx)
      have hln := Rgg.filt_len (Rgg.cuR K l) al i
      rw [Rgg.filt_succ _ hx, wrap_succ (by omega), room_ok (by omega) (by omega)]
      simp only [dec_lt hi, dec_ge, cond_true, toNat_cast, hx, oM, hsm, hsz, decide_eq_true k1, decide_eq_true k5, decide_eq_true hxs, Bool.and_self]
      cases Rgg.cuR K l x with
      | true => simp only [cond_true, List.length_append, List.length_singleton, rS, Rgg.tyS_snoc]
      | false => rfl)
    (fun again => by
      refine (nl27 ..).trans ?_
      simp only [dec_ll, cond_false, List.take_length])
  exact ⟨mm, hm.trans (by rw [leaf_val hv2])⟩)
theorem B7_ok : TabOK B7 := by
  have h := B6_ok
  have h := h.addLoop (g := 27) (lid := 7) (r := l27_7) fun b k H o k' H' hv => by refine LoopOK.tab ?_ ?_ ?_ ?_ (l27_7_run b k H o k' H' hv) <;> rfl
  exact h
theorem c27_run : ∀ args H v H', (c27 args H).val = some (v, H') → CallOK B7 27 args H v H' := c27_ok B7_ok (by
  intro K l r hv
  obtain ⟨hl, hv2⟩ := guard_val hv
  simp only [Bool.and_eq_true, decide_eq_true_eq] at hl
  refine (nf27 ..).trans ?_
  rw [hl.1, leaf_val hv2, hl.2]
  unfold Rgg.cbR
  cases h : Rgg.ckE K l == 0 with
  | true =>
    obtain ⟨k1, k5, _⟩ := Rgg.ckE_zero h
    have hK := Rgg.setsL_len k1 k5
    rw [show (Rgg.ckE K l != 0) = false by rw [bne, h]; rfl, decide_eq_true k1, decide_eq_true k5, beq_iff_eq.1 h, Rgg.szs_of (Rgg.sets_szs k1 k5), show sm (Rgg.setsL K) = true from decide_eq_true (by omega), decide_eq_true rfl]; rfl
  | false => rw [show (Rgg.ckE K l != 0) = true by rw [bne, h]; rfl]; rfl)
end Go.Ev.Rag
