/- The law RagNamed: tables and normal forms. -/
import Derived.Test.YtajhpbahjindkaaDoorNc
import Derived.Test.YtajhpbahjindkaaDoorRk
import Derived.Test.YtajhpbahjindkaaDoorNi
import Derived.Test.YtajhpbahjindkaaDoorRf
import Derived.Test.YtajhpbahjindkaaDoorNj
import Derived.Test.YtajhpbahjindkaaDoorNk
set_option linter.unusedVariables false
set_option linter.unusedSimpArgs false
namespace Rgg
open Go
def toS (y to : List Int) (i : Nat) : List Int := ((to.set i i).set i ((to.set i i).getD ((y.getD i 0).tmod (i + 1)).toNat 0)).set ((y.getD i 0).tmod (i + 1)).toNat i
def toN (y : List Int) (n : Nat) : List Int := (List.range n).foldl (toS y) (List.replicate n 0)
def tuN (to : List Int) (s : Nat) : Nat → Nat
  | 0 => 0
  | i + 1 => tuN to s i ||| ((s.testBit i).toNat * 2 ^ (to.getD i 0).toNat)
def orG (g : Nat → Nat) (l : List Nat) : Nat := l.foldl (fun o b => o ||| 2 ^ g b) 0
def otN (to : List Int) (K n : Nat) : Nat := stk n (orG (fun s => tuN to s K) (bL n))
def cpN (K n : Nat) : Nat := stk n (orG (fun s => 2 ^ K - 1 - s) (bL n))
def inK (to : List Int) (K : Nat) : Bool := to.all fun x => decide (0 ≤ x) && decide (x < (K : Int))
def topN (K n : Nat) : Bool := (bL n).all fun s => decide (s < 2 ^ K)
def u8s (l : List Int) : Bool := l.all fun x => decide (0 ≤ x) && decide (x < 256)
end Rgg
namespace Go.Ev.Rag
open Go Go.Ev
set_option maxRecDepth 1000000
set_option maxHeartbeats 0
set_option linter.unusedVariables false
abbrev rY (l : List Int) : Row := ⟨[.run (.int .u8) l], true, 53, false, false, none⟩
abbrev rT (l : List Int) : Row := ⟨[.run (.int .i64) l], false, 3, false, false, none⟩
abbrev osT (r k : Nat) : AV := .os r 0 0 k true true true
def refV (f : FuncId) : List Nat := match f with
  | 52 => [0]
  | _ => refR f
noncomputable def Nm1 : Tab := ((((((T0).addCall 34 c34).addCall 35 c35).addCall 51 c51).addCall 17 c17).addCall 26 c26).addCall 23 c23
noncomputable def Nm2 : Tab := { Nm1.addCall 16 c16t with refm := refV }
theorem nl9_4 (again : Ag) (K n q i : Int) (y to : List Int) : lpStep Nm2 9 4 0 (lpc Nm2 9 4) again [ps 0, vi K, vU n, osT 1 to.length, vi q, vi i] [some (rY y), some (rT to)] = (bif decide (i < q) then bif decide (0 ≤ i) then bif decide (i < (↑to.length : Int)) then oM to[i.toNat]? fun x => bif decide (0 ≤ i) then bif decide (i < (↑5 : Int)) then oM y[i.toNat]? fun x => bif !decide (IntKind.i64.wrap (i + 1) = 0) then bif decide (0 ≤ (IntKind.i64.wrap x).tmod (IntKind.i64.wrap (i + 1))) then bif decide ((IntKind.i64.wrap x).tmod (IntKind.i64.wrap (i + 1)) < (↑to.length : Int)) then oM (to.set i.toNat i)[((IntKind.i64.wrap x).tmod (IntKind.i64.wrap (i + 1))).toNat]? fun x_1 => bif decide (0 ≤ i) then bif decide (i < (↑to.length : Int)) then oM (to.set i.toNat i)[i.toNat]? fun x_2 => bif decide (0 ≤ i) then bif decide (i < (↑to.length : Int)) then oM (to.set i.toNat i)[i.toNat]? fun x_3 => bif decide (0 ≤ (IntKind.i64.wrap x).tmod (IntKind.i64.wrap (i + 1))) then bif decide ((IntKind.i64.wrap x).tmod (IntKind.i64.wrap (i + 1)) < (↑to.length : Int)) then oM ((to.set i.toNat i).set i.toNat x_1)[((IntKind.i64.wrap x).tmod (IntKind.i64.wrap (i + 1))).toNat]? fun x_4 => again [.ps 0 0 0 0, vi K, .sc (.int .u32 n), .os 1 0 0 to.length true true true, vi q, vi (IntKind.i64.wrap (i + 1))] [some ⟨[.run (.int .u8) y], true, 53, false, false, none⟩, some { c := [.run (.int .i64) (((to.set i.toNat i).set i.toNat x_1).set ((IntKind.i64.wrap x).tmod (IntKind.i64.wrap (i + 1))).toNat x_2)], vr := false, ty := 3, fz := false, loose := false : Row }] else none else none else none else none else none else none else none else none else none else none else none else none else none else some (.ext 0, [.ps 0 0 0 0, vi K, .sc (.int .u32 n), .os 1 0 0 to.length true true true, vi q, vi i], [some ⟨[.run (.int .u8) y], true, 53, false, false, none⟩, some ⟨[.run (.int .i64) to], false, 3, false, false, none⟩])) := by kernel_rfl
theorem nl9_17 (again : Ag) (K n a b t s u q i : Int) (to : List Int) : lpStep Nm2 9 17 0 (lpc Nm2 9 17) again [vi K, vU n, osT 0 to.length, vU a, vU b, vU t, vi s, vi u, osT 0 to.length, vi q, vi i] [some (rT to)] = (bif decide (i < q) then bif decide (0 ≤ i) then bif decide (i < (↑to.length : Int)) then oM to[i.toNat]? fun x => bif decide (0 ≤ i) then bif decide (0 ≤ x) then again [vi K, .sc (.int .u32 n), .os 0 0 0 to.length true true true, .sc (.int .u32 a), .sc (.int .u32 b), .sc (.int .u32 t), vi s, .sc (.int .i64 (IntKind.i64.wrap (↑(BitVec.ofInt 64 u ||| BitVec.ofInt 64 (IntKind.i64.wrap (IntKind.i64.wrap (↑(BitVec.ofInt 64 (s.fdiv (2 ^ Min.min i.toNat 64)) &&& BitVec.ofInt 64 1).toNat : Int) * 2 ^ Min.min (Int.toNat x) 64))).toNat : Int))), .os 0 0 0 to.length true true true, vi q, vi (IntKind.i64.wrap (i + 1))] [some ⟨[.run (.int .i64) to], false, 3, false, false, none⟩] else none else none else none else none else some (.ext 4, [vi K, .sc (.int .u32 n), .os 0 0 0 to.length true true true, .sc (.int .u32 a), .sc (.int .u32 b), .sc (.int .u32 t), vi s, vi u, .os 0 0 0 to.length true true true, vi q, vi i], [some ⟨[.run (.int .i64) to], false, 3, false, false, none⟩])) := by kernel_rfl
theorem nl52 (again : Ag) (i j : Int) (l : List ByteArray) (t : TypeId) : lpStep Nm2 52 1 1 (lpc Nm2 52 1) again [osW 0 l.length, vi i, vi j] [some (rowS l t)] = (bif decide (i < j) then bif decide (0 ≤ j) then bif decide (j < (↑l.length : Int)) then oM l[j.toNat]? fun x => bif decide (0 ≤ i) then bif decide (i < (↑l.length : Int)) then oM l[i.toNat]? fun x_1 => bif decide (0 ≤ i) then bif decide (i < (↑l.length : Int)) then oM l[i.toNat]? fun x_2 => bif decide (0 ≤ j) then bif decide (j < (↑l.length : Int)) then oM (l.set i.toNat x)[j.toNat]? fun x_3 => again [osW 0 l.length, vi (IntKind.i64.wrap (i + 1)), vi (IntKind.i64.wrap (j - 1))] [some ⟨[.run .str ((l.set i.toNat x).set j.toNat x_1)], false, t, false, false, none⟩] else none else none else none else none else none else none else none else none else some (.ext 0, [osW 0 l.length, vi i, vi j], [some { c := [.run .str l], vr := false, ty := t, fz := false, loose := false : Row }])) := by kernel_rfl
def l9_4t (K n q : Int) (y to : List Int) (k : Nat) : Tree (Out × List AV × Hp) := .br (decide (q = (k : Int)) && decide (k = to.length) && decide (k ≤ 5) && decide (y.length = 5) && Rgg.u8s y && decide (to = List.replicate k 0)) (.leaf (.ext 0, [ps 0, vi K, vU n, osT 1 k, vi q, vi q], [some (rY y), some (rT (Rgg.toN y k))])) .fail
def l9_4 (base : Nat) (kv : List AV) (H : Hp) : Tree (Out × List AV × Hp) := match Nat.beq base 0, kv, H with
  | true, [(.ps 0 0 0 0), (.sc (.int .i64 K)), (.sc (.int .u32 n)), (.os 1 0 0 k true true true), (.sc (.int .i64 q)), (.sc (.int .i64 0))], [some ⟨[.run (.int .u8) y], true, 53, false, false, none⟩, some ⟨[.run (.int .i64) to], false, 3, false, false, none⟩] => l9_4t K n q y to k
  | _, _, _ => .fail
theorem l9_4_ok {T : Tab} (hT : TabOK T) (hlo : loopOf T.fn 9 4 = some (lpc T 9 4)) (h : ∀ (K n q : Int) (y to : List Int) (k : Nat) (r : Out × List AV × Hp), (l9_4t K n q y to k).val = some r → ∃ mm, lpRun T 9 4 0 (lpc T 9 4) mm [ps 0, vi K, vU n, osT 1 k, vi q, vi 0] [some (rY y), some (rT to)] = some r) : ∀ base kv H o kv' H', (l9_4 base kv H).val = some (o, kv', H') → LoopOK T 9 4 base kv H o kv' H' := by
  intro base kv H o kv' H' hv
  unfold l9_4 at hv
  split at hv
  · rename_i hb
    obtain rfl := Nat.eq_of_beq_eq_true hb
    exact loop_ok hT hlo (h _ _ _ _ _ _ _ hv)
  · cases hv
def l9_17t (K n a b t s u q : Int) (to : List Int) (k k2 : Nat) : Tree (Out × List AV × Hp) := .br (decide (k = to.length) && decide (k2 = to.length) && decide (k ≤ 5) && decide (q = (k : Int)) && decide (0 ≤ s) && decide (s < 32) && decide (u = 0) && Rgg.inK to k) (.leaf (.ext 4, [vi K, vU n, osT 0 k, vU a, vU b, vU t, vi s, vi (Rgg.tuN to s.toNat k : Nat), osT 0 k, vi q, vi q], [some (rT to)])) .fail
def l9_17 (base : Nat) (kv : List AV) (H : Hp) : Tree (Out × List AV × Hp) := match Nat.beq base 0, kv, H with
  | true, [(.sc (.int .i64 K)), (.sc (.int .u32 n)), (.os 0 0 0 k true true true), (.sc (.int .u32 a)), (.sc (.int .u32 b)), (.sc (.int .u32 t)), (.sc (.int .i64 s)), (.sc (.int .i64 u)), (.os 0 0 0 k2 true true true), (.sc (.int .i64 q)), (.sc (.int .i64 0))], [some ⟨[.run (.int .i64) to], false, 3, false, false, none⟩] => l9_17t K n a b t s u q to k k2
  | _, _, _ => .fail
theorem l9_17_ok {T : Tab} (hT : TabOK T) (hlo : loopOf T.fn 9 17 = some (lpc T 9 17)) (h : ∀ (K n a b t s u q : Int) (to : List Int) (k k2 : Nat) (r : Out × List AV × Hp), (l9_17t K n a b t s u q to k k2).val = some r → ∃ mm, lpRun T 9 17 0 (lpc T 9 17) mm [vi K, vU n, osT 0 k, vU a, vU b, vU t, vi s, vi u, osT 0 k2, vi q, vi 0] [some (rT to)] = some r) : ∀ base kv H o kv' H', (l9_17 base kv H).val = some (o, kv', H') → LoopOK T 9 17 base kv H o kv' H' := by
  intro base kv H o kv' H' hv
  unfold l9_17 at hv
  split at hv
  · rename_i hb
    obtain rfl := Nat.eq_of_beq_eq_true hb
    exact loop_ok hT hlo (h _ _ _ _ _ _ _ _ _ _ _ _ hv)
  · cases hv
noncomputable def Nm3 : Tab := (Nm2).addLoop 9 17 l9_17
theorem nl9_12 (again : Ag) (K n a b t : Int) (to : List Int) : lpStep Nm3 9 12 0 (lpc Nm3 9 12) again [vi K, vU n, osT 0 to.length, vU a, vU b, vU t] [some (rT to)] = (bif t != 0 then bif decide (0 < t) && decide (t < 4294967296) then bif decide (to.length = to.length) && decide (to.length = to.length) && decide (to.length ≤ 5) && decide ((↑to.length : Int) = (↑to.length : Int)) && decide (0 ≤ (↑(Rgg.tzN t.toNat) : Int)) && decide ((↑(Rgg.tzN t.toNat) : Int) < 32) && decide (0 = 0) && Rgg.inK to to.length then bif decide (0 ≤ K) then bif decide (0 ≤ IntKind.i64.wrap (IntKind.i64.wrap (IntKind.i64.wrap (1 * 2 ^ Min.min K.toNat 64) - 1) - (↑(Rgg.tzN t.toNat) : Int))) then again [vi K, .sc (.int .u32 n), .os 0 0 0 to.length true true true, .sc (.int .u32 (IntKind.u32.wrap (↑(BitVec.ofInt 32 a ||| BitVec.ofInt 32 (IntKind.u32.wrap (1 * 2 ^ Min.min (↑(Rgg.tuN to (↑(Rgg.tzN t.toNat) : Int).toNat to.length) : Int).toNat 32))).toNat : Int))), .sc (.int .u32 (IntKind.u32.wrap (↑(BitVec.ofInt 32 b ||| BitVec.ofInt 32 (IntKind.u32.wrap (1 * 2 ^ Min.min (IntKind.i64.wrap (IntKind.i64.wrap (IntKind.i64.wrap (1 * 2 ^ Min.min K.toNat 64) - 1) - (↑(Rgg.tzN t.toNat) : Int))).toNat 32))).toNat : Int))), .sc (.int .u32 (IntKind.u32.wrap (↑(BitVec.ofInt 32 t &&& BitVec.ofInt 32 (IntKind.u32.wrap (t - 1))).toNat : Int)))] [some ⟨[.run (.int .i64) to], false, 3, false, false, none⟩] else none else none else none else none else some (.ext 2, [vi K, .sc (.int .u32 n), .os 0 0 0 to.length true true true, .sc (.int .u32 a), .sc (.int .u32 b), .sc (.int .u32 t)], [some ⟨[.run (.int .i64) to], false, 3, false, false, none⟩])) := by kernel_rfl
def l9_12t (K n a b t : Int) (to : List Int) (k : Nat) : Tree (Out × List AV × Hp) := .br (decide (k = to.length) && decide (k = K.toNat) && decide (1 ≤ K) && decide (K ≤ 5) && Rgg.in32 n && decide (a = 0) && decide (b = 0) && decide (t = n) && Rgg.inK to k && Rgg.topN k n.toNat) (.leaf (.ext 2, [vi K, vU n, osT 0 k, vU (Rgg.otN to K.toNat n.toNat : Nat), vU (Rgg.cpN K.toNat n.toNat : Nat), vU 0], [some (rT to)])) .fail
def l9_12 (base : Nat) (kv : List AV) (H : Hp) : Tree (Out × List AV × Hp) := match Nat.beq base 0, kv, H with
  | true, [(.sc (.int .i64 K)), (.sc (.int .u32 n)), (.os 0 0 0 k true true true), (.sc (.int .u32 a)), (.sc (.int .u32 b)), (.sc (.int .u32 t))], [some ⟨[.run (.int .i64) to], false, 3, false, false, none⟩] => l9_12t K n a b t to k
  | _, _, _ => .fail
theorem l9_12_ok {T : Tab} (hT : TabOK T) (hlo : loopOf T.fn 9 12 = some (lpc T 9 12)) (h : ∀ (K n a b t : Int) (to : List Int) (k : Nat) (r : Out × List AV × Hp), (l9_12t K n a b t to k).val = some r → ∃ mm, lpRun T 9 12 0 (lpc T 9 12) mm [vi K, vU n, osT 0 k, vU a, vU b, vU t] [some (rT to)] = some r) : ∀ base kv H o kv' H', (l9_12 base kv H).val = some (o, kv', H') → LoopOK T 9 12 base kv H o kv' H' := by
  intro base kv H o kv' H' hv
  unfold l9_12 at hv
  split at hv
  · rename_i hb
    obtain rfl := Nat.eq_of_beq_eq_true hb
    exact loop_ok hT hlo (h _ _ _ _ _ _ _ _ hv)
  · cases hv
def l52_1t (j : Int) (l : List ByteArray) (t : TypeId) (k : Nat) : Tree (Out × List AV × Hp) := .br (sm l && decide (k = l.length) && decide (j = (l.length : Int) - 1)) (.leaf (.ext 0, [osW 0 k, vi (l.length / 2 : Nat), vi ((l.length : Int) - 1 - (l.length / 2 : Nat))], [some (rowS l.reverse t)])) .fail
def l52_1 (base : Nat) (kv : List AV) (H : Hp) : Tree (Out × List AV × Hp) := match Nat.beq base 1, kv, H with
  | true, [(.os 0 0 0 k true false true), (.sc (.int .i64 0)), (.sc (.int .i64 j))], [some ⟨[.run .str l], false, t, false, false, none⟩] => l52_1t j l t k
  | _, _, _ => .fail
theorem l52_1_ok {T : Tab} (hT : TabOK T) (hlo : loopOf T.fn 52 1 = some (lpc T 52 1)) (h : ∀ (j : Int) (l : List ByteArray) (t : TypeId) (k : Nat) (r : Out × List AV × Hp), (l52_1t j l t k).val = some r → ∃ mm, lpRun T 52 1 1 (lpc T 52 1) mm [osW 0 k, vi 0, vi j] [some (rowS l t)] = some r) : ∀ base kv H o kv' H', (l52_1 base kv H).val = some (o, kv', H') → LoopOK T 52 1 base kv H o kv' H' := by
  intro base kv H o kv' H' hv
  unfold l52_1 at hv
  split at hv
  · rename_i hb
    obtain rfl := Nat.eq_of_beq_eq_true hb
    exact loop_ok hT hlo (h _ _ _ _ _ hv)
  · cases hv
noncomputable def Nm4 : Tab := (((Nm3).addLoop 9 4 l9_4).addLoop 9 12 l9_12).addLoop 52 1 l52_1
theorem nf52 (l : List ByteArray) (t : TypeId) : evBody Nm4 52 [osW 0 l.length] [some (rowS l t)] = (bif sm l && decide (l.length = l.length) && decide (IntKind.i64.wrap ((↑l.length : Int) - 1) = (↑l.length : Int) - 1) then some (.tuple [], [some ⟨[.run .str l.reverse], false, t, false, false, none⟩]) else none) := by kernel_rfl
def c52t (l : List ByteArray) (t : TypeId) (k : Nat) : Tree (AV × Hp) := .br (sm l && decide (k = l.length)) (.leaf (.tuple [], [some (rowS l.reverse t)])) .fail
def c52 (args : List AV) (H : Hp) : Tree (AV × Hp) := match args, H with
  | [(.os 0 0 0 k true false true)], [some ⟨[.run .str l], false, t, false, false, none⟩] => c52t l t k
  | _, _ => .fail
theorem c52_ok {T : Tab} (hT : TabOK T) (h : ∀ (l : List ByteArray) (t : TypeId) (k : Nat) (r : AV × Hp), (c52t l t k).val = some r → evBody T 52 [osW 0 k] [some (rowS l t)] = some r) : ∀ args H v H', (c52 args H).val = some (v, H') → CallOK T 52 args H v H' := by
  intro args H v H' hv
  unfold c52 at hv
  split at hv
  · exact evBody_sound hT (h _ _ _ _ hv)
  · cases hv
noncomputable def Nm5 : Tab := (Nm4).addCall 52 c52
theorem nf9 (k b : Int) (y : List Int) : evBody Nm5 9 [pil k b, .agg [.run (.int .u8) y] false] [] = (bif decide (List.map (fun (x : AV) => match x with | .run e l => l.length * e.size | _ => 1) [.run (.int .u8) y] = List.map (fun (x : AV) => match x with | .run e l => l.length * e.size | _ => 1) ((some [.run (.int .u8) (List.replicate 5 0)]).getD [])) then bif decide (0 ≤ k) && decide (k < 256) && Rgg.in32 b && decide (5 = 5) then bif decide (0 ≤ Rgg.pK k) then bif decide (Rgg.pK k = Rgg.pK k) then bif room (Rgg.pK k).toNat 8 then bif decide ((↑(Rgg.pK k).toNat : Int) = (↑(Rgg.pK k).toNat : Int)) && decide ((Rgg.pK k).toNat = (List.replicate (Rgg.pK k).toNat (0 : Int)).length) && decide ((Rgg.pK k).toNat ≤ 5) && decide (y.length = 5) && Rgg.u8s y && decide (List.replicate (Rgg.pK k).toNat (0 : Int) = List.replicate (Rgg.pK k).toNat (0 : Int)) then bif decide ((Rgg.pK k).toNat = (Rgg.toN y (Rgg.pK k).toNat).length) && decide ((Rgg.pK k).toNat = (Rgg.pK k).toNat) && decide (1 ≤ Rgg.pK k) && decide (Rgg.pK k ≤ 5) && Rgg.in32 (↑(Rgg.pB k b) : Int) && decide (0 = 0) && decide (0 = 0) && decide ((↑(Rgg.pB k b) : Int) = (↑(Rgg.pB k b) : Int)) && Rgg.inK (Rgg.toN y (Rgg.pK k).toNat) (Rgg.pK k).toNat && Rgg.topN (Rgg.pK k).toNat (↑(Rgg.pB k b) : Int).toNat then bif Rgg.in32 (↑(Rgg.pB k b) : Int) then bif Rgg.in32 (↑(Rgg.otN (Rgg.toN y (Rgg.pK k).toNat) (Rgg.pK k).toNat (↑(Rgg.pB k b) : Int).toNat) : Int) then bif Rgg.in32 (↑(Rgg.cpN (Rgg.pK k).toNat (↑(Rgg.pB k b) : Int).toNat) : Int) then bif sm (Rgg.wdL (↑(Rgg.pB k b) : Int).toNat) && decide ((Rgg.wdL (↑(Rgg.pB k b) : Int).toNat).length = (Rgg.wdL (↑(Rgg.pB k b) : Int).toNat).length) then bif Rgg.in32 (↑(Rgg.otN (Rgg.toN y (Rgg.pK k).toNat) (Rgg.pK k).toNat (↑(Rgg.pB k b) : Int).toNat) : Int) then bif Rgg.in32 (↑(Rgg.cpN (Rgg.pK k).toNat (↑(Rgg.pB k b) : Int).toNat) : Int) then bif Rgg.opE (Rgg.pK k) (Rgg.wdL (↑(Rgg.pB k b) : Int).toNat) == 0 then bif Rgg.opE (Rgg.pK k) (Rgg.wdL (↑(Rgg.otN (Rgg.toN y (Rgg.pK k).toNat) (Rgg.pK k).toNat (↑(Rgg.pB k b) : Int).toNat) : Int).toNat) == 0 then bif Rgg.opE (Rgg.pK k) (Rgg.wdL (↑(Rgg.cpN (Rgg.pK k).toNat (↑(Rgg.pB k b) : Int).toNat) : Int).toNat) == 0 then bif Rgg.opE (Rgg.pK k) (Rgg.wdL (↑(Rgg.pB k b) : Int).toNat).reverse == 0 then bif Rgg.opE (Rgg.pK k) (Rgg.wdL (↑(Rgg.pB k b) : Int).toNat).reverse == 0 then bif Rgg.opE (Rgg.pK k) (Rgg.wdL (↑(Rgg.otN (Rgg.toN y (Rgg.pK k).toNat) (Rgg.pK k).toNat (↑(Rgg.pB k b) : Int).toNat) : Int).toNat) == 0 then bif Rgg.opE (Rgg.pK k) (Rgg.wdL (↑(Rgg.cpN (Rgg.pK k).toNat (↑(Rgg.pB k b) : Int).toNat) : Int).toNat) == 0 then bif (↑(Rgg.apL (Rgg.pK k) (Rgg.wdL (↑(Rgg.pB k b) : Int).toNat)).length : Int) == (↑(Rgg.apL (Rgg.pK k) (Rgg.wdL (↑(Rgg.otN (Rgg.toN y (Rgg.pK k).toNat) (Rgg.pK k).toNat (↑(Rgg.pB k b) : Int).toNat) : Int).toNat)).length : Int) then bif sm (Rgg.apL (Rgg.pK k) (Rgg.wdL (↑(Rgg.pB k b) : Int).toNat)) && Rgg.apL (Rgg.pK k) (Rgg.wdL (↑(Rgg.pB k b) : Int).toNat) == Rgg.apL (Rgg.pK k) (Rgg.wdL (↑(Rgg.cpN (Rgg.pK k).toNat (↑(Rgg.pB k b) : Int).toNat) : Int).toNat) then bif sm (Rgg.apL (Rgg.pK k) (Rgg.wdL (↑(Rgg.pB k b) : Int).toNat)) && Rgg.apL (Rgg.pK k) (Rgg.wdL (↑(Rgg.pB k b) : Int).toNat) == Rgg.apL (Rgg.pK k) (Rgg.wdL (↑(Rgg.pB k b) : Int).toNat).reverse then bif (↑(Rgg.cuL (Rgg.pK k) (Rgg.wdL (↑(Rgg.pB k b) : Int).toNat).reverse).length : Int) == (↑(Rgg.cuL (Rgg.pK k) (Rgg.wdL (↑(Rgg.otN (Rgg.toN y (Rgg.pK k).toNat) (Rgg.pK k).toNat (↑(Rgg.pB k b) : Int).toNat) : Int).toNat)).length : Int) then bif sm (Rgg.cuL (Rgg.pK k) (Rgg.wdL (↑(Rgg.pB k b) : Int).toNat).reverse) && Rgg.cuL (Rgg.pK k) (Rgg.wdL (↑(Rgg.pB k b) : Int).toNat).reverse == Rgg.cuL (Rgg.pK k) (Rgg.wdL (↑(Rgg.cpN (Rgg.pK k).toNat (↑(Rgg.pB k b) : Int).toNat) : Int).toNat) then some (vb true, []) else none else some (vb false, []) else none else none else some (vb false, []) else some (vb false, []) else some (vb false, []) else some (vb false, []) else some (vb false, []) else some (vb false, []) else some (vb false, []) else some (vb false, []) else none else none else none else none else none else none else none else none else none else none else none else none else none) := by kernel_rfl
end Go.Ev.Rag
namespace Rgg
open Go
set_option linter.unusedVariables false
theorem tmod_in {a b : Int} (ha : 0 ≤ a) (hb : 0 < b) : 0 ≤ a.tmod b ∧ a.tmod b < b := by
  rw [Int.tmod_eq_emod_of_nonneg ha]
  exact ⟨Int.emod_nonneg _ (by omega), Int.emod_lt_of_pos _ hb⟩
theorem getD_nn {b : List Int} (hb : ∀ x ∈ b, 0 ≤ x) (i : Nat) : 0 ≤ b.getD i 0 := by
  rw [List.getD_eq_getElem?_getD]
  cases hx : b[i]? with
  | none => simp
  | some x => exact hb x (List.mem_of_getElem? hx)
theorem getD_set' (l : List Int) (i j : Nat) (v : Int) (h : i < l.length) : (l.set i v).getD j 0 = if i = j then v else l.getD j 0 := by
  rw [List.getD_eq_getElem?_getD, List.getElem?_set, List.getD_eq_getElem?_getD]
  by_cases e : i = j
  · subst e; simp [h]
  · simp [e]
structure Pm (m : Nat) (to : List Int) : Prop where
  rng : ∀ i, i < m → 0 ≤ to.getD i 0 ∧ to.getD i 0 < m
  inj : ∀ i j, i < m → j < m → to.getD i 0 = to.getD j 0 → i = j
  sur : ∀ v : Nat, v < m → ∃ i, i < m ∧ to.getD i 0 = v
theorem Pm.step {m : Nat} {to to' : List Int} {k : Nat} (h : Pm m to) (hk : k ≤ m) (e : ∀ j, to'.getD j 0 = if j = k then (m : Int) else if j = m then to.getD k 0 else to.getD j 0) : Pm (m + 1) to' := by
  refine ⟨fun i hi => ?_, fun i j hi hj hij => ?_, fun v hv => ?_⟩
  · rw [e]
    split
    · omega
    · split
      · have := h.rng k (by omega); omega
      · have := h.rng i (by omega); omega
  · rw [e, e] at hij
    by_cases a : i = k <;> by_cases b : j = k
    · omega
    · rw [if_pos a, if_neg b] at hij
      by_cases c : j = m
      · rw [if_pos c] at hij; have := h.rng k (by omega); omega
      · rw [if_neg c] at hij; have := h.rng j (by omega); omega
    · rw [if_neg a, if_pos b] at hij
      by_cases c : i = m
      · rw [if_pos c] at hij; have := h.rng k (by omega); omega
      · rw [if_neg c] at hij; have := h.rng i (by omega); omega
    · rw [if_neg a, if_neg b] at hij
      by_cases c : i = m <;> by_cases d : j = m
      · omega
      · rw [if_pos c, if_neg d] at hij; have := h.inj k j (by omega) (by omega) hij; omega
      · rw [if_neg c, if_pos d] at hij; have := h.inj i k (by omega) (by omega) hij; omega
      · rw [if_neg c, if_neg d] at hij; exact h.inj i j (by omega) (by omega) hij
  · by_cases c : v = m
    · exact ⟨k, by omega, by rw [e, if_pos rfl, c]⟩
    · obtain ⟨i, hi, hiv⟩ := h.sur v (by omega)
      by_cases a : i = k
      · subst a
        exact ⟨m, by omega, by rw [e, if_neg (by omega), if_pos rfl, hiv]⟩
      · exact ⟨i, by omega, by rw [e, if_neg a, if_neg (by omega), hiv]⟩
theorem toS_len (y to : List Int) (i : Nat) : (toS y to i).length = to.length := by simp [toS]
theorem toS_get {y to : List Int} {m : Nat} (hm : m < to.length) (j : Nat) (hk : ((y.getD m 0).tmod (m + 1)).toNat ≤ m) : (toS y to m).getD j 0 = if j = ((y.getD m 0).tmod (m + 1)).toNat then (m : Int) else if j = m then to.getD ((y.getD m 0).tmod (m + 1)).toNat 0 else to.getD j 0 := by
  unfold toS
  generalize ((y.getD m 0).tmod (m + 1)).toNat = k at *
  rw [getD_set' _ _ _ _ (by simp; omega), getD_set' _ _ _ _ (by simp; omega), getD_set' _ _ _ _ hm, getD_set' _ _ _ _ hm]
  by_cases a : j = k
  · subst a; simp
  · rw [if_neg (fun e => a e.symm), if_neg a]
    by_cases b : j = m
    · subst b; simp; intro c; exact absurd c a
    · rw [if_neg (fun e => b e.symm), if_neg (fun e => b e.symm), if_neg b]
theorem toN_pm {y : List Int} (hy : ∀ x ∈ y, 0 ≤ x) (n : Nat) : (toN y n).length = n ∧ Pm n (toN y n) := by
  unfold toN
  have main : ∀ m, m ≤ n → ((List.range m).foldl (toS y) (List.replicate n 0)).length = n ∧ Pm m ((List.range m).foldl (toS y) (List.replicate n 0)) := by
    intro m
    induction m with
    | zero => intro _; exact ⟨by simp, ⟨fun i hi => by omega, fun i j hi => by omega, fun v hv => by omega⟩⟩
    | succ m ih =>
      intro hm
      obtain ⟨h1, h2⟩ := ih (by omega)
      rw [List.range_succ, List.foldl_append]
      simp only [List.foldl_cons, List.foldl_nil]
      have hb := tmod_in (getD_nn hy m) (show (0 : Int) < (m : Int) + 1 by omega)
      have hk : ((y.getD m 0).tmod (m + 1)).toNat ≤ m := by omega
      exact ⟨by rw [toS_len, h1], h2.step hk fun j => toS_get (by omega) j hk⟩
  exact main n (Nat.le_refl _)
structure Bij (m : Nat) (f g : Nat → Nat) : Prop where
  lt : ∀ i, i < m → f i < m
  ltg : ∀ i, i < m → g i < m
  gf : ∀ i, i < m → g (f i) = i
  fg : ∀ i, i < m → f (g i) = i
theorem range_bij {m : Nat} {f g : Nat → Nat} (hb : Bij m f g) : ((List.range m).map f).Perm (List.range m) := by
  have hnd : ((List.range m).map f).Nodup := by
    unfold List.Nodup
    rw [List.pairwise_map]
    refine List.Pairwise.imp_of_mem (fun {x y} hx hy hne e => hne ?_) List.nodup_range
    rw [← hb.gf x (List.mem_range.1 hx), e, hb.gf y (List.mem_range.1 hy)]
  refine (List.perm_ext_iff_of_nodup hnd List.nodup_range).2 fun x => ?_
  rw [List.mem_map, List.mem_range]
  exact ⟨fun ⟨y, hy, e⟩ => by rw [← e]; exact hb.lt y (List.mem_range.1 hy), fun hx => ⟨g x, List.mem_range.2 (hb.ltg x hx), hb.fg x hx⟩⟩
theorem toN_bij {y : List Int} (hy : ∀ x ∈ y, 0 ≤ x) (n : Nat) : ∃ g, Bij n (fun i => ((toN y n).getD i 0).toNat) g := by
  obtain ⟨_, h⟩ := toN_pm hy n
  have hc : ∀ v, ∃ i, v < n → i < n ∧ (toN y n).getD i 0 = v := fun v => by
    by_cases hv : v < n
    · obtain ⟨i, h1, h2⟩ := h.sur v hv
      exact ⟨i, fun _ => ⟨h1, h2⟩⟩
    · exact ⟨0, fun h => absurd h hv⟩
  refine ⟨fun v => Classical.choose (hc v), fun i hi => ?_, fun i hi => ?_, fun i hi => ?_, fun i hi => ?_⟩
  · have := h.rng i hi; omega
  · exact (Classical.choose_spec (hc i) hi).1
  · have r := h.rng i hi
    have s := Classical.choose_spec (hc ((toN y n).getD i 0).toNat) (by omega)
    exact h.inj _ _ s.1 hi (by rw [s.2]; omega)
  · have s := Classical.choose_spec (hc i) hi
    show ((toN y n).getD _ 0).toNat = i
    rw [s.2]; rfl
theorem tu_bit (to : List Int) (s j : Nat) : ∀ m, (tuN to s m).testBit j = (List.range m).any fun i => s.testBit i && ((to.getD i 0).toNat == j)
  | 0 => by simp [tuN]
  | m + 1 => by
    have e : (((s.testBit m).toNat * 2 ^ (to.getD m 0).toNat).testBit j) = (s.testBit m && ((to.getD m 0).toNat == j)) := by
      cases s.testBit m with
      | false => simp
      | true => rw [show (true.toNat * 2 ^ (to.getD m 0).toNat) = 2 ^ (to.getD m 0).toNat by simp, Nat.testBit_two_pow]; rfl
    rw [show tuN to s (m + 1) = tuN to s m ||| ((s.testBit m).toNat * 2 ^ (to.getD m 0).toNat) from rfl, Nat.testBit_or, tu_bit to s j m, e, List.range_succ, List.any_append, List.any_cons, List.any_nil, Bool.or_false]
structure Iso (k : Nat) (f h : Nat → Nat) : Prop where
  b : Bij (2 ^ k) f h
  and : ∀ x y, x < 2 ^ k → y < 2 ^ k → f (x &&& y) = f x &&& f y
  or : ∀ x y, x < 2 ^ k → y < 2 ^ k → f (x ||| y) = f x ||| f y
  zero : f 0 = 0
theorem tu_iso {k : Nat} {to : List Int} {g : Nat → Nat} (hg : Bij k (fun i => (to.getD i 0).toNat) g) : Iso k (fun s => tuN to s k) (fun t => mk (fun i => t.testBit (to.getD i 0).toNat) k) := by
  have key : ∀ s j, (tuN to s k).testBit j = (decide (j < k) && s.testBit (g j)) := by
    intro s j
    rw [tu_bit]
    by_cases hj : j < k
    · rw [decide_eq_true hj, Bool.true_and, Bool.eq_iff_iff, List.any_eq_true]
      constructor
      · rintro ⟨i, hi, hh⟩
        rw [Bool.and_eq_true, beq_iff_eq] at hh
        have := hg.gf i (List.mem_range.1 hi)
        rw [← hh.2, this]; exact hh.1
      · intro hb
        exact ⟨g j, List.mem_range.2 (hg.ltg j hj), by rw [hb, hg.fg j hj, beq_self_eq_true]; rfl⟩
    · rw [decide_eq_false hj, Bool.false_and, List.any_eq_false]
      intro i hi hh
      rw [Bool.and_eq_true, beq_iff_eq] at hh
      have := hg.lt i (List.mem_range.1 hi)
      exact hj (by rw [← hh.2]; exact this)
  have hlt : ∀ s, tuN to s k < 2 ^ k := fun s => Nat.lt_pow_two_of_testBit _ fun i hi => by rw [key, decide_eq_false (by omega), Bool.false_and]
  refine ⟨⟨fun s _ => hlt s, fun t _ => mk_lt _ k, fun s hs => ?_, fun t ht => ?_⟩, fun x y _ _ => ?_, fun x y _ _ => ?_, ?_⟩
  · apply Nat.eq_of_testBit_eq
    intro i
    rw [testBit_mk]
    by_cases hi : i < k
    · rw [decide_eq_true hi, Bool.true_and, key, decide_eq_true (hg.lt i hi), Bool.true_and, hg.gf i hi]
    · rw [decide_eq_false hi, Bool.false_and, Nat.testBit_lt_two_pow (Nat.lt_of_lt_of_le hs (Nat.pow_le_pow_right (by decide) (by omega)))]
  · apply Nat.eq_of_testBit_eq
    intro j
    show (tuN to _ k).testBit j = _
    rw [key, testBit_mk]
    by_cases hj : j < k
    · rw [decide_eq_true hj, decide_eq_true (hg.ltg j hj), Bool.true_and, Bool.true_and, hg.fg j hj]
    · rw [decide_eq_false hj, Bool.false_and, Nat.testBit_lt_two_pow (Nat.lt_of_lt_of_le ht (Nat.pow_le_pow_right (by decide) (by omega)))]
  · apply Nat.eq_of_testBit_eq
    intro j
    simp only [Nat.testBit_and, key]
    cases decide (j < k) <;> simp
  · apply Nat.eq_of_testBit_eq
    intro j
    simp only [Nat.testBit_or, key]
    cases decide (j < k) <;> simp
  · apply Nat.eq_of_testBit_eq
    intro j
    simp only [key, Nat.zero_testBit, Bool.and_false]
theorem sub_iff : ∀ i, i < 32 → ∀ s, s < 32 → (sub i s = true ↔ i &&& s = i) := by
  intro i hi s hs
  exact ⟨fun h => (sub_eq s hs i hi h).1, fun h => and_sub s hs i hi (by rw [Nat.and_comm]; exact h)⟩
structure Img (k : Nat) (f h : Nat → Nat) (l m : List Bool) : Prop where
  i : Iso k f h
  top : ∀ s, s < 32 → at_ l s = true → s < 2 ^ k
  topm : ∀ s, s < 32 → at_ m s = true → s < 2 ^ k
  img : ∀ s, s < 2 ^ k → at_ m (f s) = at_ l s
theorem Img.inv {k : Nat} {f h : Nat → Nat} {l m : List Bool} (H : Img k f h l m) : Img k h f m l := by
  obtain ⟨⟨b, an, or, z⟩, t1, t2, im⟩ := H
  have hin : ∀ x y, x < 2 ^ k → y < 2 ^ k → h x = h y → x = y := fun x y hx hy e => by rw [← b.fg x hx, e, b.fg y hy]
  have fin : ∀ x y, x < 2 ^ k → y < 2 ^ k → f x = f y → x = y := fun x y hx hy e => by rw [← b.gf x hx, e, b.gf y hy]
  have al : ∀ x y, x < 2 ^ k → y < 2 ^ k → x &&& y < 2 ^ k := fun x y hx _ => Nat.lt_of_le_of_lt Nat.and_le_left hx
  have ol : ∀ x y, x < 2 ^ k → y < 2 ^ k → x ||| y < 2 ^ k := fun x y hx hy => Nat.or_lt_two_pow hx hy
  refine ⟨⟨⟨b.ltg, b.lt, b.fg, b.gf⟩, fun x y hx hy => ?_, fun x y hx hy => ?_, ?_⟩, t2, t1, fun s hs => ?_⟩
  · refine fin _ _ (b.ltg _ (al x y hx hy)) (al _ _ (b.ltg x hx) (b.ltg y hy)) ?_
    rw [b.fg _ (al x y hx hy), an _ _ (b.ltg x hx) (b.ltg y hy), b.fg x hx, b.fg y hy]
  · refine fin _ _ (b.ltg _ (ol x y hx hy)) (ol _ _ (b.ltg x hx) (b.ltg y hy)) ?_
    rw [b.fg _ (ol x y hx hy), or _ _ (b.ltg x hx) (b.ltg y hy), b.fg x hx, b.fg y hy]
  · have := b.gf 0 (Nat.two_pow_pos k)
    rw [z] at this; exact this
  · rw [← im (h s) (b.ltg s hs), b.fg s hs]
theorem sh_img1 {k : Nat} (hk : k ≤ 5) {f h : Nat → Nat} {l m : List Bool} (H : Img k f h l m) {s : Nat} (hs : s < 2 ^ k) (hh : shB l s = true) : shB m (f s) = true := by
  have h32 := pow_le32 hk
  have b := H.i.b
  have fs := b.lt s hs
  rw [sh_iff (by omega)] at hh ⊢
  intro i hi hsub
  have hik := sub_le k (by omega) (f s) fs i hi hsub
  have e := (sub_iff i hi (f s) (by omega)).1 hsub
  have hj := b.ltg i hik
  have hjs : sub (h i) s = true := by
    rw [sub_iff (h i) (by omega) s (by omega)]
    have hl : h i &&& s < 2 ^ k := Nat.lt_of_le_of_lt Nat.and_le_left hj
    rw [← b.gf _ hl, H.i.and _ _ hj hs, b.fg i hik, e]
  obtain ⟨c, c1, c2, c3⟩ := hh (h i) (by omega) hjs
  have ck := H.top c c1 c2
  refine ⟨f c, by have := b.lt c ck; omega, by rw [H.img c ck]; exact c2, ?_⟩
  rw [← H.i.and c s ck hs, c3, b.fg i hik]
theorem sh_img {k : Nat} (hk : k ≤ 5) {f h : Nat → Nat} {l m : List Bool} (H : Img k f h l m) {s : Nat} (hs : s < 2 ^ k) : shB m (f s) = shB l s := by
  rw [Bool.eq_iff_iff]
  refine ⟨fun hh => ?_, sh_img1 hk H hs⟩
  have := sh_img1 hk H.inv (H.i.b.lt s hs) hh
  rw [H.i.b.gf s hs] at this
  exact this
theorem cu_P {n k s : Nat} (hk : k ≤ 5) (hs : s < 2 ^ k) : cu2 n (2 ^ k) s (2 ^ k) = true ↔ ∃ r, r < 2 ^ k ∧ r &&& s = 0 ∧ ∀ p, p < 2 ^ k → p &&& s = p → at_ (fB n) (p ||| r) = true := by
  have h32 := pow_le32 hk
  unfold cu2 cu3
  rw [List.any_eq_true]
  have hd : ∀ p, p < 2 ^ k → (dif p s = 0 ↔ p &&& s = p) := fun p hp => by
    have h1 := cb3b p (by omega) s (by omega)
    have h2 := cb2 p (by omega) s (by omega)
    constructor
    · intro e
      have := h2.2.1
      rw [e, Nat.or_zero] at this
      exact this
    · intro e
      rw [← e]; exact h2.1
  have hb : ∀ p r, p < 2 ^ k → r < 2 ^ k → at_ (fB n) (p ||| r) = n.testBit (p ||| r) := fun p r hp hr => at_fB (by have := Nat.or_lt_two_pow hp hr; omega)
  constructor
  · rintro ⟨r, hr, hh⟩
    have hr := List.mem_range.1 hr
    rw [Bool.and_eq_true, beq_iff_eq, List.all_eq_true] at hh
    refine ⟨r, hr, hh.1, fun p hp e => ?_⟩
    have := hh.2 p (List.mem_range.2 hp)
    rw [(hd p hp).2 e] at this
    rw [hb p r hp hr]; exact this
  · rintro ⟨r, hr, h0, hh⟩
    refine ⟨r, List.mem_range.2 hr, ?_⟩
    rw [Bool.and_eq_true, beq_iff_eq, List.all_eq_true]
    refine ⟨h0, fun p hp => ?_⟩
    have hp := List.mem_range.1 hp
    cases hz : dif p s != 0 with
    | true => rfl
    | false =>
      have hz : dif p s = 0 := by
        refine Classical.byContradiction fun e => ?_
        rw [bne_eq_false_iff_eq] at hz; exact e hz
      rw [← hb p r hp hr, hh p hp ((hd p hp).1 hz), Bool.or_true]
theorem cu_img1 {k n m : Nat} (hk : k ≤ 5) {f h : Nat → Nat} (H : Img k f h (fB n) (fB m)) {s : Nat} (hs : s < 2 ^ k) (hh : cu2 n (2 ^ k) s (2 ^ k) = true) : cu2 m (2 ^ k) (f s) (2 ^ k) = true := by
  have b := H.i.b
  have fs := b.lt s hs
  rw [cu_P hk hs] at hh
  rw [cu_P hk fs]
  obtain ⟨r, hr, h0, hall⟩ := hh
  refine ⟨f r, b.lt r hr, by rw [← H.i.and r s hr hs, h0, H.i.zero], fun p hp e => ?_⟩
  have hq := b.ltg p hp
  have e2 : h p &&& s = h p := by
    have hl : h p &&& s < 2 ^ k := Nat.lt_of_le_of_lt Nat.and_le_left hq
    rw [← b.gf _ hl, H.i.and _ _ hq hs, b.fg p hp, e]
  have := hall (h p) hq e2
  rw [← b.fg p hp, ← H.i.or _ _ hq hr, H.img _ (Nat.or_lt_two_pow hq hr)]
  exact this
theorem cu_img {k n m : Nat} (hk : k ≤ 5) {f h : Nat → Nat} (H : Img k f h (fB n) (fB m)) {s : Nat} (hs : s < 2 ^ k) : cu2 m (2 ^ k) (f s) (2 ^ k) = cu2 n (2 ^ k) s (2 ^ k) := by
  rw [Bool.eq_iff_iff]
  refine ⟨fun hh => ?_, cu_img1 hk H hs⟩
  have := cu_img1 hk H.inv (H.i.b.lt s hs) hh
  rw [H.i.b.gf s hs] at this
  exact this
theorem cnt_img {q : Nat} {f h : Nat → Nat} (b : Bij q f h) {P Q : Nat → Bool} (e : ∀ s, s < q → P (f s) = Q s) : ((List.range q).filter P).length = ((List.range q).filter Q).length := by
  rw [← ((range_bij b).filter P).length_eq, List.filter_map, List.length_map]
  exact congrArg List.length (List.filter_congr fun s hs => e s (List.mem_range.1 hs))
theorem orG_bit (g : Nat → Nat) (j : Nat) : ∀ (l : List Nat) (a : Nat), (l.foldl (fun o b => o ||| 2 ^ g b) a).testBit j = (a.testBit j || l.any fun b => g b == j) := orF_bit g j
theorem img_bit {k n : Nat} (hk : k ≤ 5) (ht : ∀ i, i < 32 → n.testBit i = true → i < 2 ^ k) {f h : Nat → Nat} (b : Bij (2 ^ k) f h) (j : Nat) : (orG f (bL n)).testBit j = (decide (j < 2 ^ k) && n.testBit (h j)) := by
  have h32 := pow_le32 hk
  unfold orG
  rw [orG_bit, Nat.zero_testBit, Bool.false_or]
  unfold bL
  rw [List.any_filter, Bool.eq_iff_iff, List.any_eq_true, Bool.and_eq_true, decide_eq_true_eq]
  constructor
  · rintro ⟨s, hs, hh⟩
    rw [Bool.and_eq_true, beq_iff_eq] at hh
    have sk := ht s (List.mem_range.1 hs) hh.1
    rw [← hh.2]
    exact ⟨b.lt s sk, by rw [b.gf s sk]; exact hh.1⟩
  · rintro ⟨hj, hb⟩
    have := b.ltg j hj
    exact ⟨h j, List.mem_range.2 (by omega), by rw [hb, b.fg j hj, beq_self_eq_true]; rfl⟩
theorem img_of {k n : Nat} (hk : k ≤ 5) (ht : ∀ i, i < 32 → n.testBit i = true → i < 2 ^ k) {f h : Nat → Nat} (b : Bij (2 ^ k) f h) : (orG f (bL n) < 2 ^ 2 ^ k) ∧ ∀ s, s < 2 ^ k → at_ (fB (orG f (bL n))) (f s) = at_ (fB n) s := by
  have h32 := pow_le32 hk
  refine ⟨Nat.lt_pow_two_of_testBit _ fun i hi => by rw [img_bit hk ht b, decide_eq_false (by omega), Bool.false_and], fun s hs => ?_⟩
  have := b.lt s hs
  rw [at_fB (by omega), at_fB (by omega), img_bit hk ht b, decide_eq_true this, b.gf s hs]; rfl
theorem cp_bij (k : Nat) : Bij (2 ^ k) (fun s => 2 ^ k - 1 - s) (fun s => 2 ^ k - 1 - s) := by
  have := Nat.two_pow_pos k
  refine ⟨fun i hi => ?_, fun i hi => ?_, fun i hi => ?_, fun i hi => ?_⟩ <;> omega
theorem cpa : ∀ k, k < 6 → ∀ b, b < 2 ^ k → ∀ s, s < 2 ^ k → (2 ^ k - 1 - b) &&& s = dif s (b &&& s) := by decide +kernel
theorem cpb : ∀ s, s < 32 → ∀ i, i < 32 → sub i s = true → dif s (dif s i) = i := by decide +kernel
theorem cpc : ∀ s, s < 32 → ∀ i, i < 32 → sub (dif s i) s = true ∧ dif s i < 32 ∧ dif s i &&& s = dif s i := by decide +kernel
theorem sh_cp1 {k n m : Nat} (hk : k ≤ 5) (ht : ∀ s, s < 32 → at_ (fB n) s = true → s < 2 ^ k) (im : ∀ s, s < 2 ^ k → at_ (fB m) (2 ^ k - 1 - s) = at_ (fB n) s) {s : Nat} (hs : s < 2 ^ k) (hh : shB (fB n) s = true) : shB (fB m) s = true := by
  have h32 := pow_le32 hk
  rw [sh_iff (by omega)] at hh ⊢
  intro i hi hsub
  obtain ⟨d1, d2, _⟩ := cpc s (by omega) i hi
  obtain ⟨b, b1, b2, b3⟩ := hh (dif s i) d2 d1
  have bk := ht b b1 b2
  refine ⟨2 ^ k - 1 - b, by omega, by rw [im b bk]; exact b2, ?_⟩
  rw [cpa k (by omega) b bk s hs, b3, cpb s (by omega) i hi hsub]
theorem cpd1 : ∀ k, k < 6 → ∀ s, s < 2 ^ k → ∀ x, x < 2 ^ k → 2 ^ k - 1 - x = dif s (x &&& s) ||| dif (dif (2 ^ k - 1) s) (dif x s) := by decide +kernel
theorem cpd2 : ∀ s, s < 32 → ∀ r, r < 32 → r &&& s = 0 → ∀ p, p < 32 → (dif s p ||| r) &&& s = dif s p ∧ dif (dif s p ||| r) s = r := by decide +kernel
theorem cpd3 : ∀ s, s < 32 → ∀ p, p < 32 → p &&& s = p → dif s (dif s p) = p := by decide +kernel
theorem cpd {k s r p : Nat} (hk : k < 6) (hs : s < 2 ^ k) (hr : r < 2 ^ k) (h0 : r &&& s = 0) (hp : p < 2 ^ k) (he : p &&& s = p) (hd : dif s p < 2 ^ k) : p ||| dif (dif (2 ^ k - 1) s) r = 2 ^ k - 1 - (dif s p ||| r) := by
  have h32 := pow_le32 (k := k) (by omega)
  have hx : dif s p ||| r < 2 ^ k := Nat.or_lt_two_pow hd hr
  obtain ⟨e1, e2⟩ := cpd2 s (by omega) r (by omega) h0 p (by omega)
  rw [cpd1 k hk s hs _ hx, e1, e2, cpd3 s (by omega) p (by omega) he]
theorem cpe : ∀ k, k < 6 → ∀ s, s < 2 ^ k → ∀ r, r < 2 ^ k → dif (dif (2 ^ k - 1) s) r < 2 ^ k ∧ dif (dif (2 ^ k - 1) s) r &&& s = 0 ∧ dif s r < 2 ^ k := by decide +kernel
theorem cu_cp1 {k n m : Nat} (hk : k ≤ 5) (im : ∀ s, s < 2 ^ k → at_ (fB m) (2 ^ k - 1 - s) = at_ (fB n) s) {s : Nat} (hs : s < 2 ^ k) (hh : cu2 n (2 ^ k) s (2 ^ k) = true) : cu2 m (2 ^ k) s (2 ^ k) = true := by
  have h32 := pow_le32 hk
  rw [cu_P hk hs] at hh ⊢
  obtain ⟨r, hr, h0, hall⟩ := hh
  obtain ⟨e1, e2, _⟩ := cpe k (by omega) s hs r hr
  refine ⟨dif (dif (2 ^ k - 1) s) r, e1, e2, fun p hp e => ?_⟩
  have e3 := (cpe k (by omega) s hs p hp).2.2
  rw [cpd (by omega) hs hr h0 hp e e3, im _ (Nat.or_lt_two_pow e3 hr)]
  exact hall _ e3 (cpc s (by omega) p (by omega)).2.2
end Rgg
