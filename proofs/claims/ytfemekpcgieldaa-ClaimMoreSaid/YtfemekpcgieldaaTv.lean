/- More: deletion, and the order by numbers: tables and normal forms. -/
import Derived.Test.YtfemekpcgieldaaTo
import Derived.Test.YtfemekpcgieldaaSi
set_option linter.unusedVariables false
set_option linter.unusedSimpArgs false
namespace Go.Ev.Clm
open Go Go.Ev
set_option maxRecDepth 1000000
set_option maxHeartbeats 0
set_option linter.unusedVariables false
abbrev osD (r n : Nat) (wh : Bool) : AV := .os r 0 0 n wh false true
abbrev rByM (l : List Int) : Row := ⟨[.run (.int .u8) l], true, 54, false, false, none⟩
def _root_.Clm.rngI (n : Nat) : List Int := (List.range n).map Int.ofNat
def _root_.Clm.u8M (l : List Int) : Bool := l.all fun x => decide (0 ≤ x) && decide (x < 256)
noncomputable def TM0 : Tab := { TO1 with refm := fun f => match f with | 50 => [0] | f => refC f, ext := true }
theorem nf50 (l : List Int) (t : TypeId) (n : Nat) (i j : Int) (wh : Bool) : evBody TM0 50 [osD 0 n wh, vi i, vi j] [some (rowI l t)] = (bif decide (0 ≤ i) then bif decide (i ≤ j) then bif decide (j ≤ (↑n : Int)) then bif decide ((↑n : Int) = j) then bif i == j then some (.os 0 0 0 n wh false true, [some ⟨[.run (.int .i64) l], false, t, false, false, none⟩]) else bif decide ((↑n : Int) < i) then bif decide (0 + i.toNat ≤ l.length) then bif decide (0 ≤ j) then bif decide (j ≤ (↑n : Int)) then bif decide (j.toNat + (n - j.toNat) ≤ l.length) then bif decide (0 + i.toNat + (dropTake l j.toNat (n - j.toNat)).length ≤ l.length) then bif decide ((↑(i.toNat + (dropTake l j.toNat (n - j.toNat)).length) : Int) < (↑n : Int)) then bif decide (0 + (↑n : Int).toNat ≤ (over l (0 + i.toNat) (dropTake l j.toNat (n - j.toNat)).length (dropTake l j.toNat (n - j.toNat))).length) then bif decide ((↑(i.toNat + (dropTake l j.toNat (n - j.toNat)).length) : Int) ≤ (↑(↑n : Int).toNat : Int)) then bif decide ((↑(i.toNat + (dropTake l j.toNat (n - j.toNat)).length) : Int).toNat + ((↑n : Int).toNat - (↑(i.toNat + (dropTake l j.toNat (n - j.toNat)).length) : Int).toNat) ≤ (over l (0 + i.toNat) (dropTake l j.toNat (n - j.toNat)).length (dropTake l j.toNat (n - j.toNat))).length) then some (.os 0 0 0 (i.toNat + (dropTake l j.toNat (n - j.toNat)).length) false false true, [some ⟨[.run (.int .i64) (over (over l (0 + i.toNat) (dropTake l j.toNat (n - j.toNat)).length (dropTake l j.toNat (n - j.toNat))) (↑(i.toNat + (dropTake l j.toNat (n - j.toNat)).length) : Int).toNat ((↑n : Int).toNat - (↑(i.toNat + (dropTake l j.toNat (n - j.toNat)).length) : Int).toNat) (List.replicate ((↑n : Int).toNat - (↑(i.toNat + (dropTake l j.toNat (n - j.toNat)).length) : Int).toNat) 0))], false, t, false, false, none⟩]) else none else none else none else bif decide ((↑(i.toNat + (dropTake l j.toNat (n - j.toNat)).length) : Int) ≤ (↑n : Int)) then bif decide ((↑n : Int) ≤ (↑(i.toNat + (dropTake l j.toNat (n - j.toNat)).length) : Int)) then bif decide ((↑(i.toNat + (dropTake l j.toNat (n - j.toNat)).length) : Int).toNat + ((↑n : Int).toNat - (↑(i.toNat + (dropTake l j.toNat (n - j.toNat)).length) : Int).toNat) ≤ (over l (0 + i.toNat) (dropTake l j.toNat (n - j.toNat)).length (dropTake l j.toNat (n - j.toNat))).length) then some (.os 0 0 0 (i.toNat + (dropTake l j.toNat (n - j.toNat)).length) false false true, [some ⟨[.run (.int .i64) (over (over l (0 + i.toNat) (dropTake l j.toNat (n - j.toNat)).length (dropTake l j.toNat (n - j.toNat))) (↑(i.toNat + (dropTake l j.toNat (n - j.toNat)).length) : Int).toNat ((↑n : Int).toNat - (↑(i.toNat + (dropTake l j.toNat (n - j.toNat)).length) : Int).toNat) (List.replicate ((↑n : Int).toNat - (↑(i.toNat + (dropTake l j.toNat (n - j.toNat)).length) : Int).toNat) 0))], false, t, false, false, none⟩]) else none else none else none else none else none else none else none else none else bif decide (0 ≤ i) then bif decide (i ≤ (↑n : Int)) then bif decide (0 ≤ j) then bif decide (j ≤ (↑n : Int)) then bif decide (j.toNat + (n - j.toNat) ≤ l.length) then bif decide (0 + i.toNat + (dropTake l j.toNat (n - j.toNat)).length ≤ l.length) then bif decide ((↑(i.toNat + (dropTake l j.toNat (n - j.toNat)).length) : Int) < (↑n : Int)) then bif decide (0 + (↑n : Int).toNat ≤ (over l (0 + i.toNat) (dropTake l j.toNat (n - j.toNat)).length (dropTake l j.toNat (n - j.toNat))).length) then bif decide ((↑(i.toNat + (dropTake l j.toNat (n - j.toNat)).length) : Int) ≤ (↑(↑n : Int).toNat : Int)) then bif decide ((↑(i.toNat + (dropTake l j.toNat (n - j.toNat)).length) : Int).toNat + ((↑n : Int).toNat - (↑(i.toNat + (dropTake l j.toNat (n - j.toNat)).length) : Int).toNat) ≤ (over l (0 + i.toNat) (dropTake l j.toNat (n - j.toNat)).length (dropTake l j.toNat (n - j.toNat))).length) then some (.os 0 0 0 (i.toNat + (dropTake l j.toNat (n - j.toNat)).length) false false true, [some { c := [.run (.int .i64) (over (over l (0 + i.toNat) (dropTake l j.toNat (n - j.toNat)).length (dropTake l j.toNat (n - j.toNat))) (↑(i.toNat + (dropTake l j.toNat (n - j.toNat)).length) : Int).toNat ((↑n : Int).toNat - (↑(i.toNat + (dropTake l j.toNat (n - j.toNat)).length) : Int).toNat) (List.replicate ((↑n : Int).toNat - (↑(i.toNat + (dropTake l j.toNat (n - j.toNat)).length) : Int).toNat) 0))], vr := false, ty := t, fz := false, loose := false : Row }]) else none else none else none else bif decide ((↑(i.toNat + (dropTake l j.toNat (n - j.toNat)).length) : Int) ≤ (↑n : Int)) then bif decide ((↑n : Int) ≤ (↑(i.toNat + (dropTake l j.toNat (n - j.toNat)).length) : Int)) then bif decide ((↑(i.toNat + (dropTake l j.toNat (n - j.toNat)).length) : Int).toNat + ((↑n : Int).toNat - (↑(i.toNat + (dropTake l j.toNat (n - j.toNat)).length) : Int).toNat) ≤ (over l (0 + i.toNat) (dropTake l j.toNat (n - j.toNat)).length (dropTake l j.toNat (n - j.toNat))).length) then some (.os 0 0 0 (i.toNat + (dropTake l j.toNat (n - j.toNat)).length) false false true, [some { c := [.run (.int .i64) (over (over l (0 + i.toNat) (dropTake l j.toNat (n - j.toNat)).length (dropTake l j.toNat (n - j.toNat))) (↑(i.toNat + (dropTake l j.toNat (n - j.toNat)).length) : Int).toNat ((↑n : Int).toNat - (↑(i.toNat + (dropTake l j.toNat (n - j.toNat)).length) : Int).toNat) (List.replicate ((↑n : Int).toNat - (↑(i.toNat + (dropTake l j.toNat (n - j.toNat)).length) : Int).toNat) 0))], vr := false, ty := t, fz := false, loose := false : Row }]) else none else none else none else none else none else none else none else none else none else bif decide (j ≤ (↑n : Int)) && decide ((↑n : Int) ≤ (↑n : Int)) then bif i == j then some (.os 0 0 0 n wh false true, [some ⟨[.run (.int .i64) l], false, t, false, false, none⟩]) else bif decide ((↑n : Int) < i) then bif decide (0 + i.toNat ≤ l.length) then bif decide (0 ≤ j) then bif decide (j ≤ (↑n : Int)) then bif decide (j.toNat + (n - j.toNat) ≤ l.length) then bif decide (0 + i.toNat + (dropTake l j.toNat (n - j.toNat)).length ≤ l.length) then bif decide ((↑(i.toNat + (dropTake l j.toNat (n - j.toNat)).length) : Int) < (↑n : Int)) then bif decide (0 + (↑n : Int).toNat ≤ (over l (0 + i.toNat) (dropTake l j.toNat (n - j.toNat)).length (dropTake l j.toNat (n - j.toNat))).length) then bif decide ((↑(i.toNat + (dropTake l j.toNat (n - j.toNat)).length) : Int) ≤ (↑(↑n : Int).toNat : Int)) then bif decide ((↑(i.toNat + (dropTake l j.toNat (n - j.toNat)).length) : Int).toNat + ((↑n : Int).toNat - (↑(i.toNat + (dropTake l j.toNat (n - j.toNat)).length) : Int).toNat) ≤ (over l (0 + i.toNat) (dropTake l j.toNat (n - j.toNat)).length (dropTake l j.toNat (n - j.toNat))).length) then some (.os 0 0 0 (i.toNat + (dropTake l j.toNat (n - j.toNat)).length) false false true, [some { c := [.run (.int .i64) (over (over l (0 + i.toNat) (dropTake l j.toNat (n - j.toNat)).length (dropTake l j.toNat (n - j.toNat))) (↑(i.toNat + (dropTake l j.toNat (n - j.toNat)).length) : Int).toNat ((↑n : Int).toNat - (↑(i.toNat + (dropTake l j.toNat (n - j.toNat)).length) : Int).toNat) (List.replicate ((↑n : Int).toNat - (↑(i.toNat + (dropTake l j.toNat (n - j.toNat)).length) : Int).toNat) 0))], vr := false, ty := t, fz := false, loose := false : Row }]) else none else none else none else bif decide ((↑(i.toNat + (dropTake l j.toNat (n - j.toNat)).length) : Int) ≤ (↑n : Int)) then bif decide ((↑n : Int) ≤ (↑(i.toNat + (dropTake l j.toNat (n - j.toNat)).length) : Int)) then bif decide ((↑(i.toNat + (dropTake l j.toNat (n - j.toNat)).length) : Int).toNat + ((↑n : Int).toNat - (↑(i.toNat + (dropTake l j.toNat (n - j.toNat)).length) : Int).toNat) ≤ (over l (0 + i.toNat) (dropTake l j.toNat (n - j.toNat)).length (dropTake l j.toNat (n - j.toNat))).length) then some (.os 0 0 0 (i.toNat + (dropTake l j.toNat (n - j.toNat)).length) false false true, [some { c := [.run (.int .i64) (over (over l (0 + i.toNat) (dropTake l j.toNat (n - j.toNat)).length (dropTake l j.toNat (n - j.toNat))) (↑(i.toNat + (dropTake l j.toNat (n - j.toNat)).length) : Int).toNat ((↑n : Int).toNat - (↑(i.toNat + (dropTake l j.toNat (n - j.toNat)).length) : Int).toNat) (List.replicate ((↑n : Int).toNat - (↑(i.toNat + (dropTake l j.toNat (n - j.toNat)).length) : Int).toNat) 0))], vr := false, ty := t, fz := false, loose := false : Row }]) else none else none else none else none else none else none else none else none else bif decide (0 ≤ i) then bif decide (i ≤ (↑n : Int)) then bif decide (0 ≤ j) then bif decide (j ≤ (↑n : Int)) then bif decide (j.toNat + (n - j.toNat) ≤ l.length) then bif decide (0 + i.toNat + (dropTake l j.toNat (n - j.toNat)).length ≤ l.length) then bif decide ((↑(i.toNat + (dropTake l j.toNat (n - j.toNat)).length) : Int) < (↑n : Int)) then bif decide (0 + (↑n : Int).toNat ≤ (over l (0 + i.toNat) (dropTake l j.toNat (n - j.toNat)).length (dropTake l j.toNat (n - j.toNat))).length) then bif decide ((↑(i.toNat + (dropTake l j.toNat (n - j.toNat)).length) : Int) ≤ (↑(↑n : Int).toNat : Int)) then bif decide ((↑(i.toNat + (dropTake l j.toNat (n - j.toNat)).length) : Int).toNat + ((↑n : Int).toNat - (↑(i.toNat + (dropTake l j.toNat (n - j.toNat)).length) : Int).toNat) ≤ (over l (0 + i.toNat) (dropTake l j.toNat (n - j.toNat)).length (dropTake l j.toNat (n - j.toNat))).length) then some (.os 0 0 0 (i.toNat + (dropTake l j.toNat (n - j.toNat)).length) false false true, [some { c := [.run (.int .i64) (over (over l (0 + i.toNat) (dropTake l j.toNat (n - j.toNat)).length (dropTake l j.toNat (n - j.toNat))) (↑(i.toNat + (dropTake l j.toNat (n - j.toNat)).length) : Int).toNat ((↑n : Int).toNat - (↑(i.toNat + (dropTake l j.toNat (n - j.toNat)).length) : Int).toNat) (List.replicate ((↑n : Int).toNat - (↑(i.toNat + (dropTake l j.toNat (n - j.toNat)).length) : Int).toNat) 0))], vr := false, ty := t, fz := false, loose := false : Row }]) else none else none else none else bif decide ((↑(i.toNat + (dropTake l j.toNat (n - j.toNat)).length) : Int) ≤ (↑n : Int)) then bif decide ((↑n : Int) ≤ (↑(i.toNat + (dropTake l j.toNat (n - j.toNat)).length) : Int)) then bif decide ((↑(i.toNat + (dropTake l j.toNat (n - j.toNat)).length) : Int).toNat + ((↑n : Int).toNat - (↑(i.toNat + (dropTake l j.toNat (n - j.toNat)).length) : Int).toNat) ≤ (over l (0 + i.toNat) (dropTake l j.toNat (n - j.toNat)).length (dropTake l j.toNat (n - j.toNat))).length) then some (.os 0 0 0 (i.toNat + (dropTake l j.toNat (n - j.toNat)).length) false false true, [some { c := [.run (.int .i64) (over (over l (0 + i.toNat) (dropTake l j.toNat (n - j.toNat)).length (dropTake l j.toNat (n - j.toNat))) (↑(i.toNat + (dropTake l j.toNat (n - j.toNat)).length) : Int).toNat ((↑n : Int).toNat - (↑(i.toNat + (dropTake l j.toNat (n - j.toNat)).length) : Int).toNat) (List.replicate ((↑n : Int).toNat - (↑(i.toNat + (dropTake l j.toNat (n - j.toNat)).length) : Int).toNat) 0))], vr := false, ty := t, fz := false, loose := false : Row }]) else none else none else none else none else none else none else none else none else none else none else none else none else none) := by kernel_rfl
def c50t (l : List Int) (t : TypeId) (n : Nat) (i j : Int) (wh : Bool) : Tree (AV × Hp) := .br (decide (0 ≤ i) && decide (j = i + 1) && decide (i < n) && decide (n ≤ l.length) && decide (l.length ≤ 5)) (.leaf (osD 0 (n - 1) false, [some (rowI (Clm.delR l n i.toNat) t)])) .fail
def c50 (args : List AV) (H : Hp) : Tree (AV × Hp) := match args, H with
  | [(.os 0 0 0 n wh false true), (.sc (.int .i64 i)), (.sc (.int .i64 j))], [some ⟨[.run (.int .i64) l], false, t, false, false, none⟩] => c50t l t n i j wh
  | _, _ => .fail
theorem c50_ok {T : Tab} (hT : TabOK T) (h : ∀ (l : List Int) (t : TypeId) (n : Nat) (i j : Int) (wh : Bool) (r : AV × Hp), (c50t l t n i j wh).val = some r → evBody T 50 [osD 0 n wh, vi i, vi j] [some (rowI l t)] = some r) : ∀ args H v H', (c50 args H).val = some (v, H') → CallOK T 50 args H v H' := by
  intro args H v H' hv
  unfold c50 at hv
  split at hv
  · exact evBody_sound hT (h _ _ _ _ _ _ _ hv)
  · cases hv
def c28ut (cs od : List Int) (w : Int) : Tree (AV × Hp) := .br (Clm.ordE w cs od == 0) (.leaf (.tuple [osT 0 cs.length, vi 0], [some (rowI (Clm.ordV w cs od) 3)])) .fail
def c28u (args : List AV) (H : Hp) : Tree (AV × Hp) := match args, H with
  | [(.sc (.int .i64 w)), (.sl (.int .i64) cs false), (.sl (.int .i64) od false)], [] => c28ut cs od w
  | _, _ => .fail
theorem c28u_ok {T : Tab} (hT : TabOK T) (h : ∀ (cs od : List Int) (w : Int) (r : AV × Hp), (c28ut cs od w).val = some r → evBody T 28 [vi w, lI cs, lI od] [] = some r) : ∀ args H v H', (c28u args H).val = some (v, H') → CallOK T 28 args H v H' := by
  intro args H v H' hv
  unfold c28u at hv
  split at hv
  · exact evBody_sound hT (h _ _ _ _ hv)
  · cases hv
noncomputable def TM1 : Tab := TM0.addCall 50 c50
theorem nl14_5 (again : Ag) (bs cs l e : List Int) (t tl te : TypeId) (w n m i : Int) (k : Nat) : lpStep TM0 14 5 0 (lpc TM0 14 5) again [ps 0, vi w, osW 1 k, vi n, osW 2 l.length, osW 3 e.length, vi m, vi i] [some (rByM bs), some (rowI cs t), some (rowI l tl), some (rowI e te)] = (bif decide (i < m) then bif room (l.length + 1) 8 then again [.ps 0 0 0 0, vi w, osW 1 k, vi n, osW 2 (l.length + 1), osW 3 e.length, vi m, vi (IntKind.i64.wrap (i + 1))] [some ⟨[.run (.int .u8) bs], true, 54, false, false, none⟩, some ⟨[.run (.int .i64) cs], false, t, false, false, none⟩, some ⟨[.run (.int .i64) (l ++ [i])], false, 3, false, false, none⟩, some ⟨[.run (.int .i64) e], false, te, false, false, none⟩] else none else some (.ext 0, [.ps 0 0 0 0, vi w, osW 1 k, vi n, osW 2 l.length, osW 3 e.length, vi m, vi i], [some ⟨[.run (.int .u8) bs], true, 54, false, false, none⟩, some ⟨[.run (.int .i64) cs], false, t, false, false, none⟩, some ⟨[.run (.int .i64) l], false, tl, false, false, none⟩, some ⟨[.run (.int .i64) e], false, te, false, false, none⟩])) := by kernel_rfl
def l14_5t (bs cs : List Int) (t : TypeId) (w n m : Int) (k : Nat) : Tree (Out × List AV × Hp) := .br (decide (0 ≤ m) && decide (m ≤ 5)) (.leaf (.ext 0, [ps 0, vi w, osW 1 k, vi n, osW 2 m.toNat, osW 3 0, vi m, vi m], [some (rByM bs), some (rowI cs t), some (rI (Clm.rngI m.toNat)), some (rowI [] 0)])) .fail
def l14_5 (base : Nat) (kv : List AV) (H : Hp) : Tree (Out × List AV × Hp) := match Nat.beq base 0, kv, H with
  | true, [(.ps 0 0 0 0), (.sc (.int .i64 w)), (.os 1 0 0 k true false true), (.sc (.int .i64 n)), (.os 2 0 0 0 true false true), (.os 3 0 0 0 true false true), (.sc (.int .i64 m)), (.sc (.int .i64 0))], [some ⟨[.run (.int .u8) bs], true, 54, false, false, none⟩, some ⟨[.run (.int .i64) cs], false, t, false, false, none⟩, some ⟨[.run (.int .i64) []], false, 0, false, false, none⟩, some ⟨[.run (.int .i64) []], false, 0, false, false, none⟩] => l14_5t bs cs t w n m k
  | _, _, _ => .fail
theorem l14_5_ok {T : Tab} (hT : TabOK T) (hlo : loopOf T.fn 14 5 = some (lpc T 14 5)) (h : ∀ (bs cs : List Int) (t : TypeId) (w n m : Int) (k : Nat) (r : Out × List AV × Hp), (l14_5t bs cs t w n m k).val = some r → ∃ mm, lpRun T 14 5 0 (lpc T 14 5) mm [ps 0, vi w, osW 1 k, vi n, osW 2 0, osW 3 0, vi m, vi 0] [some (rByM bs), some (rowI cs t), some (rowI [] 0), some (rowI [] 0)] = some r) : ∀ base kv H o kv' H', (l14_5 base kv H).val = some (o, kv', H') → LoopOK T 14 5 base kv H o kv' H' := by
  intro base kv H o kv' H' hv
  unfold l14_5 at hv
  split at hv
  · rename_i hb
    obtain rfl := Nat.eq_of_beq_eq_true hb
    exact loop_ok hT hlo (h _ _ _ _ _ _ _ _ hv)
  · cases hv
theorem nl14_10 (again : Ag) (bs cs l o : List Int) (t tl to : TypeId) (w n m i : Int) (k z : Nat) (wh : Bool) : lpStep TM1 14 10 0 (lpc TM1 14 10) again [ps 0, vi w, osW 1 k, vi n, osD 2 z wh, osW 3 o.length, vi m, vi i] [some (rByM bs), some (rowI cs t), some (rowI l tl), some (rowI o to)] = (bif decide (i < m) then bif decide (0 ≤ i) then bif decide (i < (↑5 : Int)) then oM bs[i.toNat + 0]? fun x => bif !decide ((↑z : Int) = 0) then bif decide (0 ≤ (IntKind.i64.wrap x).tmod (↑z : Int)) then bif decide ((IntKind.i64.wrap x).tmod (↑z : Int) < (↑z : Int)) then oM l[((IntKind.i64.wrap x).tmod (↑z : Int)).toNat]? fun x_1 => bif room (o.length + 1) 8 then bif decide (0 ≤ (IntKind.i64.wrap x).tmod (↑z : Int)) && decide (IntKind.i64.wrap ((IntKind.i64.wrap x).tmod (↑z : Int) + 1) = (IntKind.i64.wrap x).tmod (↑z : Int) + 1) && decide ((IntKind.i64.wrap x).tmod (↑z : Int) < (↑z : Int)) && decide (z ≤ l.length) && decide (l.length ≤ 5) then again [.ps 0 0 0 0, vi w, osW 1 k, vi n, .os 2 0 0 (z - 1) false false true, osW 3 (o.length + 1), vi m, vi (IntKind.i64.wrap (i + 1))] [some ⟨[.run (.int .u8) bs], true, 54, false, false, none⟩, some ⟨[.run (.int .i64) cs], false, t, false, false, none⟩, some ⟨[.run (.int .i64) (Clm.delR l z ((IntKind.i64.wrap x).tmod (↑z : Int)).toNat)], false, tl, false, false, none⟩, some ⟨[.run (.int .i64) (o ++ [x_1])], false, 3, false, false, none⟩] else none else none else none else none else none else none else none else some (.ext 2, [.ps 0 0 0 0, vi w, osW 1 k, vi n, .os 2 0 0 z wh false true, osW 3 o.length, vi m, vi i], [some ⟨[.run (.int .u8) bs], true, 54, false, false, none⟩, some ⟨[.run (.int .i64) cs], false, t, false, false, none⟩, some ⟨[.run (.int .i64) l], false, tl, false, false, none⟩, some ⟨[.run (.int .i64) o], false, to, false, false, none⟩])) := by kernel_rfl
def l14_10t (bs cs l : List Int) (t tl : TypeId) (w n m : Int) (k z : Nat) : Tree (Out × List AV × Hp) := .br (decide (m = z) && decide (z ≤ 5) && decide (1 ≤ z) && decide (l = Clm.rngI z) && decide (bs.length = 5) && Clm.u8M bs) (.leaf (.ext 2, [ps 0, vi w, osW 1 k, vi n, osD 2 0 false, osW 3 z, vi m, vi m], [some (rByM bs), some (rowI cs t), some (rowI (Clm.moS bs z z).1 tl), some (rI (Clm.moO bs z))])) .fail
def l14_10 (base : Nat) (kv : List AV) (H : Hp) : Tree (Out × List AV × Hp) := match Nat.beq base 0, kv, H with
  | true, [(.ps 0 0 0 0), (.sc (.int .i64 w)), (.os 1 0 0 k true false true), (.sc (.int .i64 n)), (.os 2 0 0 z true false true), (.os 3 0 0 0 true false true), (.sc (.int .i64 m)), (.sc (.int .i64 0))], [some ⟨[.run (.int .u8) bs], true, 54, false, false, none⟩, some ⟨[.run (.int .i64) cs], false, t, false, false, none⟩, some ⟨[.run (.int .i64) l], false, tl, false, false, none⟩, some ⟨[.run (.int .i64) []], false, 0, false, false, none⟩] => l14_10t bs cs l t tl w n m k z
  | _, _, _ => .fail
theorem l14_10_ok {T : Tab} (hT : TabOK T) (hlo : loopOf T.fn 14 10 = some (lpc T 14 10)) (h : ∀ (bs cs l : List Int) (t tl : TypeId) (w n m : Int) (k z : Nat) (r : Out × List AV × Hp), (l14_10t bs cs l t tl w n m k z).val = some r → ∃ mm, lpRun T 14 10 0 (lpc T 14 10) mm [ps 0, vi w, osW 1 k, vi n, osW 2 z, osW 3 0, vi m, vi 0] [some (rByM bs), some (rowI cs t), some (rowI l tl), some (rowI [] 0)] = some r) : ∀ base kv H o kv' H', (l14_10 base kv H).val = some (o, kv', H') → LoopOK T 14 10 base kv H o kv' H' := by
  intro base kv H o kv' H' hv
  unfold l14_10 at hv
  split at hv
  · rename_i hb
    obtain rfl := Nat.eq_of_beq_eq_true hb
    exact loop_ok hT hlo (h _ _ _ _ _ _ _ _ _ _ _ hv)
  · cases hv
end Go.Ev.Clm
namespace Go.Ev.Clm
open Go Go.Ev
set_option maxRecDepth 1000000
set_option linter.unusedVariables false
set_option linter.unusedSimpArgs false
theorem TM0_ok : TabOK TM0 :=
  ⟨fun f a H v H' hv => by refine CallOK.tab ?_ ?_ (TO1_ok.calls f a H v H' hv) <;> rfl, fun f l b k H o k' H' hv => by refine LoopOK.tab ?_ ?_ ?_ ?_ (TO1_ok.loops f l b k H o k' H' hv) <;> rfl, TO1_ok.fns, TO1_ok.mixed⟩
theorem c28u_run : ∀ args H v H', (c28u args H).val = some (v, H') → CallOK TO1 28 args H v H' := by
  intro args H v H' hv
  unfold c28u at hv
  split at hv
  · rename_i w cs od
    obtain ⟨h1, h2⟩ := guard_val hv
    refine CallOK.tab (T := T19) ?_ ?_ (c28_run _ _ _ _ ?_)
    · rfl
    · rfl
    · show (c28t cs od w).val = _
      unfold c28t
      rw [h1]
      exact h2
  · cases hv
theorem c50_run : ∀ args H v H', (c50 args H).val = some (v, H') → CallOK TM0 50 args H v H' := c50_ok TM0_ok (by
  intro l t n i j wh r hv
  obtain ⟨hl, hv2⟩ := guard_val hv
  simp only [Bool.and_eq_true, decide_eq_true_eq] at hl
  obtain ⟨⟨⟨⟨h1, rfl⟩, h2⟩, h3⟩, h4⟩ := hl
  obtain ⟨i, rfl⟩ := Int.eq_ofNat_of_zero_le h1
  have ht : ((i : Int) + 1).toNat = i + 1 := by omega
  obtain ⟨e1, e2, e3⟩ := Clm.del_eq (l := l) (x := dropTake l (i + 1) (n - (i + 1))) (R := over l i (dropTake l (i + 1) (n - (i + 1))).length (dropTake l (i + 1) (n - (i + 1)))) (i := i) (n := n) (by omega) h3 rfl rfl
  have hs : i + (n - (i + 1)) = n - 1 := by omega
  have hs1 : n - (n - 1) = 1 := by omega
  have e4 : over (over l i (n - (i + 1)) (dropTake l (i + 1) (n - (i + 1)))) (n - 1) 1 [0] = Clm.delR l n i := by
    rw [← e3, e1]; rfl
  rw [e1] at e2
  have hd : (l.length : Int) ≥ n := by omega
  rw [nf50, leaf_val hv2]
  have hb : ((i : Int) == (i : Int) + 1) = false := by rw [beq_eq_false_iff_ne]; omega
  have hr : List.replicate 1 (0 : Int) = [0] := rfl
  cases hc : decide ((n : Int) = (i : Int) + 1) with
  | true =>
    simp only [ht, toNat_cast, Nat.zero_add, e1, hs, hs1, e2, hb, hr, e4, dec_ge, cond_true, cond_false, decide_eq_false (show ¬ (n : Int) < (i : Int) by omega), decide_eq_true (show ((n - 1 : Nat) : Int) < (n : Int) by omega), decide_eq_true h3, decide_eq_true (show (i : Int) ≤ (i : Int) + 1 by omega), decide_eq_true (show (i : Int) + 1 ≤ (n : Int) by omega), decide_eq_true (show (i : Int) ≤ (n : Int) by omega), decide_eq_true (show (0 : Int) ≤ (i : Int) + 1 by omega), decide_eq_true (show i + 1 + (n - (i + 1)) ≤ l.length by omega), decide_eq_true (show n - 1 ≤ l.length by omega), decide_eq_true (show ((n - 1 : Nat) : Int) ≤ (n : Int) by omega), decide_eq_true (show (n : Int) ≤ (n : Int) by omega), decide_eq_true (show n - 1 + 1 ≤ l.length by omega)]
  | false =>
    simp only [ht, toNat_cast, Nat.zero_add, e1, hs, hs1, e2, hb, hr, e4, dec_ge, cond_true, cond_false, Bool.and_self, decide_eq_false (show ¬ (n : Int) < (i : Int) by omega), decide_eq_true (show ((n - 1 : Nat) : Int) < (n : Int) by omega), decide_eq_true h3, decide_eq_true (show (i : Int) ≤ (i : Int) + 1 by omega), decide_eq_true (show (i : Int) + 1 ≤ (n : Int) by omega), decide_eq_true (show (i : Int) ≤ (n : Int) by omega), decide_eq_true (show (0 : Int) ≤ (i : Int) + 1 by omega), decide_eq_true (show i + 1 + (n - (i + 1)) ≤ l.length by omega), decide_eq_true (show n - 1 ≤ l.length by omega), decide_eq_true (show ((n - 1 : Nat) : Int) ≤ (n : Int) by omega), decide_eq_true (show (n : Int) ≤ (n : Int) by omega), decide_eq_true (show n - 1 + 1 ≤ l.length by omega)])
theorem TM1_ok : TabOK TM1 := TM0_ok.addCall fun a H v H' hv => by refine CallOK.tab ?_ ?_ (c50_run a H v H' hv) <;> rfl
theorem rng_snoc (i : Nat) : Clm.rngI (i + 1) = Clm.rngI i ++ [(i : Int)] := by unfold Clm.rngI; rw [List.range_succ, List.map_append]; rfl
theorem rng_len (i : Nat) : (Clm.rngI i).length = i := by simp [Clm.rngI]
theorem l14_5_run : ∀ base kv H o kv' H', (l14_5 base kv H).val = some (o, kv', H') → LoopOK TM0 14 5 base kv H o kv' H' := l14_5_ok TM0_ok (by kernel_rfl) (by
  intro bs cs t w n m k r hv
  obtain ⟨hl, hv2⟩ := guard_val hv
  simp only [Bool.and_eq_true, decide_eq_true_eq] at hl
  obtain ⟨h1, h2⟩ := hl
  obtain ⟨m, rfl⟩ := Int.eq_ofNat_of_zero_le h1
  rw [toNat_cast] at hv2
  obtain ⟨mm, hm⟩ := steps_of (T := TM0) (fid := 14) (lid := 5) (base := 0) (c := lpc TM0 14 5) m (fun i => [ps 0, vi w, osW 1 k, vi n, osW 2 (Clm.rngI i).length, osW 3 0, vi m, vi (i : Nat)]) (fun i => [some (rByM bs), some (rowI cs t), some (rI (Clm.rngI i)), some (rowI [] 0)])
    (.ext 0, [ps 0, vi w, osW 1 k, vi n, osW 2 m, osW 3 0, vi m, vi m], [some (rByM bs), some (rowI cs t), some (rI (Clm.rngI m)), some (rowI [] 0)])
    (fun i hi again => by
      have e := nl14_5 again bs cs (Clm.rngI i) [] t (tyI (Clm.rngI i)) 0 w n m (i : Nat) k
      have hl := rng_len i
      refine e.trans ?_
      simp only [dec_lt hi, cond_true, room_ok (show (Clm.rngI i).length + 1 ≤ 1000000 by omega) (show 8 ≤ 200 by omega)]
      rw [wrap_succ (by omega), rI, rng_snoc, tyI_snoc, List.length_append, List.length_singleton]
      rfl)
    (fun again => by
      have e := nl14_5 again bs cs (Clm.rngI m) [] t (tyI (Clm.rngI m)) 0 w n m (m : Nat) k
      refine e.trans ?_
      simp only [dec_ll, cond_false]
      rw [rng_len]; rfl)
  exact ⟨mm, hm.trans (by rw [leaf_val hv2])⟩)
theorem of_u8M {l : List Int} (h : Clm.u8M l = true) : ∀ x ∈ l, 0 ≤ x ∧ x < 256 := by
  unfold Clm.u8M at h
  simpa only [List.all_eq_true, Bool.and_eq_true, decide_eq_true_eq] using h
theorem at_getM {l : List Int} {i : Nat} (h : i < l.length) : l[i]? = some (Clm.at0 l (i : Nat)) := by
  have := (at0_get (l := l) (i := (i : Int)) (by omega) (by omega)).1
  rwa [toNat_cast] at this
theorem l14_10_run : ∀ base kv H o kv' H', (l14_10 base kv H).val = some (o, kv', H') → LoopOK TM1 14 10 base kv H o kv' H' := l14_10_ok TM1_ok (by kernel_rfl) (by
  intro bs cs l t tl w n m k z r hv
  obtain ⟨hl, hv2⟩ := guard_val hv
  simp only [Bool.and_eq_true, decide_eq_true_eq] at hl
  obtain ⟨⟨⟨⟨⟨rfl, h5⟩, h1⟩, rfl⟩, hb5⟩, hb⟩ := hl
  have hb := of_u8M hb
  have hb0 : ∀ x ∈ bs, 0 ≤ x := fun x hx => (hb x hx).1
  obtain ⟨mm, hm⟩ := steps_of (T := TM1) (fid := 14) (lid := 10) (base := 0) (c := lpc TM1 14 10) z (fun i => [ps 0, vi w, osW 1 k, vi n, osD 2 (z - i) (Nat.beq i 0), osW 3 i, vi z, vi (i : Nat)]) (fun i => [some (rByM bs), some (rowI cs t), some (rowI (Clm.moS bs z i).1 tl), some (rI (Clm.moS bs z i).2)])
    (.ext 2, [ps 0, vi w, osW 1 k, vi n, osD 2 0 false, osW 3 z, vi z, vi z], [some (rByM bs), some (rowI cs t), some (rowI (Clm.moS bs z z).1 tl), some (rI (Clm.moO bs z))])
    (fun i hi again => by
      obtain ⟨l1, l2, _⟩ := Clm.mo_inv hb0 z i (by omega)
      obtain ⟨hk, hK⟩ := Clm.moK_lt hb0 (n := z) (i := i) hi
      have gb := at_getM (l := bs) (i := i) (by omega)
      have bb := hb _ (List.mem_of_getElem? gb)
      have gl := at_getM (l := (Clm.moS bs z i).1) (i := Clm.moK bs z i) (by omega)
      have e := nl14_10 again bs cs (Clm.moS bs z i).1 (Clm.moS bs z i).2 t tl (tyI (Clm.moS bs z i).2) w n z (i : Nat) k (z - i) (Nat.beq i 0)
      rw [l2] at e
      rw [e, wrapi (x := (i : Int) + 1) (by omega) (by omega)]
      simp only [dec_lt hi, dec_ge, cond_true, toNat_cast, Nat.add_zero, gb, oM, decide_eq_true (show (i : Int) < ((5 : Nat) : Int) by omega), decide_eq_true (show (i : Int) < 5 by omega), decide_eq_false (show ¬ ((z - i : Nat) : Int) = 0 by omega), Bool.not_false]
      rw [wrapi (x := Clm.at0 bs (i : Nat)) (by omega) (by omega), hK, wrapi (x := (Clm.moK bs z i : Int) + 1) (by omega) (by omega)]
      simp only [dec_lt hk, dec_ge, cond_true, toNat_cast, gl, oM, room_ok (show i + 1 ≤ 1000000 by omega) (show 8 ≤ 200 by omega), decide_true, decide_eq_true (show z - i ≤ (Clm.moS bs z i).1.length by omega), decide_eq_true (show (Clm.moS bs z i).1.length ≤ 5 by omega), Bool.and_self]
      have e2 : z - i - 1 = z - (i + 1) := by omega
      rw [e2]
      show _ = again [ps 0, vi w, osW 1 k, vi n, osD 2 (z - (i + 1)) false, osW 3 (i + 1), vi z, vi ((i + 1 : Nat) : Int)] [some (rByM bs), some (rowI cs t), some (rowI (Clm.delR (Clm.moS bs z i).1 (z - i) (Clm.moK bs z i)) tl), some (rI ((Clm.moS bs z i).2 ++ [Clm.at0 (Clm.moS bs z i).1 (Clm.moK bs z i)]))]
      rw [rI, tyI_snoc]
      rfl)
    (fun again => by
      obtain ⟨l1, l2, _⟩ := Clm.mo_inv hb0 z z (Nat.le_refl _)
      have e := nl14_10 again bs cs (Clm.moS bs z z).1 (Clm.moS bs z z).2 t tl (tyI (Clm.moS bs z z).2) w n z (z : Nat) k (z - z) (Nat.beq z 0)
      rw [l2] at e
      rw [e]
      simp only [dec_ll, cond_false, Nat.sub_self]
      have : Nat.beq z 0 = false := by cases z with
        | zero => omega
        | succ z => rfl
      rw [this]; rfl)
  exact ⟨mm, hm.trans (by rw [leaf_val hv2])⟩)
end Go.Ev.Clm
