/- The claim chapter: the average: tables and normal forms. -/
import Derived.Test.YtfemekpcgieldaaTf
import Derived.Test.YtfemekpcgieldaaSb
set_option linter.unusedVariables false
set_option linter.unusedSimpArgs false
namespace Go.Ev.Clm
open Go Go.Ev
set_option maxRecDepth 1000000
set_option linter.unusedVariables false
abbrev rY (l : List Int) : Row := ⟨[.run (.int .i64) l], true, 78, false, false, none⟩
theorem nl30_8 (again : Ag) (cs ys : List Int) (w n i : Int) : lpStep T21 30 8 0 (lpc T21 30 8) again [vi w, lI cs, vi n, ps 0, vi n, vi i] [some (rY ys)] = (bif decide (i < n) then bif decide (0 ≤ i) then bif decide (i < (↑6 : Int)) then oM ys[i.toNat]? fun x => bif decide (0 ≤ IntKind.i64.wrap (i + 1)) then bif decide (IntKind.i64.wrap (i + 1) < (↑6 : Int)) then oM ys[(IntKind.i64.wrap (i + 1)).toNat]? fun x_1 => again [vi w, .sl (.int .i64) cs false, vi n, .ps 0 0 0 0, vi n, vi (IntKind.i64.wrap (i + 1))] [some ⟨[.run (.int .i64) (ys.set (IntKind.i64.wrap (i + 1)).toNat (IntKind.i64.wrap (x * IntKind.i64.wrap (i + 1))))], true, 78, false, false, none⟩] else none else none else none else none else some (.ext 0, [vi w, .sl (.int .i64) cs false, vi n, .ps 0 0 0 0, vi n, vi i], [some ⟨[.run (.int .i64) ys], true, 78, false, false, none⟩])) := by kernel_rfl
theorem nl30_18 (again : Ag) (cs ys out : List Int) (w n S L m u v i : Int) (k : Nat) : lpStep T21 30 18 0 (lpc T21 30 18) again [vi w, lI cs, vi n, ps 0, osT 1 k, vi S, vi L, vi m, vi u, vi v, lI cs, vi cs.length, vi i] [some (rY ys), some (rowI out 3)] = (bif decide (i < (↑cs.length : Int)) then bif decide (0 ≤ i) then bif decide (i < (↑cs.length : Int)) then oM cs[i.toNat]? fun x => bif decide (0 ≤ i) then bif IntKind.i64.wrap (↑(BitVec.ofInt 64 (S.fdiv (2 ^ Min.min i.toNat 64)) &&& BitVec.ofInt 64 1).toNat : Int) == 1 then again [vi w, .sl (.int .i64) cs false, vi n, .ps 0 0 0 0, .os 1 0 0 k true true true, vi S, vi (IntKind.i64.wrap (L - x)), vi (IntKind.i64.wrap (m + 1)), vi u, vi v, .sl (.int .i64) cs false, vi (↑cs.length : Int), vi (IntKind.i64.wrap (i + 1))] [some ⟨[.run (.int .i64) ys], true, 78, false, false, none⟩, some ⟨[.run (.int .i64) out], false, 3, false, false, none⟩] else again [vi w, .sl (.int .i64) cs false, vi n, .ps 0 0 0 0, .os 1 0 0 k true true true, vi S, vi L, vi m, vi u, vi v, .sl (.int .i64) cs false, vi (↑cs.length : Int), vi (IntKind.i64.wrap (i + 1))] [some ⟨[.run (.int .i64) ys], true, 78, false, false, none⟩, some ⟨[.run (.int .i64) out], false, 3, false, false, none⟩] else none else none else none else some (.ext 4, [vi w, .sl (.int .i64) cs false, vi n, .ps 0 0 0 0, .os 1 0 0 k true true true, vi S, vi L, vi m, vi u, vi v, .sl (.int .i64) cs false, vi (↑cs.length : Int), vi i], [some ⟨[.run (.int .i64) ys], true, 78, false, false, none⟩, some ⟨[.run (.int .i64) out], false, 3, false, false, none⟩])) := by kernel_rfl
theorem nl30_25 (again : Ag) (cs ys out : List Int) (w n S L m u v i : Int) (k : Nat) : lpStep T21 30 25 0 (lpc T21 30 25) again [vi w, lI cs, vi n, ps 0, osT 1 k, vi S, vi L, vi m, vi u, vi v, lI cs, vi cs.length, vi i] [some (rY ys), some (rowI out 3)] = (bif decide (i < (↑cs.length : Int)) then bif decide (0 ≤ i) then bif decide (i < (↑cs.length : Int)) then oM cs[i.toNat]? fun x => bif decide (0 ≤ i) then bif IntKind.i64.wrap (↑(BitVec.ofInt 64 (S.fdiv (2 ^ Min.min i.toNat 64)) &&& BitVec.ofInt 64 1).toNat : Int) == 0 then bif decide (0 ≤ i) then bif decide (i < (↑k : Int)) then oM out[i.toNat]? fun x_1 => bif decide (0 ≤ m) then bif decide (m < (↑6 : Int)) then oM ys[m.toNat]? fun x_2 => bif decide (0 ≤ IntKind.i64.wrap (IntKind.i64.wrap (n - 1) - m)) then bif decide (IntKind.i64.wrap (IntKind.i64.wrap (n - 1) - m) < (↑6 : Int)) then oM ys[(IntKind.i64.wrap (IntKind.i64.wrap (n - 1) - m)).toNat]? fun x_3 => bif decide (0 ≤ i) then bif decide (i < (↑k : Int)) then oM out[i.toNat]? fun x_4 => again [vi w, .sl (.int .i64) cs false, vi n, .ps 0 0 0 0, .os 1 0 0 k true true true, vi S, vi L, vi m, vi u, vi v, .sl (.int .i64) cs false, vi (↑cs.length : Int), vi (IntKind.i64.wrap (i + 1))] [some ⟨[.run (.int .i64) ys], true, 78, false, false, none⟩, some { c := [.run (.int .i64) (out.set i.toNat (IntKind.i64.wrap (x_1 + IntKind.i64.wrap (IntKind.i64.wrap ((if (if x < L then x else L) > 0 then if x < L then x else L else 0) * x_2) * x_3))))], vr := false, ty := 3, fz := false, loose := false : Row }] else none else none else none else none else none else none else none else none else again [vi w, .sl (.int .i64) cs false, vi n, .ps 0 0 0 0, .os 1 0 0 k true true true, vi S, vi L, vi m, vi u, vi v, .sl (.int .i64) cs false, vi (↑cs.length : Int), vi (IntKind.i64.wrap (i + 1))] [some ⟨[.run (.int .i64) ys], true, 78, false, false, none⟩, some ⟨[.run (.int .i64) out], false, 3, false, false, none⟩] else none else none else none else some (.ext 6, [vi w, .sl (.int .i64) cs false, vi n, .ps 0 0 0 0, .os 1 0 0 k true true true, vi S, vi L, vi m, vi u, vi v, .sl (.int .i64) cs false, vi (↑cs.length : Int), vi i], [some ⟨[.run (.int .i64) ys], true, 78, false, false, none⟩, some ⟨[.run (.int .i64) out], false, 3, false, false, none⟩])) := by kernel_rfl
theorem nl30_32 (again : Ag) (ys out : List Int) (n i : Int) (k : Nat) : lpStep T21 30 32 0 (lpc T21 30 32) again [vi n, ps 0, osT 1 k, vi k, vi i] [some (rY ys), some (rowI out 3)] = (bif decide (i < (↑k : Int)) then bif decide (0 ≤ i) then bif decide (i < (↑k : Int)) then oM out[i.toNat]? fun x => bif decide (0 ≤ n) then bif decide (n < (↑6 : Int)) then oM ys[n.toNat]? fun x_1 => bif !decide (x_1 = 0) then bif decide (0 ≤ i) then bif decide (i < (↑k : Int)) then oM out[i.toNat]? fun x_2 => again [vi n, .ps 0 0 0 0, .os 1 0 0 k true true true, vi (↑k : Int), vi (IntKind.i64.wrap (i + 1))] [some ⟨[.run (.int .i64) ys], true, 78, false, false, none⟩, some ⟨[.run (.int .i64) (out.set i.toNat (IntKind.i64.wrap (x * IntKind.i64.wrap (Int.tdiv 120 x_1))))], false, 3, false, false, none⟩] else none else none else none else none else none else none else none else some (.ext 8, [vi n, .ps 0 0 0 0, .os 1 0 0 k true true true, vi (↑k : Int), vi i], [some ⟨[.run (.int .i64) ys], true, 78, false, false, none⟩, some ⟨[.run (.int .i64) out], false, 3, false, false, none⟩])) := by kernel_rfl
def l30_8t (cs ys : List Int) (w n n2 : Int) : Tree (Out × List AV × Hp) := .br (decide (n2 = n) && decide (n = cs.length) && decide (cs.length ≤ 5) && decide (ys = Clm.facW 0)) (.leaf (.ext 0, [vi w, lI cs, vi n, ps 0, vi n, vi n], [some (rY (Clm.facW cs.length))])) .fail
def l30_8 (base : Nat) (kv : List AV) (H : Hp) : Tree (Out × List AV × Hp) := match Nat.beq base 0, kv, H with
  | true, [(.sc (.int .i64 w)), (.sl (.int .i64) cs false), (.sc (.int .i64 n)), (.ps 0 0 0 0), (.sc (.int .i64 n2)), (.sc (.int .i64 0))], [some ⟨[.run (.int .i64) ys], true, 78, false, false, none⟩] => l30_8t cs ys w n n2
  | _, _, _ => .fail
theorem l30_8_ok {T : Tab} (hT : TabOK T) (hlo : loopOf T.fn 30 8 = some (lpc T 30 8)) (h : ∀ (cs ys : List Int) (w n n2 : Int) (r : Out × List AV × Hp), (l30_8t cs ys w n n2).val = some r → ∃ mm, lpRun T 30 8 0 (lpc T 30 8) mm [vi w, lI cs, vi n, ps 0, vi n2, vi 0] [some (rY ys)] = some r) : ∀ base kv H o kv' H', (l30_8 base kv H).val = some (o, kv', H') → LoopOK T 30 8 base kv H o kv' H' := by
  intro base kv H o kv' H' hv
  unfold l30_8 at hv
  split at hv
  · rename_i hb
    obtain rfl := Nat.eq_of_beq_eq_true hb
    exact loop_ok hT hlo (h _ _ _ _ _ _ hv)
  · cases hv
def l30_18t (cs cs2 ys out : List Int) (w n S L m u v q : Int) (k : Nat) : Tree (Out × List AV × Hp) := .br (decide (cs2 = cs) && decide (q = cs.length) && decide (cs.length ≤ 5) && Clm.okC cs && decide (L = w) && decide (m = 0) && decide (0 ≤ S) && decide (S < 32) && decide (0 ≤ w) && decide (w ≤ 5000)) (.leaf (.ext 4, [vi w, lI cs, vi n, ps 0, osT 1 k, vi S, vi (w - Clm.cm cs S.toNat), vi (Clm.pop cs.length S.toNat : Nat), vi u, vi v, lI cs, vi q, vi q], [some (rY ys), some (rowI out 3)])) .fail
def l30_18 (base : Nat) (kv : List AV) (H : Hp) : Tree (Out × List AV × Hp) := match Nat.beq base 0, kv, H with
  | true, [(.sc (.int .i64 w)), (.sl (.int .i64) cs false), (.sc (.int .i64 n)), (.ps 0 0 0 0), (.os 1 0 0 k true true true), (.sc (.int .i64 S)), (.sc (.int .i64 L)), (.sc (.int .i64 m)), (.sc (.int .i64 u)), (.sc (.int .i64 v)), (.sl (.int .i64) cs2 false), (.sc (.int .i64 q)), (.sc (.int .i64 0))], [some ⟨[.run (.int .i64) ys], true, 78, false, false, none⟩, some ⟨[.run (.int .i64) out], false, 3, false, false, none⟩] => l30_18t cs cs2 ys out w n S L m u v q k
  | _, _, _ => .fail
theorem l30_18_ok {T : Tab} (hT : TabOK T) (hlo : loopOf T.fn 30 18 = some (lpc T 30 18)) (h : ∀ (cs cs2 ys out : List Int) (w n S L m u v q : Int) (k : Nat) (r : Out × List AV × Hp), (l30_18t cs cs2 ys out w n S L m u v q k).val = some r → ∃ mm, lpRun T 30 18 0 (lpc T 30 18) mm [vi w, lI cs, vi n, ps 0, osT 1 k, vi S, vi L, vi m, vi u, vi v, lI cs2, vi q, vi 0] [some (rY ys), some (rowI out 3)] = some r) : ∀ base kv H o kv' H', (l30_18 base kv H).val = some (o, kv', H') → LoopOK T 30 18 base kv H o kv' H' := by
  intro base kv H o kv' H' hv
  unfold l30_18 at hv
  split at hv
  · rename_i hb
    obtain rfl := Nat.eq_of_beq_eq_true hb
    exact loop_ok hT hlo (h _ _ _ _ _ _ _ _ _ _ _ _ _ _ hv)
  · cases hv
def l30_25t (cs cs2 ys out : List Int) (w n S L m u v q : Int) (k : Nat) : Tree (Out × List AV × Hp) := .br (decide (cs2 = cs) && decide (q = cs.length) && decide (n = q) && decide (k = cs.length) && (Clm.chk w cs == 0) && decide (L = w - Clm.cm cs S.toNat) && decide (m = (Clm.pop cs.length S.toNat : Nat)) && decide (0 ≤ S) && decide (S < 32) && decide (ys = Clm.facW cs.length) && decide (out = Clm.accL w cs S.toNat)) (.leaf (.ext 6, [vi w, lI cs, vi n, ps 0, osT 1 k, vi S, vi L, vi m, vi u, vi v, lI cs, vi q, vi q], [some (rY ys), some (rowI (Clm.accL w cs (S.toNat + 1)) 3)])) .fail
def l30_25 (base : Nat) (kv : List AV) (H : Hp) : Tree (Out × List AV × Hp) := match Nat.beq base 0, kv, H with
  | true, [(.sc (.int .i64 w)), (.sl (.int .i64) cs false), (.sc (.int .i64 n)), (.ps 0 0 0 0), (.os 1 0 0 k true true true), (.sc (.int .i64 S)), (.sc (.int .i64 L)), (.sc (.int .i64 m)), (.sc (.int .i64 u)), (.sc (.int .i64 v)), (.sl (.int .i64) cs2 false), (.sc (.int .i64 q)), (.sc (.int .i64 0))], [some ⟨[.run (.int .i64) ys], true, 78, false, false, none⟩, some ⟨[.run (.int .i64) out], false, 3, false, false, none⟩] => l30_25t cs cs2 ys out w n S L m u v q k
  | _, _, _ => .fail
theorem l30_25_ok {T : Tab} (hT : TabOK T) (hlo : loopOf T.fn 30 25 = some (lpc T 30 25)) (h : ∀ (cs cs2 ys out : List Int) (w n S L m u v q : Int) (k : Nat) (r : Out × List AV × Hp), (l30_25t cs cs2 ys out w n S L m u v q k).val = some r → ∃ mm, lpRun T 30 25 0 (lpc T 30 25) mm [vi w, lI cs, vi n, ps 0, osT 1 k, vi S, vi L, vi m, vi u, vi v, lI cs2, vi q, vi 0] [some (rY ys), some (rowI out 3)] = some r) : ∀ base kv H o kv' H', (l30_25 base kv H).val = some (o, kv', H') → LoopOK T 30 25 base kv H o kv' H' := by
  intro base kv H o kv' H' hv
  unfold l30_25 at hv
  split at hv
  · rename_i hb
    obtain rfl := Nat.eq_of_beq_eq_true hb
    exact loop_ok hT hlo (h _ _ _ _ _ _ _ _ _ _ _ _ _ _ hv)
  · cases hv
noncomputable def T22 : Tab := (((T21).addLoop 30 8 l30_8).addLoop 30 18 l30_18).addLoop 30 25 l30_25
theorem nl30_14 (again : Ag) (cs ys out : List Int) (w n u S : Int) (k : Nat) : lpStep T22 30 14 0 (lpc T22 30 14) again [vi w, lI cs, vi n, ps 0, osT 1 k, vi u, vi S] [some (rY ys), some (rowI out 3)] = (bif decide (S < u) then bif decide (cs = cs) && decide ((↑cs.length : Int) = (↑cs.length : Int)) && decide (cs.length ≤ 5) && Clm.okC cs && decide (w = w) && decide (0 = 0) && decide (0 ≤ S) && decide (S < 32) && decide (0 ≤ w) && decide (w ≤ 5000) then bif decide (cs = cs) && decide ((↑cs.length : Int) = (↑cs.length : Int)) && decide (n = (↑cs.length : Int)) && decide (k = cs.length) && Clm.chk w cs == 0 && decide (w - Clm.cm cs S.toNat = w - Clm.cm cs S.toNat) && decide ((↑(Clm.pop cs.length S.toNat) : Int) = (↑(Clm.pop cs.length S.toNat) : Int)) && decide (0 ≤ S) && decide (S < 32) && decide (ys = Clm.facW cs.length) && decide (out = Clm.accL w cs S.toNat) then again [vi w, .sl (.int .i64) cs false, vi n, .ps 0 0 0 0, .os 1 0 0 k true true true, vi u, vi (IntKind.i64.wrap (S + 1))] [some ⟨[.run (.int .i64) ys], true, 78, false, false, none⟩, some ⟨[.run (.int .i64) (Clm.accL w cs (S.toNat + 1))], false, 3, false, false, none⟩] else none else none else some (.ext 2, [vi w, .sl (.int .i64) cs false, vi n, .ps 0 0 0 0, .os 1 0 0 k true true true, vi u, vi S], [some ⟨[.run (.int .i64) ys], true, 78, false, false, none⟩, some ⟨[.run (.int .i64) out], false, 3, false, false, none⟩])) := by kernel_rfl
def l30_14t (cs ys out : List Int) (w n u : Int) (k : Nat) : Tree (Out × List AV × Hp) := .br (decide (n = cs.length) && decide (k = cs.length) && (Clm.chk w cs == 0) && decide (u = ((2 ^ cs.length : Nat) : Int)) && decide (ys = Clm.facW cs.length) && Clm.repOK out cs.length 0) (.leaf (.ext 2, [vi w, lI cs, vi n, ps 0, osT 1 k, vi u, vi u], [some (rY ys), some (rowI (Clm.accL w cs (2 ^ cs.length)) 3)])) .fail
def l30_14 (base : Nat) (kv : List AV) (H : Hp) : Tree (Out × List AV × Hp) := match Nat.beq base 0, kv, H with
  | true, [(.sc (.int .i64 w)), (.sl (.int .i64) cs false), (.sc (.int .i64 n)), (.ps 0 0 0 0), (.os 1 0 0 k true true true), (.sc (.int .i64 u)), (.sc (.int .i64 0))], [some ⟨[.run (.int .i64) ys], true, 78, false, false, none⟩, some ⟨[.run (.int .i64) out], false, 3, false, false, none⟩] => l30_14t cs ys out w n u k
  | _, _, _ => .fail
theorem l30_14_ok {T : Tab} (hT : TabOK T) (hlo : loopOf T.fn 30 14 = some (lpc T 30 14)) (h : ∀ (cs ys out : List Int) (w n u : Int) (k : Nat) (r : Out × List AV × Hp), (l30_14t cs ys out w n u k).val = some r → ∃ mm, lpRun T 30 14 0 (lpc T 30 14) mm [vi w, lI cs, vi n, ps 0, osT 1 k, vi u, vi 0] [some (rY ys), some (rowI out 3)] = some r) : ∀ base kv H o kv' H', (l30_14 base kv H).val = some (o, kv', H') → LoopOK T 30 14 base kv H o kv' H' := by
  intro base kv H o kv' H' hv
  unfold l30_14 at hv
  split at hv
  · rename_i hb
    obtain rfl := Nat.eq_of_beq_eq_true hb
    exact loop_ok hT hlo (h _ _ _ _ _ _ _ _ hv)
  · cases hv
def l30_32t (ys out : List Int) (n q : Int) (k : Nat) : Tree (Out × List AV × Hp) := .br (decide (n = k) && decide (q = k) && decide (k ≤ 5) && Clm.lenOK out k && decide (ys = Clm.facW k) && Clm.bigOK out) (.leaf (.ext 8, [vi n, ps 0, osT 1 k, vi q, vi q], [some (rY ys), some (rowI (Clm.quoL k out) 3)])) .fail
def l30_32 (base : Nat) (kv : List AV) (H : Hp) : Tree (Out × List AV × Hp) := match Nat.beq base 0, kv, H with
  | true, [(.sc (.int .i64 n)), (.ps 0 0 0 0), (.os 1 0 0 k true true true), (.sc (.int .i64 q)), (.sc (.int .i64 0))], [some ⟨[.run (.int .i64) ys], true, 78, false, false, none⟩, some ⟨[.run (.int .i64) out], false, 3, false, false, none⟩] => l30_32t ys out n q k
  | _, _, _ => .fail
theorem l30_32_ok {T : Tab} (hT : TabOK T) (hlo : loopOf T.fn 30 32 = some (lpc T 30 32)) (h : ∀ (ys out : List Int) (n q : Int) (k : Nat) (r : Out × List AV × Hp), (l30_32t ys out n q k).val = some r → ∃ mm, lpRun T 30 32 0 (lpc T 30 32) mm [vi n, ps 0, osT 1 k, vi q, vi 0] [some (rY ys), some (rowI out 3)] = some r) : ∀ base kv H o kv' H', (l30_32 base kv H).val = some (o, kv', H') → LoopOK T 30 32 base kv H o kv' H' := by
  intro base kv H o kv' H' hv
  unfold l30_32 at hv
  split at hv
  · rename_i hb
    obtain rfl := Nat.eq_of_beq_eq_true hb
    exact loop_ok hT hlo (h _ _ _ _ _ _ hv)
  · cases hv
noncomputable def T23 : Tab := ((T22).addLoop 30 14 l30_14).addLoop 30 32 l30_32
theorem nf30 (cs : List Int) (w : Int) : evBody T23 30 [vi w, lI cs] [] = (bif Clm.chk w cs != 0 then some (.tuple [osW 0 0, vi (Clm.chk w cs)], [some ⟨[.run (.int .i64) []], false, 0, false, false, none⟩]) else bif decide ((↑cs.length : Int) = (↑cs.length : Int)) && decide ((↑cs.length : Int) = (↑cs.length : Int)) && decide (cs.length ≤ 5) && decide ((List.replicate 6 0).set 0 1 = Clm.facW 0) then bif decide ((↑cs.length : Int) = (↑cs.length : Int)) then bif room (↑cs.length : Int).toNat 8 then bif decide ((↑cs.length : Int) = (↑cs.length : Int)) && decide ((↑cs.length : Int).toNat = cs.length) && Clm.chk w cs == 0 && decide (IntKind.i64.wrap (1 * 2 ^ Min.min (↑cs.length : Int).toNat 64) = (↑(2 ^ cs.length) : Int)) && decide (Clm.facW cs.length = Clm.facW cs.length) && Clm.repOK (List.replicate (↑cs.length : Int).toNat 0) cs.length 0 then bif decide ((↑cs.length : Int) = (↑(↑cs.length : Int).toNat : Int)) && decide ((↑(↑cs.length : Int).toNat : Int) = (↑(↑cs.length : Int).toNat : Int)) && decide ((↑cs.length : Int).toNat ≤ 5) && Clm.lenOK (Clm.accL w cs (2 ^ cs.length)) (↑cs.length : Int).toNat && decide (Clm.facW cs.length = Clm.facW (↑cs.length : Int).toNat) && Clm.bigOK (Clm.accL w cs (2 ^ cs.length)) then some (.tuple [.os 0 0 0 (↑cs.length : Int).toNat true true true, vi 0], [some ⟨[.run (.int .i64) (Clm.quoL (↑cs.length : Int).toNat (Clm.accL w cs (2 ^ cs.length)))], false, 3, false, false, none⟩]) else none else none else none else none else none) := by kernel_rfl
def c30t (cs : List Int) (w : Int) : Tree (AV × Hp) := .br (Clm.chk w cs == 0) (.leaf (.tuple [osT 0 cs.length, vi 0], [some (rowI (Clm.avgV w cs) 3)])) (.leaf (.tuple [osW 0 0, vi (Clm.chk w cs)], [some (rowI [] 0)]))
def c30 (args : List AV) (H : Hp) : Tree (AV × Hp) := match args, H with
  | [(.sc (.int .i64 w)), (.sl (.int .i64) cs false)], [] => c30t cs w
  | _, _ => .fail
theorem c30_ok {T : Tab} (hT : TabOK T) (h : ∀ (cs : List Int) (w : Int) (r : AV × Hp), (c30t cs w).val = some r → evBody T 30 [vi w, lI cs] [] = some r) : ∀ args H v H', (c30 args H).val = some (v, H') → CallOK T 30 args H v H' := by
  intro args H v H' hv
  unfold c30 at hv
  split at hv
  · exact evBody_sound hT (h _ _ _ hv)
  · cases hv
noncomputable def T24 : Tab := (T23).addCall 30 c30
end Go.Ev.Clm
namespace Go.Ev.Clm
open Go Go.Ev
set_option maxRecDepth 1000000
set_option linter.unusedVariables false
set_option linter.unusedSimpArgs false
theorem l30_8_run : ∀ base kv H o kv' H', (l30_8 base kv H).val = some (o, kv', H') → LoopOK T21 30 8 base kv H o kv' H' := l30_8_ok T21_ok (by kernel_rfl) (by
  intro cs ys w n n2 r hv
  obtain ⟨hl, hv2⟩ := guard_val hv
  simp only [Bool.and_eq_true, decide_eq_true_eq] at hl
  obtain ⟨⟨⟨rfl, rfl⟩, h3⟩, rfl⟩ := hl
  obtain ⟨mm, hm⟩ := steps_of (T := T21) (fid := 30) (lid := 8) (base := 0) (c := lpc T21 30 8) cs.length (fun i => [vi w, lI cs, vi cs.length, ps 0, vi cs.length, vi (i : Nat)]) (fun i => [some (rY (Clm.facW i))]) (.ext 0, [vi w, lI cs, vi cs.length, ps 0, vi cs.length, vi cs.length], [some (rY (Clm.facW cs.length))])
    (fun i hi again => by
      have g1 := Clm.facW_get (n := i) (i := i) (by omega) (Nat.le_refl _)
      obtain ⟨y, g2⟩ := Clm.facW_full (n := i) (i := i + 1) (by omega) (by omega)
      have f := Clm.fac_le (n := i) (by omega)
      have e : IntKind.i64.wrap ((i : Int) + 1) = ((i + 1 : Nat) : Int) := wrap_succ (by omega)
      have hb := Int.mul_le_mul f.1 (show (i : Int) + 1 ≤ 5 by omega) (by omega) (by omega)
      have hp := Int.mul_nonneg (show 0 ≤ (Clm.fac i : Int) by omega) (show (0 : Int) ≤ (i : Int) + 1 by omega)
      rw [nl30_8, e]
      simp only [dec_lt hi, dec_ge, cond_true, decide_eq_true (show (i : Int) < 6 by omega), decide_eq_true (show ((i + 1 : Nat) : Int) < 6 by omega), toNat_cast, g1, g2, oM]
      rw [show ((i + 1 : Nat) : Int) = (i : Int) + 1 by omega, wrapi (by omega) (by omega), Clm.facW_step (by omega)])
    (fun again => by
      rw [nl30_8]
      simp only [dec_ll, cond_false])
  exact ⟨mm, hm.trans (by rw [leaf_val hv2])⟩)
theorem cm_step (cs : List Int) (S i : Nat) : Clm.sumAt cs (Clm.bitsN (i + 1) S) = Clm.sumAt cs (Clm.bitsN i S) + bif S.testBit i then Clm.at0 cs i else 0 := by
  rw [Clm.bits_succ, Clm.sumAt_app]
  cases S.testBit i <;> simp [Clm.sumAt, Clm.sumI_cons, Clm.sumI_nil]
theorem at_in {cs : List Int} {i : Nat} (hi : i < cs.length) : cs[i]? = some (Clm.at0 cs i) := by
  rw [Clm.at0_lt hi]; exact List.getElem?_eq_getElem hi
theorem sumAt_in {cs : List Int} (h : Clm.okC cs = true) (S : Nat) : ∀ i : Nat, 0 ≤ Clm.sumAt cs (Clm.bitsN i S) ∧ (i ≤ cs.length → Clm.sumAt cs (Clm.bitsN i S) ≤ (i : Int) * 1000)
  | 0 => by simp [Clm.bitsN, Clm.sumAt, Clm.sumI_nil]
  | i + 1 => by
    have ih := sumAt_in h S i
    have c := okC_nn h i
    rw [cm_step]
    refine ⟨by cases S.testBit i <;> simp <;> omega, fun hl => ?_⟩
    have a := okC_at h (i := (i : Int)) (by omega) (by omega)
    have := ih.2 (by omega)
    cases S.testBit i <;> simp <;> omega
theorem l30_18_run : ∀ base kv H o kv' H', (l30_18 base kv H).val = some (o, kv', H') → LoopOK T21 30 18 base kv H o kv' H' := l30_18_ok T21_ok (by kernel_rfl) (by
  intro cs cs2 ys out w n S L m u v q k r hv
  obtain ⟨hl, hv2⟩ := guard_val hv
  simp only [Bool.and_eq_true, decide_eq_true_eq] at hl
  obtain ⟨⟨⟨⟨⟨⟨⟨⟨⟨rfl, rfl⟩, h3⟩, h4⟩, rfl⟩, rfl⟩, h7⟩, h8⟩, h9⟩, h10⟩ := hl
  obtain ⟨S, rfl⟩ := Int.eq_ofNat_of_zero_le h7
  have hS : S < 32 := by omega
  rw [toNat_cast] at hv2
  obtain ⟨mm, hm⟩ := steps_of (T := T21) (fid := 30) (lid := 18) (base := 0) (c := lpc T21 30 18) cs2.length (fun i => [vi L, lI cs2, vi n, ps 0, osT 1 k, vi S, vi (L - Clm.sumAt cs2 (Clm.bitsN i S)), vi (Clm.pop i S : Nat), vi u, vi v, lI cs2, vi cs2.length, vi (i : Nat)]) (fun _ => [some (rY ys), some (rowI out 3)]) (.ext 4, [vi L, lI cs2, vi n, ps 0, osT 1 k, vi S, vi (L - Clm.cm cs2 S), vi (Clm.pop cs2.length S : Nat), vi u, vi v, lI cs2, vi cs2.length, vi cs2.length], [some (rY ys), some (rowI out 3)])
    (fun i hi again => by
      have g1 := at_in hi
      have a := okC_at h4 (i := (i : Int)) (by omega) (by omega)
      have b := sumAt_in h4 S i
      have b2 := b.2 (by omega)
      have p := Clm.pop_le i S
      have hb := Clm.bitI_nat hS (show i < 5 by omega)
      unfold Clm.bitI at hb
      rw [toNat_cast] at hb
      rw [nl30_18]
      simp only [dec_lt hi, dec_ge, cond_true, toNat_cast, g1, oM, hb]
      rw [cm_step, Clm.pop_succ]
      cases S.testBit i with
      | true =>
        simp only [cond_true, beq_self_eq_true]
        rw [wrap_succ (by omega), wrap_succ (by omega), wrapi (by omega) (by omega), show L - Clm.sumAt cs2 (Clm.bitsN i S) - Clm.at0 cs2 i = L - (Clm.sumAt cs2 (Clm.bitsN i S) + Clm.at0 cs2 i) by omega]
      | false =>
        simp only [cond_false, show ((0 : Int) == 1) = false from rfl, Int.add_zero, Nat.add_zero]
        rw [wrap_succ (by omega)])
    (fun again => by
      rw [nl30_18]
      simp only [dec_ll, cond_false]
      rfl)
  have e0 : Clm.sumAt cs2 (Clm.bitsN 0 S) = 0 := rfl
  have e1 : Clm.pop 0 S = 0 := rfl
  rw [e0, e1, Int.sub_zero] at hm
  exact ⟨mm, hm.trans (by rw [leaf_val hv2])⟩)
theorem blt_self (i : Nat) : Nat.blt i i = false := by
  rw [Bool.eq_false_iff]
  simp only [Nat.blt, ne_eq, Nat.ble_eq]
  omega
theorem l30_25_run : ∀ base kv H o kv' H', (l30_25 base kv H).val = some (o, kv', H') → LoopOK T21 30 25 base kv H o kv' H' := l30_25_ok T21_ok (by kernel_rfl) (by
  intro cs cs2 ys out w n S L m u v q k r hv
  obtain ⟨hl, hv2⟩ := guard_val hv
  simp only [Bool.and_eq_true, decide_eq_true_eq] at hl
  obtain ⟨⟨⟨⟨⟨⟨⟨⟨⟨⟨rfl, rfl⟩, rfl⟩, rfl⟩, h5⟩, rfl⟩, rfl⟩, h8⟩, h9⟩, rfl⟩, rfl⟩ := hl
  obtain ⟨S, rfl⟩ := Int.eq_ofNat_of_zero_le h8
  have hS : S < 32 := by omega
  have ok := Clm.ok_of (beq_iff_eq.1 h5)
  have hn := ok.len
  have hsum := ok.sum
  have hlo := ok.lo
  have hhi := ok.hi
  have hcc := okC_ok ok
  rw [toNat_cast] at hv2 ⊢
  obtain ⟨mm, hm⟩ := steps_of (T := T21) (fid := 30) (lid := 25) (base := 0) (c := lpc T21 30 25) cs2.length (fun i => [vi w, lI cs2, vi cs2.length, ps 0, osT 1 cs2.length, vi S, vi (w - Clm.cm cs2 S), vi (Clm.pop cs2.length S : Nat), vi u, vi v, lI cs2, vi cs2.length, vi (i : Nat)]) (fun i => [some (rY (Clm.facW cs2.length)), some (rowI (Clm.midL w cs2 S i) 3)]) (.ext 6, [vi w, lI cs2, vi cs2.length, ps 0, osT 1 cs2.length, vi S, vi (w - Clm.cm cs2 S), vi (Clm.pop cs2.length S : Nat), vi u, vi v, lI cs2, vi cs2.length, vi cs2.length], [some (rY (Clm.facW cs2.length)), some (rowI (Clm.accL w cs2 (S + 1)) 3)])
    (fun i hi again => by
      have g1 := at_in hi
      have a := ok.rg hi
      have hb := Clm.bitI_nat hS (show i < 5 by omega)
      unfold Clm.bitI at hb
      rw [toNat_cast] at hb
      have hmid : (Clm.midL w cs2 S i)[i]? = some (Clm.accK w cs2 S i) := by
        unfold Clm.midL
        rw [Clm.map_get hi, blt_self]; rfl
      have hacc := Clm.acc_in ok hi S
      rw [nl30_25]
      simp only [dec_lt hi, dec_ge, cond_true, toNat_cast, g1, oM, hb]
      cases hbit : S.testBit i with
      | true =>
        simp only [cond_true, show ((1 : Int) == 0) = false from rfl, cond_false]
        rw [wrap_succ (by omega), ← Clm.mid_next, Clm.accK_succ, hbit]
        simp only [cond_true, Int.add_zero]
        have : (Clm.midL w cs2 S i).set i (Clm.accK w cs2 S i) = Clm.midL w cs2 S i := by
          refine List.ext_getElem? fun j => ?_
          rw [List.getElem?_set]
          split
          · rename_i e
            subst e
            split
            · exact hmid.symm
            · rename_i e; rw [List.getElem?_eq_none (by omega)]
          · rfl
        rw [this]
      | false =>
        have hpl := Clm.pop_lt hi hbit
        have p1 := Clm.facW_get (n := cs2.length) (i := Clm.pop cs2.length S) hn (by omega)
        have p2 := Clm.facW_get (n := cs2.length) (i := cs2.length - 1 - Clm.pop cs2.length S) hn (by omega)
        have e1 : IntKind.i64.wrap ((cs2.length : Int) - 1) = (cs2.length : Int) - 1 := wrapi (by omega) (by omega)
        have e2 : IntKind.i64.wrap ((cs2.length : Int) - 1 - (Clm.pop cs2.length S : Nat)) = ((cs2.length - 1 - Clm.pop cs2.length S : Nat) : Int) := by rw [wrapi (by omega) (by omega)]; omega
        have hset : ((Clm.midL w cs2 S i).set i 0)[i]? = some 0 := by rw [List.getElem?_set_self (by unfold Clm.midL; simpa using hi)]
        have hv := Clm.val_in (w := w) ok.nn (Clm.cm cs2 S) i
        obtain ⟨w1, w2, w3⟩ := Clm.wt_in hn hi hbit
        have hval : max 0 (min (w - Clm.cm cs2 S) (Clm.at0 cs2 i)) = Clm.val w cs2 (Clm.cm cs2 S) i := by unfold Clm.val; omega
        have f1 := Clm.fac_le (n := Clm.pop cs2.length S) (by omega)
        have f2 := Clm.fac_le (n := cs2.length - 1 - Clm.pop cs2.length S) (by omega)
        have b1 := Int.mul_le_mul (show Clm.val w cs2 (Clm.cm cs2 S) i ≤ 1000 by omega) f1.1 (by omega) (by omega)
        have b1' := Int.mul_nonneg hv.1 (show 0 ≤ (Clm.fac (Clm.pop cs2.length S) : Int) by omega)
        have b2 := Int.mul_le_mul b1 f2.1 (by omega) (by omega)
        have b2' := Int.mul_nonneg b1' (show 0 ≤ (Clm.fac (cs2.length - 1 - Clm.pop cs2.length S) : Int) by omega)
        simp only [cond_false, show ((0 : Int) == 0) = true from rfl, cond_true, hmid, decide_eq_true (show ((Clm.pop cs2.length S : Nat) : Int) < 6 by omega), p1, e1, e2, decide_eq_true (show ((cs2.length - 1 - Clm.pop cs2.length S : Nat) : Int) < 6 by omega), p2]
        simp only [dec_ge, cond_true, toNat_cast, p2]
        rw [Clm.mn', Clm.mx', hval, wrap_succ (by omega), wrapi (x := Clm.val w cs2 (Clm.cm cs2 S) i * (Clm.fac (Clm.pop cs2.length S) : Int)) (by omega) (by omega), wrapi (x := Clm.val w cs2 (Clm.cm cs2 S) i * (Clm.fac (Clm.pop cs2.length S) : Int) * (Clm.fac (cs2.length - 1 - Clm.pop cs2.length S) : Int)) (by omega) (by omega), wrapi (by omega) (by omega)]
        rw [← Clm.mid_next, Clm.accK_succ, hbit, w3]
        simp only [cond_false]
        rw [show Clm.val w cs2 (Clm.cm cs2 S) i * (Clm.fac (Clm.pop cs2.length S) : Int) * (Clm.fac (cs2.length - 1 - Clm.pop cs2.length S) : Int) = (Clm.fac (Clm.pop cs2.length S) : Int) * (Clm.fac (cs2.length - 1 - Clm.pop cs2.length S) : Int) * Clm.val w cs2 (Clm.cm cs2 S) i by rw [Int.mul_comm (Clm.val w cs2 (Clm.cm cs2 S) i), Int.mul_assoc, Int.mul_assoc, Int.mul_comm (Clm.val w cs2 (Clm.cm cs2 S) i)]])
    (fun again => by
      rw [nl30_25]
      simp only [dec_ll, cond_false]
      rw [Clm.mid_end])
  rw [Clm.mid_zero] at hm
  exact ⟨mm, hm.trans (by rw [leaf_val hv2])⟩)
theorem T22_ok : TabOK T22 := by
  have h := T21_ok
  have h := h.addLoop (g := 30) (lid := 8) (r := l30_8) fun b k H o k' H' hv => by refine LoopOK.tab ?_ ?_ ?_ ?_ (l30_8_run b k H o k' H' hv) <;> rfl
  have h := h.addLoop (g := 30) (lid := 18) (r := l30_18) fun b k H o k' H' hv => by refine LoopOK.tab ?_ ?_ ?_ ?_ (l30_18_run b k H o k' H' hv) <;> rfl
  have h := h.addLoop (g := 30) (lid := 25) (r := l30_25) fun b k H o k' H' hv => by refine LoopOK.tab ?_ ?_ ?_ ?_ (l30_25_run b k H o k' H' hv) <;> rfl
  exact h
theorem l30_14_run : ∀ base kv H o kv' H', (l30_14 base kv H).val = some (o, kv', H') → LoopOK T22 30 14 base kv H o kv' H' := l30_14_ok T22_ok (by kernel_rfl) (by
  intro cs ys out w n u k r hv
  obtain ⟨hl, hv2⟩ := guard_val hv
  simp only [Bool.and_eq_true, decide_eq_true_eq] at hl
  obtain ⟨⟨⟨⟨⟨rfl, rfl⟩, h5⟩, rfl⟩, rfl⟩, h6⟩ := hl
  have h6 := of_decide_eq_true h6
  have ok := Clm.ok_of (beq_iff_eq.1 h5)
  have hn := ok.len
  have hsum := ok.sum
  have hlo := ok.lo
  have hhi := ok.hi
  have hp : 2 ^ cs.length ≤ 2 ^ 5 := Nat.pow_le_pow_right (by decide) hn
  have h0 : out = Clm.accL w cs 0 := by
    rw [h6]
    unfold Clm.accL
    refine List.ext_getElem (by simp) fun i h1 h2 => ?_
    simp [Clm.accK, Clm.sumI_nil]
  obtain ⟨mm, hm⟩ := steps_of (T := T22) (fid := 30) (lid := 14) (base := 0) (c := lpc T22 30 14) (2 ^ cs.length) (fun S => [vi w, lI cs, vi cs.length, ps 0, osT 1 cs.length, vi ((2 ^ cs.length : Nat) : Int), vi (S : Nat)]) (fun S => [some (rY (Clm.facW cs.length)), some (rowI (Clm.accL w cs S) 3)]) (.ext 2, [vi w, lI cs, vi cs.length, ps 0, osT 1 cs.length, vi ((2 ^ cs.length : Nat) : Int), vi ((2 ^ cs.length : Nat) : Int)], [some (rY (Clm.facW cs.length)), some (rowI (Clm.accL w cs (2 ^ cs.length)) 3)])
    (fun S hS again => by
      rw [nl30_14]
      simp only [dec_lt hS, cond_true, decide_true, decide_eq_true hn, okC_ok ok, dec_ge, decide_eq_true (show (S : Int) < 32 by omega), decide_eq_true hlo, decide_eq_true (show w ≤ 5000 by omega), Bool.and_self, toNat_cast, h5]
      rw [wrap_succ (by omega)])
    (fun again => by
      rw [nl30_14]
      simp only [dec_ll, cond_false])
  rw [h0]
  exact ⟨mm, hm.trans (by rw [leaf_val hv2])⟩)
theorem l30_32_run : ∀ base kv H o kv' H', (l30_32 base kv H).val = some (o, kv', H') → LoopOK T22 30 32 base kv H o kv' H' := l30_32_ok T22_ok (by kernel_rfl) (by
  intro ys out n q k r hv
  obtain ⟨hl, hv2⟩ := guard_val hv
  simp only [Bool.and_eq_true, decide_eq_true_eq] at hl
  obtain ⟨⟨⟨⟨⟨rfl, rfl⟩, h3⟩, h4⟩, rfl⟩, h6⟩ := hl
  have h4 := of_decide_eq_true h4
  have hfac := Clm.fac_le h3
  have hd : 0 ≤ Int.tdiv 120 (Clm.fac k : Int) ∧ Int.tdiv 120 (Clm.fac k : Int) ≤ 120 := by
    match k, h3 with
    | 0, _ => decide
    | 1, _ => decide
    | 2, _ => decide
    | 3, _ => decide
    | 4, _ => decide
    | 5, _ => decide
  have hx : ∀ x ∈ out, -1000000000000 ≤ x ∧ x ≤ 1000000000000 := fun x hx => by
    unfold Clm.bigOK at h6
    rw [List.all_eq_true] at h6
    simpa using h6 x hx
  have hnl : ∀ (again : Ag) (ys out : List Int) (n i : Int) (k : Nat), lpStep T22 30 32 0 (lpc T22 30 32) again [vi n, ps 0, osT 1 k, vi k, vi i] [some (rY ys), some (rowI out 3)] = lpStep T21 30 32 0 (lpc T21 30 32) again [vi n, ps 0, osT 1 k, vi k, vi i] [some (rY ys), some (rowI out 3)] := by
    intro again ys out n i k
    rw [nl30_32]
    kernel_rfl
  obtain ⟨mm, hm⟩ := steps_of (T := T22) (fid := 30) (lid := 32) (base := 0) (c := lpc T22 30 32) k (fun i => [vi k, ps 0, osT 1 k, vi k, vi (i : Nat)]) (fun i => [some (rY (Clm.facW k)), some (rowI (Clm.quoL k (out.take i) ++ out.drop i) 3)]) (.ext 8, [vi k, ps 0, osT 1 k, vi k, vi k], [some (rY (Clm.facW k)), some (rowI (Clm.quoL k out) 3)])
    (fun i hi again => by
      have g0 := getD_of (l := out) (i := i) (by omega)
      have b := hx _ (List.mem_of_getElem? g0)
      have hq : (Clm.quoL k (out.take i)).length = i := by simp [Clm.quoL]; omega
      have g1 : (Clm.quoL k (out.take i) ++ out.drop i)[i]? = some (out.getD i 0) := by
        rw [List.getElem?_append_right (by omega), hq, Nat.sub_self, List.getElem?_drop, Nat.add_zero]; exact g0
      have p1 := Clm.facW_get (n := k) (i := k) h3 (Nat.le_refl _)
      have e1 : IntKind.i64.wrap (Int.tdiv 120 (Clm.fac k : Int)) = Int.tdiv 120 (Clm.fac k : Int) := wrapi (by omega) (by omega)
      have m1 : -120000000000000 ≤ out.getD i 0 * Int.tdiv 120 (Clm.fac k : Int) ∧ out.getD i 0 * Int.tdiv 120 (Clm.fac k : Int) ≤ 120000000000000 := by
        generalize Int.tdiv 120 (Clm.fac k : Int) = d at hd
        generalize out.getD i 0 = y at b
        have a1 := Int.mul_le_mul_of_nonneg_right b.2 hd.1
        have a2 := Int.mul_le_mul_of_nonneg_right b.1 hd.1
        omega
      rw [hnl, nl30_32]
      simp only [dec_lt hi, dec_ge, cond_true, toNat_cast, g1, oM, decide_eq_true (show (k : Int) < 6 by omega), p1, decide_eq_false (show ¬ (Clm.fac k : Int) = 0 by omega), Bool.not_false, e1]
      rw [wrap_succ (by omega), wrapi (by omega) (by omega)]
      have e2 : (Clm.quoL k (out.take i) ++ out.drop i).set i (out.getD i 0 * Int.tdiv 120 (Clm.fac k : Int)) = Clm.quoL k (out.take (i + 1)) ++ out.drop (i + 1) := by
        rw [List.set_append_right _ _ (by omega), hq, Nat.sub_self]
        unfold Clm.quoL
        rw [Clm.map_take _ g0, List.drop_eq_getElem_cons (by omega), List.append_assoc]
        rfl
      rw [e2])
    (fun again => by
      rw [hnl, nl30_32]
      simp only [dec_ll, cond_false]
      rw [List.take_of_length_le (by omega), List.drop_of_length_le (by omega), List.append_nil])
  rw [show Clm.quoL k (out.take 0) ++ out.drop 0 = out from rfl] at hm
  exact ⟨mm, hm.trans (by rw [leaf_val hv2])⟩)
theorem T23_ok : TabOK T23 := by
  have h := T22_ok
  have h := h.addLoop (g := 30) (lid := 14) (r := l30_14) fun b k H o k' H' hv => by refine LoopOK.tab ?_ ?_ ?_ ?_ (l30_14_run b k H o k' H' hv) <;> rfl
  have h := h.addLoop (g := 30) (lid := 32) (r := l30_32) fun b k H o k' H' hv => by refine LoopOK.tab ?_ ?_ ?_ ?_ (l30_32_run b k H o k' H' hv) <;> rfl
  exact h
theorem c30_run : ∀ args H v H', (c30 args H).val = some (v, H') → CallOK T23 30 args H v H' := c30_ok T23_ok (by
  intro cs w r hv
  rcases br_val hv with ⟨hc, hv2⟩ | ⟨hc, hv2⟩
  · have ok := Clm.ok_of (beq_iff_eq.1 hc)
    have hn := ok.len
    have hp : 2 ^ cs.length ≤ 2 ^ 5 := Nat.pow_le_pow_right (by decide) hn
    have hpow : IntKind.i64.wrap (1 * 2 ^ min cs.length 64) = ((2 ^ cs.length : Nat) : Int) := by
      rw [Nat.min_eq_left (by omega), Int.one_mul, show ((2 : Int) ^ cs.length) = ((2 ^ cs.length : Nat) : Int) by simp]
      generalize (2 ^ cs.length : Nat) = q at hp
      exact wrapi (by omega) (by omega)
    have hbig : Clm.bigOK (Clm.accL w cs (2 ^ cs.length)) = true := by
      unfold Clm.bigOK Clm.accL
      rw [List.all_eq_true]
      intro x hx
      obtain ⟨k, hk, rfl⟩ := List.mem_map.1 hx
      have := Clm.acc_in ok (List.mem_range.1 hk) (2 ^ cs.length)
      generalize (2 ^ cs.length : Nat) = q at hp this
      simp only [Bool.and_eq_true, decide_eq_true_eq]
      omega
    have hlen : Clm.lenOK (Clm.accL w cs (2 ^ cs.length)) cs.length = true := decide_eq_true (by simp [Clm.accL])
    have hV : Clm.avgV w cs = Clm.avgL w cs := (Clm.avg_div ok).2
    rw [leaf_val hv2, nf30, cond_f (chk_n hc), Int.toNat_natCast, hpow, Clm.quo_eq hn, hV]
    refine (cond_t ?_).trans ?_
    · rw [decide_eq_true hn]
      simp only [decide_true, Bool.true_and]
      rfl
    rw [cond_t (by simp), cond_t (room_ok (by omega) (by omega)), cond_t (by
      rw [hc, show Clm.repOK (List.replicate cs.length 0) cs.length 0 = true from decide_eq_true rfl]
      simp), cond_t (by
      rw [hlen, hbig, decide_eq_true hn]
      simp)]
  · rw [leaf_val hv2, nf30, cond_t (chk_t hc)])
theorem T24_ok : TabOK T24 := by
  have h := T23_ok
  have h := h.addCall (g := 30) (r := c30) fun a H v H' hv => by refine CallOK.tab ?_ ?_ (c30_run a H v H' hv) <;> rfl
  exact h
end Go.Ev.Clm
