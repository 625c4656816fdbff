/- The burn chapter's bars: tables and normal forms. -/
import Derived.Test.YtpieoljeikpemaaDoorSg
import Derived.Test.YtpieoljeikpemaaDoorSh
set_option linter.unusedVariables false
set_option linter.unusedSimpArgs false
namespace Go.Ev.Burn
open Go Go.Ev
set_option maxRecDepth 1000000
set_option linter.unusedVariables false
theorem nl85 (again : Ag) (m k : Int) : lpStep S22 85 2 0 (lpc S22 85 2) again [vi m, vi k] [] = (bif decide (IntKind.i64.wrap (k * k) < m) then again [vi m, vi (IntKind.i64.wrap (k + 1))] [] else some (.ext 0, [vi m, vi k], [])) := by kernel_rfl
theorem nl37 (again : Ag) (m k s : Int) : lpStep S22 37 4 0 (lpc S22 37 4) again [vi m, vi k, vi s] [] = (bif decide (s < m) then again [vi m, vi (IntKind.i64.wrap (k + 1)), vi (IntKind.i64.wrap (s + IntKind.i64.wrap (IntKind.i64.wrap (2 * k) + 1)))] [] else some (.ext 0, [vi m, vi k, vi s], [])) := by kernel_rfl
theorem nl86_5 (again : Ag) (n : Int) (ws : Ws) (l : List Int) (least i k : Int) : lpStep S22 86 5 0 (lpc S22 86 5) again [lI l, vi least, ps 0, vb false, vi i, vi k] [some (rH n ws 28)] = (bif decide (k < i) then bif decide (0 ≤ i) then bif decide (i < (↑l.length : Int)) then oM l[i.toNat]? fun x => bif decide (0 ≤ k) then bif decide (k < (↑l.length : Int)) then oM l[k.toNat]? fun x_1 => bif sm ws && decide (n ≤ 100) && decide (Brn.farN n ws x x_1 < 10) then bif decide ((↑(Brn.farN n ws x x_1) : Int) < least) then some (.ret, [.sl (.int .i64) l false, vi least, .ps 0 0 0 0, vb false, vi i, vi k], [some ⟨[vi n, .sl (.pair .i64) ws false], true, 28, false, false, none⟩]) else again [.sl (.int .i64) l false, vi least, .ps 0 0 0 0, vb false, vi i, vi (IntKind.i64.wrap (k + 1))] [some ⟨[vi n, .sl (.pair .i64) ws false], true, 28, false, false, none⟩] else none else none else none else none else none else some (.ext 2, [.sl (.int .i64) l false, vi least, .ps 0 0 0 0, vb false, vi i, vi k], [some ⟨[vi n, .sl (.pair .i64) ws false], true, 28, false, false, none⟩])) := by kernel_rfl
theorem nl39 (again : Ag) (m k p : Int) (out : List Int) (q : Nat) (ty : TypeId) : lpStep S22 39 6 0 (lpc S22 39 6) again [vi m, vi k, osW 0 q, vi k, vi p] [some (rowI out ty)] = (bif decide (p < k) then bif room (q + 1) 8 then again [vi m, vi k, osW 0 (q + 1), vi k, vi (IntKind.i64.wrap (p + 1))] [some ⟨[.run (.int .i64) (out ++ [if IntKind.i64.wrap (m - 1) < IntKind.i64.wrap (IntKind.i64.wrap (IntKind.i64.wrap (IntKind.i64.wrap (IntKind.i64.wrap (k * k) - IntKind.i64.wrap (IntKind.i64.wrap (k - p) * IntKind.i64.wrap (k - p))) + k) - 1) - p) then IntKind.i64.wrap (m - 1) else IntKind.i64.wrap (IntKind.i64.wrap (IntKind.i64.wrap (IntKind.i64.wrap (IntKind.i64.wrap (k * k) - IntKind.i64.wrap (IntKind.i64.wrap (k - p) * IntKind.i64.wrap (k - p))) + k) - 1) - p)])], false, 3, false, false, none⟩] else none else some (.ext 0, [vi m, vi k, osW 0 q, vi k, vi p], [some ⟨[.run (.int .i64) out], false, ty, false, false, none⟩])) := by kernel_rfl
theorem nl40 (again : Ag) (m b p : Int) (out : List Int) (q : Nat) (ty : TypeId) : lpStep S22 40 6 0 (lpc S22 40 6) again [vi m, osW 0 q, vi b, vi p] [some (rowI out ty)] = (bif decide (p > 0) then bif room (q + 1) 8 then again [vi m, osW 0 (q + 1), vi (IntKind.i64.wrap (b + p)), vi (IntKind.i64.wrap (p - 2))] [some ⟨[.run (.int .i64) (out ++ [if IntKind.i64.wrap (m - 1) < IntKind.i64.wrap (b + IntKind.i64.wrap (p.tdiv 2)) then IntKind.i64.wrap (m - 1) else IntKind.i64.wrap (b + IntKind.i64.wrap (p.tdiv 2))])], false, 3, false, false, none⟩] else none else some (.ext 0, [vi m, osW 0 q, vi b, vi p], [some ⟨[.run (.int .i64) out], false, ty, false, false, none⟩])) := by kernel_rfl
theorem nf83n (d : Nat) : evBody S22 83 [lI []] [] = (some (osW 0 0, [some ⟨[.run (.int .i64) []], false, 0, false, false, none⟩])) := by kernel_rfl
theorem nf83c (x : Int) (l : List Int) : evBody S22 83 [lI (x :: l)] [] = (bif decide (((x :: l).length : Int) ≤ ((x :: l).length : Int)) then bif decide (((x :: l).length : Int) = ((x :: l).length : Int)) then some (.sl (.int .i64) (x :: l.take l.length) true, []) else none else none) := by kernel_rfl
theorem nl41 (again : Ag) (n d : Int) (ws : Ws) (pl : List Int) (g : List Int) (near : Bool) (j : Nat) (p q : Int) (i k m : Int) (pr : List Int) : lpStep S22 41 15 0 (lpc S22 41 15) again [vi d, lI pl, ps 0, ps 1, vb near, vi p, lI pl, vi m, vi i, lI pr, vi k, vi q] [some (rH n ws 24), some (rG n g)] = (bif decide (q < k) then bif decide (0 ≤ q) then bif decide (q < (↑pr.length : Int)) then oM pr[q.toNat]? fun x => bif near then again [vi d, .sl (.int .i64) pl false, .ps 0 0 0 0, .ps 1 0 0 0, vb true, vi p, .sl (.int .i64) pl false, vi m, vi i, .sl (.int .i64) pr false, vi k, vi (IntKind.i64.wrap (q + 1))] [some ⟨[vi n, .sl (.pair .i64) ws false], true, 24, false, false, none⟩, some ⟨[vi n, .run (.int .u64) g], true, 111, false, false, none⟩] else bif decide (0 ≤ p) && decide (p < 9) && decide (0 ≤ x) && decide (g.length = 81) then again [vi d, .sl (.int .i64) pl false, .ps 0 0 0 0, .ps 1 0 0 0, vb (decide (Brn.idx9 (Brn.farI g p x) < IntKind.i64.wrap (IntKind.i64.wrap (2 * d) - 1))), vi p, .sl (.int .i64) pl false, vi m, vi i, .sl (.int .i64) pr false, vi k, vi (IntKind.i64.wrap (q + 1))] [some ⟨[vi n, .sl (.pair .i64) ws false], true, 24, false, false, none⟩, some ⟨[vi n, .run (.int .u64) g], true, 111, false, false, none⟩] else none else none else none else some (.ext 4, [vi d, .sl (.int .i64) pl false, .ps 0 0 0 0, .ps 1 0 0 0, vb near, vi p, .sl (.int .i64) pl false, vi m, vi i, .sl (.int .i64) pr false, vi k, vi q], [some ⟨[vi n, .sl (.pair .i64) ws false], true, 24, false, false, none⟩, some ⟨[vi n, .run (.int .u64) g], true, 111, false, false, none⟩])) := by kernel_rfl
theorem nl42 (again : Ag) (n d : Int) (ws : Ws) (pl : List Int) (e i : Int) : lpStep S22 42 5 0 (lpc S22 42 5) again [vi d, lI pl, ps 0, vi e, vi i] [some (rH n ws 28)] = (bif decide (i < (↑pl.length : Int)) then bif e == 0 then bif decide (0 ≤ i) then bif decide (i < (↑pl.length : Int)) then oM pl[i.toNat]? fun x => bif !Brn.inR x 0 (IntKind.i64.wrap (n - 1)) then again [vi d, .sl (.int .i64) pl false, .ps 0 0 0 0, vi 2, vi (IntKind.i64.wrap (i + 1))] [some ⟨[vi n, .sl (.pair .i64) ws false], true, 28, false, false, none⟩] else bif decide (i > 0) then bif decide (0 ≤ i) then bif decide (i < (↑pl.length : Int)) then oM pl[i.toNat]? fun x => bif decide (0 ≤ IntKind.i64.wrap (i - 1)) then bif decide (IntKind.i64.wrap (i - 1) < (↑pl.length : Int)) then oM pl[(IntKind.i64.wrap (i - 1)).toNat]? fun x_1 => bif decide (x ≤ x_1) then again [vi d, .sl (.int .i64) pl false, .ps 0 0 0 0, vi 7, vi (IntKind.i64.wrap (i + 1))] [some ⟨[vi n, .sl (.pair .i64) ws false], true, 28, false, false, none⟩] else again [vi d, .sl (.int .i64) pl false, .ps 0 0 0 0, vi e, vi (IntKind.i64.wrap (i + 1))] [some ⟨[vi n, .sl (.pair .i64) ws false], true, 28, false, false, none⟩] else none else none else none else none else again [vi d, .sl (.int .i64) pl false, .ps 0 0 0 0, vi e, vi (IntKind.i64.wrap (i + 1))] [some ⟨[vi n, .sl (.pair .i64) ws false], true, 28, false, false, none⟩] else none else none else some (.ext 0, [vi d, .sl (.int .i64) pl false, .ps 0 0 0 0, vi e, vi i], [some ⟨[vi n, .sl (.pair .i64) ws false], true, 28, false, false, none⟩]) else some (.ext 0, [vi d, .sl (.int .i64) pl false, .ps 0 0 0 0, vi e, vi i], [some ⟨[vi n, .sl (.pair .i64) ws false], true, 28, false, false, none⟩])) := by kernel_rfl
def c83t (l : List Int) : Tree (AV × Hp) := .br l.isEmpty (.leaf (osW 0 0, [some (rowI [] 0)])) (.leaf (.sl (.int .i64) l true, []))
def c83 (args : List AV) (H : Hp) : Tree (AV × Hp) := match args, H with
  | [(.sl (.int .i64) l false)], [] => c83t l
  | _, _ => .fail
theorem c83_ok {T : Tab} (hT : TabOK T) (h : ∀ (l : List Int) (r : AV × Hp), (c83t l).val = some r → evBody T 83 [lI l] [] = some r) : ∀ args H v H', (c83 args H).val = some (v, H') → CallOK T 83 args H v H' := by
  intro args H v H' hv
  unfold c83 at hv
  split at hv
  · exact evBody_sound hT (h _ _ hv)
  · cases hv
def l85_2t (m : Int) : Tree (Out × List AV × Hp) := .br (decide (1 ≤ m) && decide (m ≤ 100)) (.leaf (.ext 0, [vi m, vi (Brn.rootN m)], [])) .fail
def l85_2 (base : Nat) (kv : List AV) (H : Hp) : Tree (Out × List AV × Hp) := match Nat.beq base 0, kv, H with
  | true, [(.sc (.int .i64 m)), (.sc (.int .i64 1))], [] => l85_2t m
  | _, _, _ => .fail
theorem l85_2_ok {T : Tab} (hT : TabOK T) (hlo : loopOf T.fn 85 2 = some (lpc T 85 2)) (h : ∀ (m : Int) (r : Out × List AV × Hp), (l85_2t m).val = some r → ∃ mm, lpRun T 85 2 0 (lpc T 85 2) mm [vi m, vi 1] [] = some r) : ∀ base kv H o kv' H', (l85_2 base kv H).val = some (o, kv', H') → LoopOK T 85 2 base kv H o kv' H' := by
  intro base kv H o kv' H' hv
  unfold l85_2 at hv
  split at hv
  · rename_i hb
    obtain rfl := Nat.eq_of_beq_eq_true hb
    exact loop_ok hT hlo (h _ _ hv)
  · cases hv
def l37_4t (m : Int) : Tree (Out × List AV × Hp) := .br (decide (1 ≤ m) && decide (m ≤ 100)) (.leaf (.ext 0, [vi m, vi (Brn.rootN m), vi (Brn.rootN m * Brn.rootN m : Nat)], [])) .fail
def l37_4 (base : Nat) (kv : List AV) (H : Hp) : Tree (Out × List AV × Hp) := match Nat.beq base 0, kv, H with
  | true, [(.sc (.int .i64 m)), (.sc (.int .i64 0)), (.sc (.int .i64 0))], [] => l37_4t m
  | _, _, _ => .fail
theorem l37_4_ok {T : Tab} (hT : TabOK T) (hlo : loopOf T.fn 37 4 = some (lpc T 37 4)) (h : ∀ (m : Int) (r : Out × List AV × Hp), (l37_4t m).val = some r → ∃ mm, lpRun T 37 4 0 (lpc T 37 4) mm [vi m, vi 0, vi 0] [] = some r) : ∀ base kv H o kv' H', (l37_4 base kv H).val = some (o, kv', H') → LoopOK T 37 4 base kv H o kv' H' := by
  intro base kv H o kv' H' hv
  unfold l37_4 at hv
  split at hv
  · rename_i hb
    obtain rfl := Nat.eq_of_beq_eq_true hb
    exact loop_ok hT hlo (h _ _ hv)
  · cases hv
def l86_5t (n : Int) (ws : Ws) (l : List Int) (least i : Int) : Tree (Out × List AV × Hp) := .br (sm ws && decide (n ≤ 100) && Brn.farOK n ws l && sm l && decide (0 ≤ i) && decide (i < l.length)) (.br ((List.range i.toNat).all fun k => !decide ((Brn.farN n ws (l.getD i.toNat 0) (l.getD k 0) : Int) < least)) (.leaf (.ext 2, [lI l, vi least, ps 0, vb false, vi i, vi i], [some (rH n ws 28)])) (.leaf (.ret, [lI l, vi least, ps 0, vb false, vi i, vi ((List.range i.toNat).findIdx fun k => decide ((Brn.farN n ws (l.getD i.toNat 0) (l.getD k 0) : Int) < least))], [some (rH n ws 28)]))) .fail
def l86_5 (base : Nat) (kv : List AV) (H : Hp) : Tree (Out × List AV × Hp) := match Nat.beq base 0, kv, H with
  | true, [(.sl (.int .i64) l false), (.sc (.int .i64 least)), (.ps 0 0 0 0), (.sc (.bool false)), (.sc (.int .i64 i)), (.sc (.int .i64 0))], [some ⟨[.sc (.int .i64 n), .sl (.pair .i64) ws false], true, 28, false, false, none⟩] => l86_5t n ws l least i
  | _, _, _ => .fail
theorem l86_5_ok {T : Tab} (hT : TabOK T) (hlo : loopOf T.fn 86 5 = some (lpc T 86 5)) (h : ∀ (n : Int) (ws : Ws) (l : List Int) (least i : Int) (r : Out × List AV × Hp), (l86_5t n ws l least i).val = some r → ∃ mm, lpRun T 86 5 0 (lpc T 86 5) mm [lI l, vi least, ps 0, vb false, vi i, vi 0] [some (rH n ws 28)] = some r) : ∀ base kv H o kv' H', (l86_5 base kv H).val = some (o, kv', H') → LoopOK T 86 5 base kv H o kv' H' := by
  intro base kv H o kv' H' hv
  unfold l86_5 at hv
  split at hv
  · rename_i hb
    obtain rfl := Nat.eq_of_beq_eq_true hb
    exact loop_ok hT hlo (h _ _ _ _ _ _ hv)
  · cases hv
noncomputable def S23 : Tab := ((((S22).addCall 83 c83).addLoop 85 2 l85_2).addLoop 37 4 l37_4).addLoop 86 5 l86_5
theorem nf85 (m : Int) : evBody S23 85 [vi m] [] = (bif decide (1 ≤ m) && decide (m ≤ 100) then some (vi (↑(Brn.rootN m) : Int), []) else none) := by kernel_rfl
theorem nf37 (m : Int) : evBody S23 37 [vi m] [] = (bif !Brn.inR m 1 100 then some (.tuple [vi 0, vi 1], []) else bif decide (1 ≤ m) && decide (m ≤ 100) then some (.tuple [vi (↑(Brn.rootN m) : Int), vi 0], []) else none) := by kernel_rfl
theorem nl86_2 (again : Ag) (n : Int) (ws : Ws) (l : List Int) (least i : Int) : lpStep S23 86 2 0 (lpc S23 86 2) again [lI l, vi least, ps 0, vb false, vi i] [some (rH n ws 28)] = (bif decide (i < (↑l.length : Int)) then bif sm ws && decide (n ≤ 100) && Brn.farOK n ws l && sm l && decide (0 ≤ i) && decide (i < (↑l.length : Int)) then bif (List.range i.toNat).all fun k => !decide ((↑(Brn.farN n ws (l.getD i.toNat 0) (l.getD k 0)) : Int) < least) then again [.sl (.int .i64) l false, vi least, .ps 0 0 0 0, vb false, vi (IntKind.i64.wrap (i + 1))] [some ⟨[vi n, .sl (.pair .i64) ws false], true, 28, false, false, none⟩] else some (.ret, [.sl (.int .i64) l false, vi least, .ps 0 0 0 0, vb false, vi i], [some ⟨[vi n, .sl (.pair .i64) ws false], true, 28, false, false, none⟩]) else none else some (.ext 0, [.sl (.int .i64) l false, vi least, .ps 0 0 0 0, vb false, vi i], [some ⟨[vi n, .sl (.pair .i64) ws false], true, 28, false, false, none⟩])) := by kernel_rfl
def c85t (m : Int) : Tree (AV × Hp) := .br (decide (1 ≤ m) && decide (m ≤ 100)) (.leaf (vi (Brn.rootN m), [])) .fail
def c85 (args : List AV) (H : Hp) : Tree (AV × Hp) := match args, H with
  | [(.sc (.int .i64 m))], [] => c85t m
  | _, _ => .fail
theorem c85_ok {T : Tab} (hT : TabOK T) (h : ∀ (m : Int) (r : AV × Hp), (c85t m).val = some r → evBody T 85 [vi m] [] = some r) : ∀ args H v H', (c85 args H).val = some (v, H') → CallOK T 85 args H v H' := by
  intro args H v H' hv
  unfold c85 at hv
  split at hv
  · exact evBody_sound hT (h _ _ hv)
  · cases hv
def c37t (m : Int) : Tree (AV × Hp) := .leaf (.tuple [vi (Brn.rootV m), vi (Brn.rootE m)], [])
def c37 (args : List AV) (H : Hp) : Tree (AV × Hp) := match args, H with
  | [(.sc (.int .i64 m))], [] => c37t m
  | _, _ => .fail
theorem c37_ok {T : Tab} (hT : TabOK T) (h : ∀ (m : Int) (r : AV × Hp), (c37t m).val = some r → evBody T 37 [vi m] [] = some r) : ∀ args H v H', (c37 args H).val = some (v, H') → CallOK T 37 args H v H' := by
  intro args H v H' hv
  unfold c37 at hv
  split at hv
  · exact evBody_sound hT (h _ _ hv)
  · cases hv
def l86_2t (n : Int) (ws : Ws) (l : List Int) (least : Int) : Tree (Out × List AV × Hp) := .br (sm ws && decide (n ≤ 100) && Brn.farOK n ws l && sm l) (.br (Brn.apartB n ws least l) (.leaf (.ext 0, [lI l, vi least, ps 0, vb false, vi l.length], [some (rH n ws 28)])) (.leaf (.ret, [lI l, vi least, ps 0, vb false, vi ((List.range l.length).findIdx fun i => !((List.range i).all fun k => !decide ((Brn.farN n ws (l.getD i 0) (l.getD k 0) : Int) < least)))], [some (rH n ws 28)]))) .fail
def l86_2 (base : Nat) (kv : List AV) (H : Hp) : Tree (Out × List AV × Hp) := match Nat.beq base 0, kv, H with
  | true, [(.sl (.int .i64) l false), (.sc (.int .i64 least)), (.ps 0 0 0 0), (.sc (.bool false)), (.sc (.int .i64 0))], [some ⟨[.sc (.int .i64 n), .sl (.pair .i64) ws false], true, 28, false, false, none⟩] => l86_2t n ws l least
  | _, _, _ => .fail
theorem l86_2_ok {T : Tab} (hT : TabOK T) (hlo : loopOf T.fn 86 2 = some (lpc T 86 2)) (h : ∀ (n : Int) (ws : Ws) (l : List Int) (least : Int) (r : Out × List AV × Hp), (l86_2t n ws l least).val = some r → ∃ mm, lpRun T 86 2 0 (lpc T 86 2) mm [lI l, vi least, ps 0, vb false, vi 0] [some (rH n ws 28)] = some r) : ∀ base kv H o kv' H', (l86_2 base kv H).val = some (o, kv', H') → LoopOK T 86 2 base kv H o kv' H' := by
  intro base kv H o kv' H' hv
  unfold l86_2 at hv
  split at hv
  · rename_i hb
    obtain rfl := Nat.eq_of_beq_eq_true hb
    exact loop_ok hT hlo (h _ _ _ _ _ hv)
  · cases hv
def l39_6t (m k : Int) (u : Int) : Tree (Out × List AV × Hp) := .br (decide (1 ≤ m) && decide (m ≤ 100) && decide (u = k) && decide (0 ≤ k) && decide (k ≤ 10)) (.leaf (.ext 0, [vi m, vi k, osW 0 (Brn.rowP m k.toNat).length, vi u, vi k], [some (rI (Brn.rowP m k.toNat))])) .fail
def l39_6 (base : Nat) (kv : List AV) (H : Hp) : Tree (Out × List AV × Hp) := match Nat.beq base 0, kv, H with
  | true, [(.sc (.int .i64 m)), (.sc (.int .i64 k)), (.os 0 0 0 0 true false true), (.sc (.int .i64 u)), (.sc (.int .i64 0))], [some ⟨[.run (.int .i64) []], false, 0, false, false, none⟩] => l39_6t m k u
  | _, _, _ => .fail
theorem l39_6_ok {T : Tab} (hT : TabOK T) (hlo : loopOf T.fn 39 6 = some (lpc T 39 6)) (h : ∀ (m k : Int) (u : Int) (r : Out × List AV × Hp), (l39_6t m k u).val = some r → ∃ mm, lpRun T 39 6 0 (lpc T 39 6) mm [vi m, vi k, osW 0 0, vi u, vi 0] [some (rowI [] 0)] = some r) : ∀ base kv H o kv' H', (l39_6 base kv H).val = some (o, kv', H') → LoopOK T 39 6 base kv H o kv' H' := by
  intro base kv H o kv' H' hv
  unfold l39_6 at hv
  split at hv
  · rename_i hb
    obtain rfl := Nat.eq_of_beq_eq_true hb
    exact loop_ok hT hlo (h _ _ _ _ hv)
  · cases hv
def l40_6t (m p : Int) : Tree (Out × List AV × Hp) := .br (decide (1 ≤ m) && decide (m ≤ 100) && decide (p = 2 * (Brn.rootN m : Int) - 1) && decide (Brn.rootN m ≤ 10)) (.leaf (.ext 0, [vi m, osW 0 (Brn.rowR m (Brn.rootN m) 0).length, vi ((Brn.rootN m * Brn.rootN m : Nat) : Int), vi (-1)], [some (rI (Brn.rowR m (Brn.rootN m) 0))])) .fail
def l40_6 (base : Nat) (kv : List AV) (H : Hp) : Tree (Out × List AV × Hp) := match Nat.beq base 0, kv, H with
  | true, [(.sc (.int .i64 m)), (.os 0 0 0 0 true false true), (.sc (.int .i64 0)), (.sc (.int .i64 p))], [some ⟨[.run (.int .i64) []], false, 0, false, false, none⟩] => l40_6t m p
  | _, _, _ => .fail
theorem l40_6_ok {T : Tab} (hT : TabOK T) (hlo : loopOf T.fn 40 6 = some (lpc T 40 6)) (h : ∀ (m p : Int) (r : Out × List AV × Hp), (l40_6t m p).val = some r → ∃ mm, lpRun T 40 6 0 (lpc T 40 6) mm [vi m, osW 0 0, vi 0, vi p] [some (rowI [] 0)] = some r) : ∀ base kv H o kv' H', (l40_6 base kv H).val = some (o, kv', H') → LoopOK T 40 6 base kv H o kv' H' := by
  intro base kv H o kv' H' hv
  unfold l40_6 at hv
  split at hv
  · rename_i hb
    obtain rfl := Nat.eq_of_beq_eq_true hb
    exact loop_ok hT hlo (h _ _ _ hv)
  · cases hv
noncomputable def S24 : Tab := (((((S23).addCall 85 c85).addCall 37 c37).addLoop 86 2 l86_2).addLoop 39 6 l39_6).addLoop 40 6 l40_6
theorem nf86 (n : Int) (ws : Ws) (l : List Int) (least : Int) : evBody S24 86 [aH n ws, lI l, vi least] [] = (bif sm ws && decide (n ≤ 100) && Brn.farOK n ws l && sm l then bif Brn.apartB n ws least l then some (vb true, []) else some (vb false, []) else none) := by kernel_rfl
theorem nf38 (m : Int) : evBody S24 38 [vi m] [] = (bif !Brn.inR m 1 100 then some (.tuple [vi 0, vi 1], []) else bif decide (1 ≤ m) && decide (m ≤ 100) then some (.tuple [vi (↑(Brn.rootN m) : Int), vi 0], []) else none) := by kernel_rfl
theorem nf39 (m : Int) : evBody S24 39 [vi m] [] = (bif Brn.rootE m != 0 then some (.tuple [osW 0 0, vi (Brn.rootE m)], [some ⟨[.run (.int .i64) []], false, 0, false, false, none⟩]) else bif decide (1 ≤ m) && decide (m ≤ 100) && decide (Brn.rootV m = Brn.rootV m) && decide (0 ≤ Brn.rootV m) && decide (Brn.rootV m ≤ 10) then some (.tuple [.os 0 0 0 (Brn.rowP m (Brn.rootV m).toNat).length true false true, vi 0], [some { c := [.run (.int .i64) (Brn.rowP m (Brn.rootV m).toNat)], vr := false, ty := Burn.tyI (Brn.rowP m (Brn.rootV m).toNat), fz := false, loose := false : Row }]) else none) := by kernel_rfl
theorem nf40 (m : Int) : evBody S24 40 [vi m] [] = (bif !Brn.inR m 1 100 then some (.tuple [osW 0 0, vi 1], [some ⟨[.run (.int .i64) []], false, 0, false, false, none⟩]) else bif decide (1 ≤ m) && decide (m ≤ 100) then bif decide (1 ≤ m) && decide (m ≤ 100) && decide (IntKind.i64.wrap (IntKind.i64.wrap (2 * (↑(Brn.rootN m) : Int)) - 1) = 2 * (↑(Brn.rootN m) : Int) - 1) && decide (Brn.rootN m ≤ 10) then some (.tuple [.os 0 0 0 (Brn.rowR m (Brn.rootN m) 0).length true false true, vi 0], [some ⟨[.run (.int .i64) (Brn.rowR m (Brn.rootN m) 0)], false, Burn.tyI (Brn.rowR m (Brn.rootN m) 0), false, false, none⟩]) else none else none) := by kernel_rfl
def c86t (n : Int) (ws : Ws) (l : List Int) (least : Int) : Tree (AV × Hp) := .br (sm ws && decide (n ≤ 100) && Brn.farOK n ws l && sm l) (.leaf (vb (Brn.apartB n ws least l), [])) .fail
def c86 (args : List AV) (H : Hp) : Tree (AV × Hp) := match args, H with
  | [(.agg [.sc (.int .i64 n), .sl (.pair .i64) ws false] false), (.sl (.int .i64) l false), (.sc (.int .i64 least))], [] => c86t n ws l least
  | _, _ => .fail
theorem c86_ok {T : Tab} (hT : TabOK T) (h : ∀ (n : Int) (ws : Ws) (l : List Int) (least : Int) (r : AV × Hp), (c86t n ws l least).val = some r → evBody T 86 [aH n ws, lI l, vi least] [] = some r) : ∀ args H v H', (c86 args H).val = some (v, H') → CallOK T 86 args H v H' := by
  intro args H v H' hv
  unfold c86 at hv
  split at hv
  · exact evBody_sound hT (h _ _ _ _ _ hv)
  · cases hv
def c38t (m : Int) : Tree (AV × Hp) := .leaf (.tuple [vi (Brn.rootV m), vi (Brn.rootE m)], [])
def c38 (args : List AV) (H : Hp) : Tree (AV × Hp) := match args, H with
  | [(.sc (.int .i64 m))], [] => c38t m
  | _, _ => .fail
theorem c38_ok {T : Tab} (hT : TabOK T) (h : ∀ (m : Int) (r : AV × Hp), (c38t m).val = some r → evBody T 38 [vi m] [] = some r) : ∀ args H v H', (c38 args H).val = some (v, H') → CallOK T 38 args H v H' := by
  intro args H v H' hv
  unfold c38 at hv
  split at hv
  · exact evBody_sound hT (h _ _ hv)
  · cases hv
def c39t (m : Int) : Tree (AV × Hp) := .leaf (.tuple [osW 0 (Brn.rowV m).length, vi (Brn.rootE m)], [some (rI (Brn.rowV m))])
def c39 (args : List AV) (H : Hp) : Tree (AV × Hp) := match args, H with
  | [(.sc (.int .i64 m))], [] => c39t m
  | _, _ => .fail
theorem c39_ok {T : Tab} (hT : TabOK T) (h : ∀ (m : Int) (r : AV × Hp), (c39t m).val = some r → evBody T 39 [vi m] [] = some r) : ∀ args H v H', (c39 args H).val = some (v, H') → CallOK T 39 args H v H' := by
  intro args H v H' hv
  unfold c39 at hv
  split at hv
  · exact evBody_sound hT (h _ _ hv)
  · cases hv
def c40t (m : Int) : Tree (AV × Hp) := .leaf (.tuple [osW 0 (Brn.rowV m).length, vi (Brn.rootE m)], [some (rI (Brn.rowV m))])
def c40 (args : List AV) (H : Hp) : Tree (AV × Hp) := match args, H with
  | [(.sc (.int .i64 m))], [] => c40t m
  | _, _ => .fail
theorem c40_ok {T : Tab} (hT : TabOK T) (h : ∀ (m : Int) (r : AV × Hp), (c40t m).val = some r → evBody T 40 [vi m] [] = some r) : ∀ args H v H', (c40 args H).val = some (v, H') → CallOK T 40 args H v H' := by
  intro args H v H' hv
  unfold c40 at hv
  split at hv
  · exact evBody_sound hT (h _ _ hv)
  · cases hv
noncomputable def S25 : Tab := ((((S24).addCall 86 c86).addCall 38 c38).addCall 39 c39).addCall 40 c40
def c84t (d : Nat) (n : Int) (ws : Ws) (l : List Int) (m least : Int) : Tree (AV × Hp) := .br (sm ws && Brn.chk n ws == 0 && (l.all fun p => Brn.inR p 0 (n - 1)) && decide (0 ≤ m) && decide (m < (d : Int)) && decide (m + l.length ≤ 11)) (.br (Brn.barR n ws least m l).isSome (.leaf (.tuple [lI (Brn.gotten (Brn.barR n ws least m l)), vb true], [])) (.leaf (.tuple [osW 0 0, vb false], [some (rowI [] 0)]))) .fail
def c84 (d : Nat) (args : List AV) (H : Hp) : Tree (AV × Hp) := match args, H with
  | [(.agg [.sc (.int .i64 n), .sl (.pair .i64) ws false] false), (.sl (.int .i64) l false), (.sc (.int .i64 m)), (.sc (.int .i64 least))], [] => c84t d n ws l m least
  | _, _ => .fail
theorem c84_ok (d : Nat) {T : Tab} (hT : TabOK T) (h : ∀ (n : Int) (ws : Ws) (l : List Int) (m least : Int) (r : AV × Hp), (c84t d n ws l m least).val = some r → evBody T 84 [aH n ws, lI l, vi m, vi least] [] = some r) : ∀ args H v H', (c84 d args H).val = some (v, H') → CallOK T 84 args H v H' := by
  intro args H v H' hv
  unfold c84 at hv
  split at hv
  · exact evBody_sound hT (h _ _ _ _ _ _ hv)
  · cases hv
noncomputable def B0 (d : Nat) : Tab := S25.addCall 84 (c84 d)
theorem nl84 (d : Nat) (again : Ag) (n : Int) (ws : Ws) (l : List Int) (m least p : Int) : lpStep (B0 d) 84 7 0 (lpc (B0 d) 84 7) again [lI l, vi m, vi least, ps 0, osW 1 0, vb false, vi p] [some (rH n ws 28), some (rowI [] 0)] = (bif decide (p < n) then bif bif decide (0 < l.length) then true else ([] : List Int).isEmpty then bif room (0 + l.length) 8 then bif room (0 + l.length + 1) 8 then bif sm ws && decide (n ≤ 100) && Brn.farOK n ws ([] ++ l ++ [p]) && sm ([] ++ l ++ [p]) then bif !Brn.apartB n ws least ([] ++ l ++ [p]) then again [.sl (.int .i64) l false, vi m, vi least, .ps 0 0 0 0, osW 1 0, vb false, vi (IntKind.i64.wrap (p + 1))] [some ⟨[vi n, .sl (.pair .i64) ws false], true, 28, false, false, none⟩, some ⟨[.run (.int .i64) []], false, 0, false, false, none⟩] else bif (sm ws && Brn.chk n ws == 0 && ([] ++ l ++ [p]).all fun p => Brn.inR p 0 (n - 1)) && decide (0 ≤ IntKind.i64.wrap (m - 1)) && decide (IntKind.i64.wrap (m - 1) < (↑d : Int)) && decide (IntKind.i64.wrap (m - 1) + (↑([] ++ l ++ [p]).length : Int) ≤ 11) then bif (Brn.barR n ws least (IntKind.i64.wrap (m - 1)) ([] ++ l ++ [p])).isSome then some (.ret, [.sl (.int .i64) l false, vi m, vi least, .ps 0 0 0 0, .sl (.int .i64) (Brn.gotten (Brn.barR n ws least (IntKind.i64.wrap (m - 1)) ([] ++ l ++ [p]))) false, vb true, vi p], [some ⟨[vi n, .sl (.pair .i64) ws false], true, 28, false, false, none⟩]) else again [.sl (.int .i64) l false, vi m, vi least, .ps 0 0 0 0, osW 1 0, vb false, vi (IntKind.i64.wrap (p + 1))] [some ⟨[vi n, .sl (.pair .i64) ws false], true, 28, false, false, none⟩, some ⟨[.run (.int .i64) []], false, 0, false, false, none⟩] else none else none else none else none else none else some (.ext 0, [.sl (.int .i64) l false, vi m, vi least, .ps 0 0 0 0, osW 1 0, vb false, vi p], [some ⟨[vi n, .sl (.pair .i64) ws false], true, 28, false, false, none⟩, some ⟨[.run (.int .i64) []], false, 0, false, false, none⟩])) := by kernel_rfl
def l84_7t (d : Nat) (n : Int) (ws : Ws) (l : List Int) (m least p : Int) : Tree (Out × List AV × Hp) := .br (sm ws && Brn.chk n ws == 0 && (l.all fun p => Brn.inR p 0 (n - 1)) && decide (1 ≤ m) && decide (m ≤ (d : Int)) && decide (m + l.length ≤ 11) && decide (p = Brn.frm l)) (.br (Brn.barR n ws least m l).isSome (.leaf (.ret, [lI l, vi m, vi least, ps 0, lI (Brn.gotten (Brn.barR n ws least m l)), vb true, vi (Brn.nth (Brn.gotten (Brn.barR n ws least m l)) l.length)], [some (rH n ws 28)])) (.leaf (.ext 0, [lI l, vi m, vi least, ps 0, osW 1 0, vb false, vi n], [some (rH n ws 28), some (rowI [] 0)]))) .fail
def l84_7 (d : Nat) (base : Nat) (kv : List AV) (H : Hp) : Tree (Out × List AV × Hp) := match Nat.beq base 0, kv, H with
  | true, [(.sl (.int .i64) l false), (.sc (.int .i64 m)), (.sc (.int .i64 least)), (.ps 0 0 0 0), (.os 1 0 0 0 true false true), (.sc (.bool false)), (.sc (.int .i64 p))], [some ⟨[.sc (.int .i64 n), .sl (.pair .i64) ws false], true, 28, false, false, none⟩, some ⟨[.run (.int .i64) []], false, 0, false, false, none⟩] => l84_7t d n ws l m least p
  | _, _, _ => .fail
theorem l84_7_ok (d : Nat) {T : Tab} (hT : TabOK T) (hlo : loopOf T.fn 84 7 = some (lpc T 84 7)) (h : ∀ (n : Int) (ws : Ws) (l : List Int) (m least p : Int) (r : Out × List AV × Hp), (l84_7t d n ws l m least p).val = some r → ∃ mm, lpRun T 84 7 0 (lpc T 84 7) mm [lI l, vi m, vi least, ps 0, osW 1 0, vb false, vi p] [some (rH n ws 28), some (rowI [] 0)] = some r) : ∀ base kv H o kv' H', (l84_7 d base kv H).val = some (o, kv', H') → LoopOK T 84 7 base kv H o kv' H' := by
  intro base kv H o kv' H' hv
  unfold l84_7 at hv
  split at hv
  · rename_i hb
    obtain rfl := Nat.eq_of_beq_eq_true hb
    exact loop_ok hT hlo (h _ _ _ _ _ _ _ hv)
  · cases hv
noncomputable def B1 (d : Nat) : Tab := (B0 d).addLoop 84 7 (l84_7 d)
theorem nf84n (d : Nat) (n : Int) (ws : Ws) (m least : Int) : evBody (B1 d) 84 [aH n ws, lI [], vi m, vi least] [] = (bif m == 0 then some (.tuple [.sl (.int .i64) [] false, vb true], []) else bif (sm ws && Brn.chk n ws == 0 && [].all fun p => Brn.inR p 0 (n - 1)) && decide (1 ≤ m) && decide (m ≤ (↑d : Int)) && decide (m + (↑0 : Int) ≤ 11) && decide (0 = Brn.frm []) then bif (Brn.barR n ws least m []).isSome then some (.tuple [.sl (.int .i64) (Brn.gotten (Brn.barR n ws least m [])) false, vb true], []) else some (.tuple [osW 0 0, vb false], [some ⟨[.run (.int .i64) []], false, 0, false, false, none⟩]) else none) := by kernel_rfl
theorem nf84c (d : Nat) (n : Int) (ws : Ws) (m least : Int) (l : List Int) : evBody (B1 d) 84 [aH n ws, lI l, vi m, vi least] [] = (bif m == 0 then some (.tuple [.sl (.int .i64) l false, vb true], []) else bif decide ((↑l.length : Int) > 0) then bif decide (0 ≤ IntKind.i64.wrap ((↑l.length : Int) - 1)) then bif decide (IntKind.i64.wrap ((↑l.length : Int) - 1) < (↑l.length : Int)) then oM l[(IntKind.i64.wrap ((↑l.length : Int) - 1)).toNat]? fun x => bif (sm ws && Brn.chk n ws == 0 && l.all fun p => Brn.inR p 0 (n - 1)) && decide (1 ≤ m) && decide (m ≤ (↑d : Int)) && decide (m + (↑l.length : Int) ≤ 11) && decide (IntKind.i64.wrap (x + 1) = Brn.frm l) then bif (Brn.barR n ws least m l).isSome then some (.tuple [.sl (.int .i64) (Brn.gotten (Brn.barR n ws least m l)) false, vb true], []) else some (.tuple [osW 0 0, vb false], [some ⟨[.run (.int .i64) []], false, 0, false, false, none⟩]) else none else none else none else bif (sm ws && Brn.chk n ws == 0 && l.all fun p => Brn.inR p 0 (n - 1)) && decide (1 ≤ m) && decide (m ≤ (↑d : Int)) && decide (m + (↑l.length : Int) ≤ 11) && decide (0 = Brn.frm l) then bif (Brn.barR n ws least m l).isSome then some (.tuple [.sl (.int .i64) (Brn.gotten (Brn.barR n ws least m l)) false, vb true], []) else some (.tuple [osW 0 0, vb false], [some ⟨[.run (.int .i64) []], false, 0, false, false, none⟩]) else none) := by kernel_rfl
end Go.Ev.Burn
