/- The claim chapter: all orders, and the reference's average: tables and normal forms. -/
import Derived.Test.YtfemekpcgieldaaTg
import Derived.Test.YtfemekpcgieldaaSb
set_option linter.unusedVariables false
set_option linter.unusedSimpArgs false
namespace Go.Ev.Clm
open Go Go.Ev
set_option maxRecDepth 1000000
set_option linter.unusedVariables false
abbrev rowL (l : List (List Int)) (t : TypeId) : Row := ⟨[.run (.ilist .i64) l], false, t, false, false, none⟩
def c68t (d : Nat) (n : Int) (b : List Int) : Tree (AV × Hp) := .br (decide (1 ≤ n) && decide (n ≤ 5) && decide ((b.length : Int) ≤ n) && decide (n - b.length < (d : Int))) (.br (decide ((b.length : Int) = n)) (.leaf (.sl (.ilist .i64) [b] true, [])) (.leaf (osW 0 (Clm.ordB n b).length, [some (rowL (Clm.ordB n b) (Clm.tyB b n.toNat))]))) .fail
def c68 (d : Nat) (args : List AV) (H : Hp) : Tree (AV × Hp) := match args, H with
  | [(.sc (.int .i64 n)), (.sl (.int .i64) b false)], [] => c68t d n b
  | _, _ => .fail
theorem c68_ok (d : Nat) {T : Tab} (hT : TabOK T) (h : ∀ (n : Int) (b : List Int) (r : AV × Hp), (c68t d n b).val = some r → evBody T 68 [vi n, lI b] [] = some r) : ∀ args H v H', (c68 d args H).val = some (v, H') → CallOK T 68 args H v H' := by
  intro args H v H' hv
  unfold c68 at hv
  split at hv
  · exact evBody_sound hT (h _ _ _ hv)
  · cases hv
noncomputable def O0 (d : Nat) : Tab := T24.addCall 68 (c68 d)
theorem nl68 (d : Nat) (again : Ag) (n p : Int) (b : List Int) (out : List (List Int)) (ty : TypeId) : lpStep (O0 d) 68 5 0 (lpc (O0 d) 68 5) again [vi n, lI b, osW 0 out.length, vi p] [some (rowL out ty)] = (bif decide (p < n) then bif sm b then bif !Clm.has b p then bif bif decide (0 < b.length) then true else ([] : List Int).isEmpty then bif room (0 + b.length) 8 then bif room (0 + b.length + 1) 8 then bif decide (1 ≤ n) && decide (n ≤ 5) && decide ((↑([] ++ b ++ [p]).length : Int) ≤ n) && decide (n - (↑([] ++ b ++ [p]).length : Int) < (↑d : Int)) then bif decide ((↑([] ++ b ++ [p]).length : Int) = n) then bif room (out.length + 1) 24 then again [vi n, .sl (.int .i64) b false, osW 0 (out.length + 1), vi (IntKind.i64.wrap (p + 1))] [some ⟨[.run (.ilist .i64) (out ++ [[] ++ b ++ [p]])], false, 22, false, false, none⟩] else none else bif room (out.length + (Clm.ordB n ([] ++ b ++ [p])).length) 24 then again [vi n, .sl (.int .i64) b false, osW 0 (out.length + (Clm.ordB n ([] ++ b ++ [p])).length), vi (IntKind.i64.wrap (p + 1))] [some ⟨[.run (.ilist .i64) (out ++ Clm.ordB n ([] ++ b ++ [p]))], false, 22, false, false, none⟩] else none else none else none else none else none else again [vi n, .sl (.int .i64) b false, osW 0 out.length, vi (IntKind.i64.wrap (p + 1))] [some ⟨[.run (.ilist .i64) out], false, ty, false, false, none⟩] else none else some (.ext 0, [vi n, .sl (.int .i64) b false, osW 0 out.length, vi p], [some ⟨[.run (.ilist .i64) out], false, ty, false, false, none⟩])) := by kernel_rfl
def l68_5t (d : Nat) (n : Int) (b : List Int) : Tree (Out × List AV × Hp) := .br (decide (1 ≤ n) && decide (n ≤ 5) && decide ((b.length : Int) < n) && decide (n - b.length ≤ (d : Int))) (.leaf (.ext 0, [vi n, lI b, osW 0 (Clm.ordB n b).length, vi n], [some (rowL (Clm.ordB n b) (Clm.tyB b n.toNat))])) .fail
def l68_5 (d : Nat) (base : Nat) (kv : List AV) (H : Hp) : Tree (Out × List AV × Hp) := match Nat.beq base 0, kv, H with
  | true, [(.sc (.int .i64 n)), (.sl (.int .i64) b false), (.os 0 0 0 0 true false true), (.sc (.int .i64 0))], [some ⟨[.run (.ilist .i64) []], false, 0, false, false, none⟩] => l68_5t d n b
  | _, _, _ => .fail
theorem l68_5_ok (d : Nat) {T : Tab} (hT : TabOK T) (hlo : loopOf T.fn 68 5 = some (lpc T 68 5)) (h : ∀ (n : Int) (b : List Int) (r : Out × List AV × Hp), (l68_5t d n b).val = some r → ∃ mm, lpRun T 68 5 0 (lpc T 68 5) mm [vi n, lI b, osW 0 0, vi 0] [some (rowL [] 0)] = some r) : ∀ base kv H o kv' H', (l68_5 d base kv H).val = some (o, kv', H') → LoopOK T 68 5 base kv H o kv' H' := by
  intro base kv H o kv' H' hv
  unfold l68_5 at hv
  split at hv
  · rename_i hb
    obtain rfl := Nat.eq_of_beq_eq_true hb
    exact loop_ok hT hlo (h _ _ _ hv)
  · cases hv
noncomputable def O1 (d : Nat) : Tab := (O0 d).addLoop 68 5 (l68_5 d)
theorem nf68 (d : Nat) (n : Int) (b : List Int) : evBody (O1 d) 68 [vi n, lI b] [] = (bif (↑b.length : Int) == n then some (.sl (.ilist .i64) [b] true, []) else bif decide (1 ≤ n) && decide (n ≤ 5) && decide ((↑b.length : Int) < n) && decide (n - (↑b.length : Int) ≤ (↑d : Int)) then some (.os 0 0 0 (Clm.ordB n b).length true false true, [some ⟨[.run (.ilist .i64) (Clm.ordB n b)], false, Clm.tyB b n.toNat, false, false, none⟩]) else none) := by kernel_rfl
noncomputable def T25 : Tab := O0 6
theorem nl31_11 (again : Ag) (cs out e : List Int) (os : List (List Int)) (ty : TypeId) (w i j : Int) (k q : Nat) : lpStep T25 31 11 0 (lpc T25 31 11) again [vi w, lI cs, osW 0 os.length, osT 1 k, vi i, osT 2 q, vi j] [some (rowL os ty), some (rowI out 3), some (rowI e 3)] = (bif decide (j < (↑q : Int)) then bif decide (0 ≤ j) then bif decide (j < (↑k : Int)) then oM out[j.toNat]? fun x => bif decide (0 ≤ j) then bif decide (j < (↑q : Int)) then oM e[j.toNat]? fun x_1 => bif decide (0 ≤ j) then bif decide (j < (↑k : Int)) then oM out[j.toNat]? fun x_2 => again [vi w, .sl (.int .i64) cs false, osW 0 os.length, .os 1 0 0 k true true true, vi i, .os 2 0 0 q true true true, vi (IntKind.i64.wrap (j + 1))] [some ⟨[.run (.ilist .i64) os], false, ty, false, false, none⟩, some ⟨[.run (.int .i64) (out.set j.toNat (IntKind.i64.wrap (x + x_1)))], false, 3, false, false, none⟩, some ⟨[.run (.int .i64) e], false, 3, false, false, none⟩] else none else none else none else none else none else none else some (.ext 2, [vi w, .sl (.int .i64) cs false, osW 0 os.length, .os 1 0 0 k true true true, vi i, .os 2 0 0 q true true true, vi j], [some ⟨[.run (.ilist .i64) os], false, ty, false, false, none⟩, some ⟨[.run (.int .i64) out], false, 3, false, false, none⟩, some ⟨[.run (.int .i64) e], false, 3, false, false, none⟩])) := by kernel_rfl
def l31_11t (cs out e : List Int) (os : List (List Int)) (ty : TypeId) (w i : Int) (k q z : Nat) : Tree (Out × List AV × Hp) := .br (decide (q = k) && decide (z = os.length) && Clm.lenOK out k && Clm.lenOK e k && Clm.bigOK out && Clm.bigOK e && decide (k ≤ 5)) (.leaf (.ext 2, [vi w, lI cs, osW 0 z, osT 1 k, vi i, osT 2 q, vi q], [some (rowL os ty), some (rowI (Clm.addL out e k) 3), some (rowI e 3)])) .fail
def l31_11 (base : Nat) (kv : List AV) (H : Hp) : Tree (Out × List AV × Hp) := match Nat.beq base 0, kv, H with
  | true, [(.sc (.int .i64 w)), (.sl (.int .i64) cs false), (.os 0 0 0 z true false true), (.os 1 0 0 k true true true), (.sc (.int .i64 i)), (.os 2 0 0 q true true true), (.sc (.int .i64 0))], [some ⟨[.run (.ilist .i64) os], false, ty, false, false, none⟩, some ⟨[.run (.int .i64) out], false, 3, false, false, none⟩, some ⟨[.run (.int .i64) e], false, 3, false, false, none⟩] => l31_11t cs out e os ty w i k q z
  | _, _, _ => .fail
theorem l31_11_ok {T : Tab} (hT : TabOK T) (hlo : loopOf T.fn 31 11 = some (lpc T 31 11)) (h : ∀ (cs out e : List Int) (os : List (List Int)) (ty : TypeId) (w i : Int) (k q z : Nat) (r : Out × List AV × Hp), (l31_11t cs out e os ty w i k q z).val = some r → ∃ mm, lpRun T 31 11 0 (lpc T 31 11) mm [vi w, lI cs, osW 0 z, osT 1 k, vi i, osT 2 q, vi 0] [some (rowL os ty), some (rowI out 3), some (rowI e 3)] = some r) : ∀ base kv H o kv' H', (l31_11 base kv H).val = some (o, kv', H') → LoopOK T 31 11 base kv H o kv' H' := by
  intro base kv H o kv' H' hv
  unfold l31_11 at hv
  split at hv
  · rename_i hb
    obtain rfl := Nat.eq_of_beq_eq_true hb
    exact loop_ok hT hlo (h _ _ _ _ _ _ _ _ _ _ _ hv)
  · cases hv
theorem nl31_15 (again : Ag) (out : List Int) (os : List (List Int)) (ty : TypeId) (j : Int) (k : Nat) : lpStep T25 31 15 0 (lpc T25 31 15) again [osW 0 os.length, osT 1 k, vi j] [some (rowL os ty), some (rowI out 3)] = (bif decide (j < (↑k : Int)) then bif decide (0 ≤ j) then bif decide (j < (↑k : Int)) then oM out[j.toNat]? fun x => bif !decide ((↑os.length : Int) = 0) then bif decide (0 ≤ j) then bif decide (j < (↑k : Int)) then oM out[j.toNat]? fun x_1 => again [osW 0 os.length, .os 1 0 0 k true true true, vi (IntKind.i64.wrap (j + 1))] [some ⟨[.run (.ilist .i64) os], false, ty, false, false, none⟩, some ⟨[.run (.int .i64) (out.set j.toNat (IntKind.i64.wrap (Int.tdiv x (↑os.length : Int))))], false, 3, false, false, none⟩] else none else none else none else none else none else some (.ext 4, [osW 0 os.length, .os 1 0 0 k true true true, vi j], [some ⟨[.run (.ilist .i64) os], false, ty, false, false, none⟩, some ⟨[.run (.int .i64) out], false, 3, false, false, none⟩])) := by kernel_rfl
def l31_15t (out : List Int) (os : List (List Int)) (ty : TypeId) (k z : Nat) : Tree (Out × List AV × Hp) := .br (Clm.lenOK out k && decide (z = os.length) && decide (1 ≤ z) && Clm.bigOK out && decide (k ≤ 5) && decide (z ≤ 100000)) (.leaf (.ext 4, [osW 0 z, osT 1 k, vi k], [some (rowL os ty), some (rowI (Clm.tdL out z) 3)])) .fail
def l31_15 (base : Nat) (kv : List AV) (H : Hp) : Tree (Out × List AV × Hp) := match Nat.beq base 0, kv, H with
  | true, [(.os 0 0 0 z true false true), (.os 1 0 0 k true true true), (.sc (.int .i64 0))], [some ⟨[.run (.ilist .i64) os], false, ty, false, false, none⟩, some ⟨[.run (.int .i64) out], false, 3, false, false, none⟩] => l31_15t out os ty k z
  | _, _, _ => .fail
theorem l31_15_ok {T : Tab} (hT : TabOK T) (hlo : loopOf T.fn 31 15 = some (lpc T 31 15)) (h : ∀ (out : List Int) (os : List (List Int)) (ty : TypeId) (k z : Nat) (r : Out × List AV × Hp), (l31_15t out os ty k z).val = some r → ∃ mm, lpRun T 31 15 0 (lpc T 31 15) mm [osW 0 z, osT 1 k, vi 0] [some (rowL os ty), some (rowI out 3)] = some r) : ∀ base kv H o kv' H', (l31_15 base kv H).val = some (o, kv', H') → LoopOK T 31 15 base kv H o kv' H' := by
  intro base kv H o kv' H' hv
  unfold l31_15 at hv
  split at hv
  · rename_i hb
    obtain rfl := Nat.eq_of_beq_eq_true hb
    exact loop_ok hT hlo (h _ _ _ _ _ _ hv)
  · cases hv
noncomputable def T26 : Tab := ((T25).addLoop 31 11 l31_11).addLoop 31 15 l31_15
theorem nl31_7 (again : Ag) (cs out : List Int) (os : List (List Int)) (ty : TypeId) (w i : Int) (k : Nat) : lpStep T26 31 7 0 (lpc T26 31 7) again [vi w, lI cs, osW 0 os.length, osT 1 k, vi i] [some (rowL os ty), some (rowI out 3)] = (bif decide (i < (↑os.length : Int)) then bif decide (0 ≤ i) then bif decide (i < (↑os.length : Int)) then oM os[i.toNat]? fun x => bif decide (1 ≤ cs.length) && decide (cs.length ≤ 5) && Clm.odOK cs x && Clm.okC cs && decide (0 ≤ w) && decide (w ≤ 1000000) then bif decide (cs.length = k) && decide (os.length = os.length) && Clm.lenOK out k && Clm.lenOK (Clm.inOrd w cs x) k && Clm.bigOK out && Clm.bigOK (Clm.inOrd w cs x) && decide (k ≤ 5) then again [vi w, .sl (.int .i64) cs false, osW 0 os.length, .os 1 0 0 k true true true, vi (IntKind.i64.wrap (i + 1))] [some ⟨[.run (.ilist .i64) os], false, ty, false, false, none⟩, some ⟨[.run (.int .i64) (Clm.addL out (Clm.inOrd w cs x) k)], false, 3, false, false, none⟩] else none else none else none else none else some (.ext 0, [vi w, .sl (.int .i64) cs false, osW 0 os.length, .os 1 0 0 k true true true, vi i], [some ⟨[.run (.ilist .i64) os], false, ty, false, false, none⟩, some ⟨[.run (.int .i64) out], false, 3, false, false, none⟩])) := by kernel_rfl
def l31_7t (cs out : List Int) (os : List (List Int)) (ty : TypeId) (w : Int) (k z : Nat) : Tree (Out × List AV × Hp) := .br ((Clm.chk w cs == 0) && decide (k = cs.length) && decide (os = Clm.orders cs.length) && decide (z = os.length) && Clm.repOK out cs.length 0) (.leaf (.ext 0, [vi w, lI cs, osW 0 z, osT 1 k, vi z], [some (rowL os ty), some (rowI (Clm.totL w cs z) 3)])) .fail
def l31_7 (base : Nat) (kv : List AV) (H : Hp) : Tree (Out × List AV × Hp) := match Nat.beq base 0, kv, H with
  | true, [(.sc (.int .i64 w)), (.sl (.int .i64) cs false), (.os 0 0 0 z true false true), (.os 1 0 0 k true true true), (.sc (.int .i64 0))], [some ⟨[.run (.ilist .i64) os], false, ty, false, false, none⟩, some ⟨[.run (.int .i64) out], false, 3, false, false, none⟩] => l31_7t cs out os ty w k z
  | _, _, _ => .fail
theorem l31_7_ok {T : Tab} (hT : TabOK T) (hlo : loopOf T.fn 31 7 = some (lpc T 31 7)) (h : ∀ (cs out : List Int) (os : List (List Int)) (ty : TypeId) (w : Int) (k z : Nat) (r : Out × List AV × Hp), (l31_7t cs out os ty w k z).val = some r → ∃ mm, lpRun T 31 7 0 (lpc T 31 7) mm [vi w, lI cs, osW 0 z, osT 1 k, vi 0] [some (rowL os ty), some (rowI out 3)] = some r) : ∀ base kv H o kv' H', (l31_7 base kv H).val = some (o, kv', H') → LoopOK T 31 7 base kv H o kv' H' := by
  intro base kv H o kv' H' hv
  unfold l31_7 at hv
  split at hv
  · rename_i hb
    obtain rfl := Nat.eq_of_beq_eq_true hb
    exact loop_ok hT hlo (h _ _ _ _ _ _ _ _ hv)
  · cases hv
noncomputable def T27 : Tab := (T26).addLoop 31 7 l31_7
theorem nf31 (cs : List Int) (w : Int) : evBody T27 31 [vi w, lI cs] [] = (bif Clm.chk w cs != 0 then some (.tuple [osW 0 0, vi (Clm.chk w cs)], [some ⟨[.run (.int .i64) []], false, 0, false, false, none⟩]) else bif decide (1 ≤ (↑cs.length : Int)) && decide ((↑cs.length : Int) ≤ 5) && decide ((↑0 : Int) ≤ (↑cs.length : Int)) && decide ((↑cs.length : Int) - (↑0 : Int) < (↑6 : Int)) then bif decide ((↑0 : Int) = (↑cs.length : Int)) then bif decide ((↑cs.length : Int) = (↑cs.length : Int)) then bif room (↑cs.length : Int).toNat 8 then none else none else none else bif decide ((↑cs.length : Int) = (↑cs.length : Int)) then bif room (↑cs.length : Int).toNat 8 then bif Clm.chk w cs == 0 && decide ((↑cs.length : Int).toNat = cs.length) && decide (Clm.ordB (↑cs.length : Int) [] = Clm.orders cs.length) && decide ((Clm.ordB (↑cs.length : Int) []).length = (Clm.ordB (↑cs.length : Int) []).length) && Clm.repOK (List.replicate (↑cs.length : Int).toNat 0) cs.length 0 then bif Clm.lenOK (Clm.totL w cs (Clm.ordB (↑cs.length : Int) []).length) (↑cs.length : Int).toNat && decide ((Clm.ordB (↑cs.length : Int) []).length = (Clm.ordB (↑cs.length : Int) []).length) && decide (1 ≤ (Clm.ordB (↑cs.length : Int) []).length) && Clm.bigOK (Clm.totL w cs (Clm.ordB (↑cs.length : Int) []).length) && decide ((↑cs.length : Int).toNat ≤ 5) && decide ((Clm.ordB (↑cs.length : Int) []).length ≤ 100000) then some (.tuple [.os 0 0 0 (↑cs.length : Int).toNat true true true, vi 0], [some ⟨[.run (.int .i64) (Clm.tdL (Clm.totL w cs (Clm.ordB (↑cs.length : Int) []).length) (↑(Clm.ordB (↑cs.length : Int) []).length : Int))], false, 3, false, false, none⟩]) else none else none else none else none else none) := by kernel_rfl
def c31t (cs : List Int) (w : Int) : Tree (AV × Hp) := .br (Clm.chk w cs == 0) (.leaf (.tuple [osT 0 cs.length, vi 0], [some (rowI (Clm.avgV w cs) 3)])) (.leaf (.tuple [osW 0 0, vi (Clm.chk w cs)], [some (rowI [] 0)]))
def c31 (args : List AV) (H : Hp) : Tree (AV × Hp) := match args, H with
  | [(.sc (.int .i64 w)), (.sl (.int .i64) cs false)], [] => c31t cs w
  | _, _ => .fail
theorem c31_ok {T : Tab} (hT : TabOK T) (h : ∀ (cs : List Int) (w : Int) (r : AV × Hp), (c31t cs w).val = some r → evBody T 31 [vi w, lI cs] [] = some r) : ∀ args H v H', (c31 args H).val = some (v, H') → CallOK T 31 args H v H' := by
  intro args H v H' hv
  unfold c31 at hv
  split at hv
  · exact evBody_sound hT (h _ _ _ hv)
  · cases hv
noncomputable def T28 : Tab := (T27).addCall 31 c31
theorem nf4 (w a b : Int) (cs od : List Int) : evBody T28 4 [vi w, lI cs, lI od, vi a, vi b] [] = (bif decide ((↑cs.length : Int) > 60) then some (vb true, []) else bif decide ((↑od.length : Int) > 60) then some (vb true, []) else bif Clm.ordE w cs od == 0 then bif Clm.ordE w cs od == 0 then bif Clm.chk w cs == 0 then bif Clm.chk w cs == 0 then bif Clm.two1 w a b == Clm.two1 w a b then bif Clm.two2 w a b == Clm.two2 w a b then bif Clm.chk w [a, b] == Clm.chk w [a, b] then bif sm (Clm.ordV w cs od) then bif decide (Clm.ordV w cs od = Clm.ordV w cs od) then bif sm (Clm.avgV w cs) then bif decide (Clm.avgV w cs = Clm.avgV w cs) then some (vb true, []) else some (vb false, []) else none else some (vb false, []) else none else some (vb false, []) else some (vb false, []) else some (vb false, []) else bif Clm.two1 w a b == Clm.two1 w a b then bif Clm.two2 w a b == Clm.two2 w a b then bif Clm.chk w [a, b] == Clm.chk w [a, b] then bif sm (Clm.ordV w cs od) then bif decide (Clm.ordV w cs od = Clm.ordV w cs od) then bif sm (Clm.avgV w cs) then bif decide (Clm.avgV w cs = []) then bif 0 == Clm.chk w cs then some (vb true, []) else some (vb false, []) else some (vb false, []) else none else some (vb false, []) else none else some (vb false, []) else some (vb false, []) else some (vb false, []) else bif Clm.chk w cs == 0 then bif Clm.two1 w a b == Clm.two1 w a b then bif Clm.two2 w a b == Clm.two2 w a b then bif Clm.chk w [a, b] == Clm.chk w [a, b] then bif sm (Clm.ordV w cs od) then bif decide (Clm.ordV w cs od = Clm.ordV w cs od) then bif decide ([] = Clm.avgV w cs) then bif Clm.chk w cs == 0 then some (vb true, []) else some (vb false, []) else some (vb false, []) else some (vb false, []) else none else some (vb false, []) else some (vb false, []) else some (vb false, []) else bif Clm.two1 w a b == Clm.two1 w a b then bif Clm.two2 w a b == Clm.two2 w a b then bif Clm.chk w [a, b] == Clm.chk w [a, b] then bif sm (Clm.ordV w cs od) then bif decide (Clm.ordV w cs od = Clm.ordV w cs od) then bif Clm.chk w cs == Clm.chk w cs then some (vb true, []) else some (vb false, []) else some (vb false, []) else none else some (vb false, []) else some (vb false, []) else some (vb false, []) else bif Clm.chk w cs == 0 then bif Clm.chk w cs == 0 then bif Clm.two1 w a b == Clm.two1 w a b then bif Clm.two2 w a b == Clm.two2 w a b then bif Clm.chk w [a, b] == Clm.chk w [a, b] then bif sm (Clm.ordV w cs od) then bif decide (Clm.ordV w cs od = []) then bif 0 == Clm.ordE w cs od then bif sm (Clm.avgV w cs) then bif decide (Clm.avgV w cs = Clm.avgV w cs) then some (vb true, []) else some (vb false, []) else none else some (vb false, []) else some (vb false, []) else none else some (vb false, []) else some (vb false, []) else some (vb false, []) else bif Clm.two1 w a b == Clm.two1 w a b then bif Clm.two2 w a b == Clm.two2 w a b then bif Clm.chk w [a, b] == Clm.chk w [a, b] then bif sm (Clm.ordV w cs od) then bif decide (Clm.ordV w cs od = []) then bif 0 == Clm.ordE w cs od then bif sm (Clm.avgV w cs) then bif decide (Clm.avgV w cs = []) then bif 0 == Clm.chk w cs then some (vb true, []) else some (vb false, []) else some (vb false, []) else none else some (vb false, []) else some (vb false, []) else none else some (vb false, []) else some (vb false, []) else some (vb false, []) else bif Clm.chk w cs == 0 then bif Clm.two1 w a b == Clm.two1 w a b then bif Clm.two2 w a b == Clm.two2 w a b then bif Clm.chk w [a, b] == Clm.chk w [a, b] then bif sm (Clm.ordV w cs od) then bif decide (Clm.ordV w cs od = []) then bif 0 == Clm.ordE w cs od then bif decide ([] = Clm.avgV w cs) then bif Clm.chk w cs == 0 then some (vb true, []) else some (vb false, []) else some (vb false, []) else some (vb false, []) else some (vb false, []) else none else some (vb false, []) else some (vb false, []) else some (vb false, []) else bif Clm.two1 w a b == Clm.two1 w a b then bif Clm.two2 w a b == Clm.two2 w a b then bif Clm.chk w [a, b] == Clm.chk w [a, b] then bif sm (Clm.ordV w cs od) then bif decide (Clm.ordV w cs od = []) then bif 0 == Clm.ordE w cs od then bif Clm.chk w cs == Clm.chk w cs then some (vb true, []) else some (vb false, []) else some (vb false, []) else some (vb false, []) else none else some (vb false, []) else some (vb false, []) else some (vb false, []) else bif Clm.ordE w cs od == 0 then bif Clm.chk w cs == 0 then bif Clm.chk w cs == 0 then bif Clm.two1 w a b == Clm.two1 w a b then bif Clm.two2 w a b == Clm.two2 w a b then bif Clm.chk w [a, b] == Clm.chk w [a, b] then bif decide ([] = Clm.ordV w cs od) then bif Clm.ordE w cs od == 0 then bif sm (Clm.avgV w cs) then bif decide (Clm.avgV w cs = Clm.avgV w cs) then some (vb true, []) else some (vb false, []) else none else some (vb false, []) else some (vb false, []) else some (vb false, []) else some (vb false, []) else some (vb false, []) else bif Clm.two1 w a b == Clm.two1 w a b then bif Clm.two2 w a b == Clm.two2 w a b then bif Clm.chk w [a, b] == Clm.chk w [a, b] then bif decide ([] = Clm.ordV w cs od) then bif Clm.ordE w cs od == 0 then bif sm (Clm.avgV w cs) then bif decide (Clm.avgV w cs = []) then bif 0 == Clm.chk w cs then some (vb true, []) else some (vb false, []) else some (vb false, []) else none else some (vb false, []) else some (vb false, []) else some (vb false, []) else some (vb false, []) else some (vb false, []) else bif Clm.chk w cs == 0 then bif Clm.two1 w a b == Clm.two1 w a b then bif Clm.two2 w a b == Clm.two2 w a b then bif Clm.chk w [a, b] == Clm.chk w [a, b] then bif decide ([] = Clm.ordV w cs od) then bif Clm.ordE w cs od == 0 then bif decide ([] = Clm.avgV w cs) then bif Clm.chk w cs == 0 then some (vb true, []) else some (vb false, []) else some (vb false, []) else some (vb false, []) else some (vb false, []) else some (vb false, []) else some (vb false, []) else some (vb false, []) else bif Clm.two1 w a b == Clm.two1 w a b then bif Clm.two2 w a b == Clm.two2 w a b then bif Clm.chk w [a, b] == Clm.chk w [a, b] then bif decide ([] = Clm.ordV w cs od) then bif Clm.ordE w cs od == 0 then bif Clm.chk w cs == Clm.chk w cs then some (vb true, []) else some (vb false, []) else some (vb false, []) else some (vb false, []) else some (vb false, []) else some (vb false, []) else some (vb false, []) else bif Clm.chk w cs == 0 then bif Clm.chk w cs == 0 then bif Clm.two1 w a b == Clm.two1 w a b then bif Clm.two2 w a b == Clm.two2 w a b then bif Clm.chk w [a, b] == Clm.chk w [a, b] then bif Clm.ordE w cs od == Clm.ordE w cs od then bif sm (Clm.avgV w cs) then bif decide (Clm.avgV w cs = Clm.avgV w cs) then some (vb true, []) else some (vb false, []) else none else some (vb false, []) else some (vb false, []) else some (vb false, []) else some (vb false, []) else bif Clm.two1 w a b == Clm.two1 w a b then bif Clm.two2 w a b == Clm.two2 w a b then bif Clm.chk w [a, b] == Clm.chk w [a, b] then bif Clm.ordE w cs od == Clm.ordE w cs od then bif sm (Clm.avgV w cs) then bif decide (Clm.avgV w cs = []) then bif 0 == Clm.chk w cs then some (vb true, []) else some (vb false, []) else some (vb false, []) else none else some (vb false, []) else some (vb false, []) else some (vb false, []) else some (vb false, []) else bif Clm.chk w cs == 0 then bif Clm.two1 w a b == Clm.two1 w a b then bif Clm.two2 w a b == Clm.two2 w a b then bif Clm.chk w [a, b] == Clm.chk w [a, b] then bif Clm.ordE w cs od == Clm.ordE w cs od then bif decide ([] = Clm.avgV w cs) then bif Clm.chk w cs == 0 then some (vb true, []) else some (vb false, []) else some (vb false, []) else some (vb false, []) else some (vb false, []) else some (vb false, []) else some (vb false, []) else bif Clm.two1 w a b == Clm.two1 w a b then bif Clm.two2 w a b == Clm.two2 w a b then bif Clm.chk w [a, b] == Clm.chk w [a, b] then bif Clm.ordE w cs od == Clm.ordE w cs od then bif Clm.chk w cs == Clm.chk w cs then some (vb true, []) else some (vb false, []) else some (vb false, []) else some (vb false, []) else some (vb false, []) else some (vb false, [])) := by kernel_rfl
end Go.Ev.Clm
namespace Go.Ev.Clm
open Go Go.Ev
set_option maxRecDepth 1000000
set_option linter.unusedVariables false
set_option linter.unusedSimpArgs false
theorem sm_of {α : Type} {l : List α} {k : Nat} (h : l.length ≤ k) (hk : k ≤ 100000) : sm l = true := decide_eq_true (Nat.le_trans h hk)
theorem ordB_nat (n : Nat) (b : List Int) : Clm.ordB (n : Int) b = Clm.ordI n (n - b.length) b := by unfold Clm.ordB; rw [Int.toNat_natCast]
theorem l68_5_run (d : Nat) (hT : TabOK (O0 d)) : ∀ base kv H o kv' H', (l68_5 d base kv H).val = some (o, kv', H') → LoopOK (O0 d) 68 5 base kv H o kv' H' := l68_5_ok d hT (by kernel_rfl) (by
  intro n b r hv
  obtain ⟨hl, hv2⟩ := guard_val hv
  simp only [Bool.and_eq_true, decide_eq_true_eq] at hl
  obtain ⟨⟨⟨h1, h2⟩, h3⟩, h4⟩ := hl
  obtain ⟨n, rfl⟩ := Int.eq_ofNat_of_zero_le (show 0 ≤ n by omega)
  rw [ordB_nat, Int.toNat_natCast] at hv2
  obtain ⟨mm, hm⟩ := steps_of (T := O0 d) (fid := 68) (lid := 5) (base := 0) (c := lpc (O0 d) 68 5) n (fun i => [vi n, lI b, osW 0 (Clm.ordP n b i).length, vi (i : Nat)]) (fun i => [some (rowL (Clm.ordP n b i) (Clm.tyB b i))]) (.ext 0, [vi n, lI b, osW 0 (Clm.ordP n b n).length, vi n], [some (rowL (Clm.ordP n b n) (Clm.tyB b n))])
    (fun i hi again => by
      have hsm : sm b = true := sm_of (k := 5) (by omega) (by omega)
      have hc := Clm.ordP_count (n := n) (by omega) b (i + 1) (by omega)
      rw [nl68]
      simp only [dec_lt hi, cond_true, hsm]
      rw [Clm.ordP_succ] at hc ⊢
      rw [Clm.tyB_succ, wrap_succ (by omega)]
      cases hb : Clm.has b (i : Int) with
      | true => simp only [Bool.not_true, cond_false, cond_true, List.append_nil]
      | false =>
        rw [hb] at hc
        simp only [cond_false] at hc
        have e2 : ((b ++ [(i : Int)]).length : Int) = (b.length : Int) + 1 := by simp
        have e3 : (b ++ [(i : Int)]).length = b.length + 1 := by simp
        simp only [Bool.not_false, cond_true, cond_false, List.nil_append, e2, room_ok (show 0 + b.length ≤ 1000000 by omega) (show 8 ≤ 200 by omega), room_ok (show 0 + b.length + 1 ≤ 1000000 by omega) (show 8 ≤ 200 by omega)]
        rw [show (bif decide (0 < b.length) then true else ([] : List Int).isEmpty) = true by cases decide (0 < b.length) <;> rfl]
        simp only [cond_true, decide_eq_true h1, decide_eq_true h2, decide_eq_true (show (b.length : Int) + 1 ≤ (n : Int) by omega), decide_eq_true (show (n : Int) - ((b.length : Int) + 1) < (d : Int) by omega), Bool.and_self]
        rw [List.length_append] at hc
        cases he : decide ((b.length : Int) + 1 = (n : Int)) with
        | true =>
          have he := of_decide_eq_true he
          rw [show n - b.length - 1 = 0 by omega] at hc ⊢
          have e0 : Clm.ordI n 0 (b ++ [(i : Int)]) = [b ++ [(i : Int)]] := rfl
          rw [e0] at hc ⊢
          simp only [List.length_singleton] at hc
          simp only [cond_true, List.length_append, List.length_singleton]
          rw [room_ok (by omega) (by omega)]
          rfl
        | false =>
          rw [ordB_nat, e3, show n - (b.length + 1) = n - b.length - 1 by omega]
          simp only [cond_false, List.length_append]
          rw [room_ok (by omega) (by omega)]
          rfl)
    (fun again => by
      rw [nl68]
      simp only [dec_ll, cond_false])
  rw [Clm.ordP_all (by omega)] at hm
  exact ⟨mm, hm.trans (by rw [leaf_val hv2])⟩)
theorem c68_run (d : Nat) (hT : TabOK (O1 d)) : ∀ args H v H', (c68 (d + 1) args H).val = some (v, H') → CallOK (O1 d) 68 args H v H' := c68_ok (d + 1) hT (by
  intro n b r hv
  obtain ⟨hl, hv2⟩ := guard_val hv
  simp only [Bool.and_eq_true, decide_eq_true_eq] at hl
  obtain ⟨⟨⟨h1, h2⟩, h3⟩, h4⟩ := hl
  rw [nf68]
  rcases br_val hv2 with ⟨h, hv⟩ | ⟨h, hv⟩
  · have h := of_decide_eq_true h
    rw [leaf_val hv, cond_t (beq_iff_eq.2 h)]
  · have h := of_decide_eq_false h
    rw [leaf_val hv, cond_f (beq_eq_false_iff_ne.2 h)]
    simp only [decide_eq_true h1, decide_eq_true h2, decide_eq_true (show (b.length : Int) < n by omega), decide_eq_true (show n - (b.length : Int) ≤ (d : Int) by omega), Bool.and_self, cond_true])
theorem c68_zero : ∀ args H, (c68 0 args H).val = none := by
  intro args H
  cases hr : (c68 0 args H).val with
  | none => rfl
  | some r =>
    exfalso
    unfold c68 at hr
    split at hr
    · obtain ⟨hg, _⟩ := guard_val hr
      simp only [Bool.and_eq_true, decide_eq_true_eq] at hg
      omega
    · cases hr
theorem O0_ok : ∀ d, TabOK (O0 d)
  | 0 => T24_ok.addCall fun a H v H' hv => by rw [c68_zero] at hv; cases hv
  | d + 1 => by
    have h0 := O0_ok d
    have h1 : TabOK (O1 d) := h0.addLoop fun b k H o k' H' hv => by refine LoopOK.tab ?_ ?_ ?_ ?_ (l68_5_run d h0 b k H o k' H' hv) <;> rfl
    exact T24_ok.addCall fun a H v H' hv => by refine CallOK.tab ?_ ?_ (c68_run d h1 a H v H' hv) <;> rfl
theorem T25_ok : TabOK T25 := O0_ok 6
theorem big_get {l : List Int} (h : Clm.bigOK l = true) {i : Nat} (hi : i < l.length) : -1000000000000 ≤ l.getD i 0 ∧ l.getD i 0 ≤ 1000000000000 := by
  have := getD_of (l := l) hi
  unfold Clm.bigOK at h
  rw [List.all_eq_true] at h
  have h := h _ (List.mem_of_getElem? this)
  simp only [Bool.and_eq_true, decide_eq_true_eq] at h
  exact h
theorem addL_get {out e : List Int} {i : Nat} (hi : i < out.length) : (Clm.addL out e i)[i]? = some (out.getD i 0) := by
  unfold Clm.addL
  rw [Clm.map_get hi, blt_self]; rfl
theorem l31_11_run : ∀ base kv H o kv' H', (l31_11 base kv H).val = some (o, kv', H') → LoopOK T25 31 11 base kv H o kv' H' := l31_11_ok T25_ok (by kernel_rfl) (by
  intro cs out e os ty w i k q z r hv
  obtain ⟨hl, hv2⟩ := guard_val hv
  simp only [Bool.and_eq_true, decide_eq_true_eq] at hl
  obtain ⟨⟨⟨⟨⟨⟨rfl, rfl⟩, h2⟩, h3⟩, h4⟩, h5⟩, h6⟩ := hl
  have h2 : out.length = q := of_decide_eq_true h2
  have h3 : e.length = q := of_decide_eq_true h3
  obtain ⟨mm, hm⟩ := steps_of (T := T25) (fid := 31) (lid := 11) (base := 0) (c := lpc T25 31 11) q (fun j => [vi w, lI cs, osW 0 os.length, osT 1 q, vi i, osT 2 q, vi (j : Nat)]) (fun j => [some (rowL os ty), some (rowI (Clm.addL out e j) 3), some (rowI e 3)]) (.ext 2, [vi w, lI cs, osW 0 os.length, osT 1 q, vi i, osT 2 q, vi q], [some (rowL os ty), some (rowI (Clm.addL out e q) 3), some (rowI e 3)])
    (fun j hj again => by
      have g1 := addL_get (out := out) (e := e) (i := j) (by omega)
      have g2 := getD_of (l := e) (i := j) (by omega)
      have b1 := big_get h4 (i := j) (by omega)
      have b2 := big_get h5 (i := j) (by omega)
      rw [nl31_11]
      simp only [dec_lt hj, dec_ge, cond_true, toNat_cast, g1, g2, oM]
      rw [wrap_succ (by omega), wrapi (by omega) (by omega), Clm.add_next])
    (fun again => by
      rw [nl31_11]
      simp only [dec_ll, cond_false])
  rw [Clm.add_zero] at hm
  exact ⟨mm, hm.trans (by rw [leaf_val hv2])⟩)
theorem tdL_next {out : List Int} {m : Int} {i : Nat} (h : i < out.length) : (Clm.tdL (out.take i) m ++ out.drop i).set i ((out.getD i 0).tdiv m) = Clm.tdL (out.take (i + 1)) m ++ out.drop (i + 1) := by
  have hq : (Clm.tdL (out.take i) m).length = i := by simp [Clm.tdL]; omega
  rw [List.set_append_right _ _ (by omega), hq, Nat.sub_self]
  unfold Clm.tdL
  rw [Clm.map_take _ (getD_of h), List.drop_eq_getElem_cons h, List.append_assoc]
  rfl
theorem tdiv_in {x m : Int} (h1 : -1000000000000 ≤ x) (h2 : x ≤ 1000000000000) (hm : 1 ≤ m) : -1000000000000 ≤ x.tdiv m ∧ x.tdiv m ≤ 1000000000000 := by
  have a := Int.natAbs_tdiv_le_natAbs x m
  omega
theorem l31_15_run : ∀ base kv H o kv' H', (l31_15 base kv H).val = some (o, kv', H') → LoopOK T25 31 15 base kv H o kv' H' := l31_15_ok T25_ok (by kernel_rfl) (by
  intro out os ty k z r hv
  obtain ⟨hl, hv2⟩ := guard_val hv
  simp only [Bool.and_eq_true, decide_eq_true_eq] at hl
  obtain ⟨⟨⟨⟨⟨h1, rfl⟩, h3⟩, h4⟩, h5⟩, h6⟩ := hl
  have h1 : out.length = k := of_decide_eq_true h1
  obtain ⟨mm, hm⟩ := steps_of (T := T25) (fid := 31) (lid := 15) (base := 0) (c := lpc T25 31 15) k (fun j => [osW 0 os.length, osT 1 k, vi (j : Nat)]) (fun j => [some (rowL os ty), some (rowI (Clm.tdL (out.take j) os.length ++ out.drop j) 3)]) (.ext 4, [osW 0 os.length, osT 1 k, vi k], [some (rowL os ty), some (rowI (Clm.tdL out os.length) 3)])
    (fun j hj again => by
      have g2 := getD_of (l := out) (i := j) (by omega)
      have b1 := big_get h4 (i := j) (by omega)
      have g1 : (Clm.tdL (out.take j) os.length ++ out.drop j)[j]? = some (out.getD j 0) := by
        have hq : (Clm.tdL (out.take j) (os.length : Int)).length = j := by simp [Clm.tdL]; omega
        rw [List.getElem?_append_right (by omega), hq, Nat.sub_self, List.getElem?_drop]
        exact g2
      have b2 := tdiv_in (m := (os.length : Int)) b1.1 b1.2 (by omega)
      rw [nl31_15]
      simp only [dec_lt hj, dec_ge, cond_true, toNat_cast, g1, oM, decide_eq_false (show ¬ (os.length : Int) = 0 by omega), Bool.not_false]
      rw [wrap_succ (by omega), wrapi (by omega) (by omega), tdL_next (by omega)])
    (fun again => by
      rw [nl31_15]
      simp only [dec_ll, cond_false]
      rw [List.take_of_length_le (by omega), List.drop_of_length_le (by omega), List.append_nil])
  rw [show Clm.tdL (out.take 0) os.length ++ out.drop 0 = out from rfl] at hm
  exact ⟨mm, hm.trans (by rw [leaf_val hv2])⟩)
theorem T26_ok : TabOK T26 := by
  have h := T25_ok
  have h := h.addLoop (g := 31) (lid := 11) (r := l31_11) fun b k H o k' H' hv => by refine LoopOK.tab ?_ ?_ ?_ ?_ (l31_11_run b k H o k' H' hv) <;> rfl
  have h := h.addLoop (g := 31) (lid := 15) (r := l31_15) fun b k H o k' H' hv => by refine LoopOK.tab ?_ ?_ ?_ ?_ (l31_15_run b k H o k' H' hv) <;> rfl
  exact h
theorem tot_big {w : Int} {cs : List Int} (h : Clm.OkW w cs) (j : Nat) : Clm.bigOK (Clm.totL w cs j) = true := by
  unfold Clm.bigOK Clm.totL
  rw [List.all_eq_true]
  intro x hx
  obtain ⟨k, hk, rfl⟩ := List.mem_map.1 hx
  have := Clm.tot_in h (List.mem_range.1 hk) j
  simp only [Bool.and_eq_true, decide_eq_true_eq]
  omega
theorem tot_len (w : Int) (cs : List Int) (j : Nat) : Clm.lenOK (Clm.totL w cs j) cs.length = true := decide_eq_true (by simp [Clm.totL])
theorem inOrd_len (w : Int) (cs o : List Int) : (Clm.inOrd w cs o).length = cs.length := by
  unfold Clm.inOrd
  have : ∀ (l : List Int) (s : List Int × Int), (l.foldl (Clm.inStep cs) s).1.length = s.1.length := by
    intro l
    induction l with
    | nil => intro s; rfl
    | cons x l ih => intro s; rw [List.foldl_cons, ih]; simp [Clm.inStep]
  rw [this]
  simp
theorem tot_zero (w : Int) (cs : List Int) : Clm.totL w cs 0 = List.replicate cs.length 0 := by
  unfold Clm.totL
  refine List.ext_getElem (by simp) fun i h1 h2 => ?_
  rw [List.getElem_map, List.getElem_replicate]
  rfl
theorem orders_od {cs o : List Int} (h : cs.length ≤ 5) (ho : o ∈ Clm.orders cs.length) : Clm.odOK cs o = true := by
  have hp := Clm.orders_perm h ho
  have hl : o.length = cs.length := by rw [hp.length_eq]; simp
  unfold Clm.odOK
  rw [decide_eq_true (by omega), Bool.true_and, List.all_eq_true]
  intro x hx
  obtain ⟨y, hy, rfl⟩ := List.mem_map.1 (hp.mem_iff.1 hx)
  have := List.mem_range.1 hy
  rw [Clm.inR_iff]
  simp only [Int.ofNat_eq_natCast]
  omega
theorem inOrd_big {w : Int} {cs o : List Int} (ok : Clm.OkW w cs) (ho : o ∈ Clm.orders cs.length) : Clm.bigOK (Clm.inOrd w cs o) = true := by
  unfold Clm.bigOK
  rw [List.all_eq_true]
  intro x hx
  obtain ⟨k, hk⟩ := List.getElem?_of_mem hx
  have hkl : k < cs.length := by
    have := (List.getElem?_eq_some_iff.1 hk).1
    rwa [inOrd_len] at this
  have e : x = (Clm.inOrd w cs o).getD k 0 := by rw [List.getD_eq_getElem?_getD, hk]; rfl
  have r := ok.rg hkl
  have v := Clm.val_in (w := w) ok.nn (Clm.sumAt cs (Clm.pre o k)) k
  rw [e, Clm.inOrd_get ok.lo ok.nn hkl (Clm.orders_perm ok.len ho)]
  simp only [Bool.and_eq_true, decide_eq_true_eq]
  omega
theorem l31_7_run : ∀ base kv H o kv' H', (l31_7 base kv H).val = some (o, kv', H') → LoopOK T26 31 7 base kv H o kv' H' := l31_7_ok T26_ok (by kernel_rfl) (by
  intro cs out os ty w k z r hv
  obtain ⟨hl, hv2⟩ := guard_val hv
  simp only [Bool.and_eq_true, decide_eq_true_eq] at hl
  obtain ⟨⟨⟨⟨h1, rfl⟩, rfl⟩, rfl⟩, h5⟩ := hl
  obtain rfl := of_decide_eq_true h5
  have ok := Clm.ok_of (beq_iff_eq.1 h1)
  have hn := ok.len
  have hne : 1 ≤ cs.length := by have := ok.ne; cases cs with | nil => exact absurd rfl this | cons _ _ => simp
  have hlo := ok.lo
  have hhi := ok.hi
  have hsum := ok.sum
  have ho := Clm.orders_len hn
  have hf := Clm.fac_le hn
  obtain ⟨mm, hm⟩ := steps_of (T := T26) (fid := 31) (lid := 7) (base := 0) (c := lpc T26 31 7) (Clm.orders cs.length).length (fun i => [vi w, lI cs, osW 0 (Clm.orders cs.length).length, osT 1 cs.length, vi (i : Nat)]) (fun i => [some (rowL (Clm.orders cs.length) ty), some (rowI (Clm.totL w cs i) 3)]) (.ext 0, [vi w, lI cs, osW 0 (Clm.orders cs.length).length, osT 1 cs.length, vi (Clm.orders cs.length).length], [some (rowL (Clm.orders cs.length) ty), some (rowI (Clm.totL w cs (Clm.orders cs.length).length) 3)])
    (fun i hi again => by
      have g := List.getElem?_eq_getElem hi
      generalize he : (Clm.orders cs.length)[i] = o at g
      have hmem : o ∈ Clm.orders cs.length := List.mem_of_getElem? g
      rw [nl31_7]
      simp only [dec_lt hi, dec_ge, cond_true, toNat_cast, g, oM]
      simp only [decide_eq_true hne, decide_eq_true hn, orders_od hn hmem, okC_ok ok, decide_eq_true (show 0 ≤ w by omega), decide_eq_true (show w ≤ 1000000 by omega), Bool.and_self, cond_true, tot_len, tot_big ok, inOrd_big ok hmem, show Clm.lenOK (Clm.inOrd w cs o) cs.length = true from decide_eq_true (inOrd_len w cs o), decide_true]
      rw [wrap_succ (by omega), Clm.totL_add g])
    (fun again => by
      rw [nl31_7]
      simp only [dec_ll, cond_false])
  rw [tot_zero] at hm
  exact ⟨mm, hm.trans (by rw [leaf_val hv2])⟩)
theorem T27_ok : TabOK T27 := by
  have h := T26_ok
  have h := h.addLoop (g := 31) (lid := 7) (r := l31_7) fun b k H o k' H' hv => by refine LoopOK.tab ?_ ?_ ?_ ?_ (l31_7_run b k H o k' H' hv) <;> rfl
  exact h
theorem c31_run : ∀ args H v H', (c31 args H).val = some (v, H') → CallOK T27 31 args H v H' := c31_ok T27_ok (by
  intro cs w r hv
  rcases br_val hv with ⟨hc, hv2⟩ | ⟨hc, hv2⟩
  · have ok := Clm.ok_of (beq_iff_eq.1 hc)
    have hn := ok.len
    have hne : 1 ≤ cs.length := by have := ok.ne; cases cs with | nil => exact absurd rfl this | cons _ _ => simp
    have ho := Clm.orders_len hn
    have hf := Clm.fac_le hn
    have hV : Clm.avgV w cs = Clm.avgL w cs := (Clm.avg_div ok).2
    have hB : Clm.ordB (cs.length : Int) [] = Clm.orders cs.length := by rw [ordB_nat]; rfl
    rw [leaf_val hv2, nf31, cond_f (chk_n hc), Int.toNat_natCast, hB, Clm.tot_all ok, hV]
    refine (cond_t ?_).trans ?_
    · simp
      omega
    refine (cond_f (decide_eq_false ?_)).trans ?_
    · show ¬ (((0 : Nat) : Int) = _)
      omega
    rw [cond_t (by simp), cond_t (room_ok (by omega) (by omega)), cond_t (by
      rw [hc, show Clm.repOK (List.replicate cs.length 0) cs.length 0 = true from decide_eq_true rfl]
      simp), cond_t (by
      rw [tot_len, tot_big ok, decide_eq_true hn, decide_eq_true (show 1 ≤ (Clm.orders cs.length).length by omega), decide_eq_true (show (Clm.orders cs.length).length ≤ 100000 by omega)]
      simp)]
  · rw [leaf_val hv2, nf31, cond_t (chk_t hc)])
theorem T28_ok : TabOK T28 := by
  have h := T27_ok
  have h := h.addCall (g := 31) (r := c31) fun a H v H' hv => by refine CallOK.tab ?_ ?_ (c31_run a H v H' hv) <;> rfl
  exact h
theorem orders_body (w : Int) (cs od : List Int) (a b : Int) : evBody T28 4 [vi w, lI cs, lI od, vi a, vi b] [] = some (vb true, []) := by
  rw [nf4]
  have hE : (Clm.ordE w cs od == 0) = true → (Clm.chk w cs == 0) = true := fun h => by
    cases hc : Clm.chk w cs == 0 with
    | true => rfl
    | false =>
      unfold Clm.ordE at h
      rw [hc] at h
      simp only [cond_false] at h
      rw [hc] at h; cases h
  cases hc : Clm.chk w cs == 0 with
  | true =>
    have ok := Clm.ok_of (beq_iff_eq.1 hc)
    have hn := ok.len
    have s1 : sm (Clm.avgV w cs) = true := sm_of (k := 5) (by rw [(Clm.avg_div ok).2]; simp [Clm.avgL]; omega) (by omega)
    cases he : Clm.ordE w cs od == 0 with
    | true =>
      have s2 : sm (Clm.ordV w cs od) = true := sm_of (k := 5) (by unfold Clm.ordV; rw [he]; simp only [cond_true]; rw [inOrd_len]; omega) (by omega)
      simp only [cond_true, s1, s2, decide_true, beq_self_eq_true]
      cases decide ((cs.length : Int) > 60) <;> cases decide ((od.length : Int) > 60) <;> rfl
    | false =>
      have e1 : Clm.ordV w cs od = [] := by unfold Clm.ordV; rw [he]; rfl
      simp only [cond_true, cond_false, s1, e1, decide_true, beq_self_eq_true]
      cases decide ((cs.length : Int) > 60) <;> cases decide ((od.length : Int) > 60) <;> rfl
  | false =>
    have he : (Clm.ordE w cs od == 0) = false := by
      cases h : Clm.ordE w cs od == 0 with
      | false => rfl
      | true => rw [hE h] at hc; cases hc
    have e1 : Clm.ordV w cs od = [] := by unfold Clm.ordV; rw [he]; rfl
    have e2 : Clm.avgV w cs = [] := by unfold Clm.avgV; rw [hc]; rfl
    simp only [cond_false, e1, e2, he, decide_true, beq_self_eq_true, cond_true]
    cases decide ((cs.length : Int) > 60) <;> cases decide ((od.length : Int) > 60) <;> rfl
end Go.Ev.Clm
