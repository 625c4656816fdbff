/- The search of the burn chapter: what is asked. -/
import Derived.Test.YtpieoljeikpemaaDoorSf
import Derived.Test.YtpieoljeikpemaaDoorSp
set_option linter.unusedVariables false
set_option linter.unusedSimpArgs false
namespace Go.Ev.Burn
open Go Go.Ev
set_option maxRecDepth 1000000
set_option linter.unusedVariables false
theorem nf97 (size kind n : Int) (g : List Int) : evBody (S17 10) 97 [ps 0, vi size, vi kind] [some (rG n g)] = (bif decide (1 ≤ size) && decide (size < (↑10 : Int)) && decide (size ≤ 9) && decide (1 ≤ n) && decide (n ≤ 9) && decide (g.length = 81) && Brn.capOK 0 size then bif (Brn.putS n.toNat g (Brn.allN n) (kind == 2) size.toNat [] 0 0 []).snd.snd.isEmpty then some (.tuple [osW 1 0, .sc (.int .i64 (Brn.putS n.toNat g (Brn.allN n) (kind == 2) size.toNat [] 0 0 []).snd.fst)], [some ⟨[vi n, .run (.int .u64) g], true, 111, false, false, none⟩, some ⟨[.run (.int .i64) []], false, 0, false, false, none⟩]) else some (.tuple [.os 1 0 0 (Brn.putS n.toNat g (Brn.allN n) (kind == 2) size.toNat [] 0 0 []).snd.snd.length true false true, .sc (.int .i64 (Brn.putS n.toNat g (Brn.allN n) (kind == 2) size.toNat [] 0 0 []).snd.fst)], [some ⟨[vi n, .run (.int .u64) g], true, 111, false, false, none⟩, some ⟨[.run (.int .i64) (Brn.putS n.toNat g (Brn.allN n) (kind == 2) size.toNat [] 0 0 []).snd.snd], false, 3, false, false, none⟩]) else none) := by kernel_rfl
def c97t (size kind n : Int) (g : List Int) : Tree (AV × Hp) := .br (decide (1 ≤ size) && decide (size ≤ 9) && decide (1 ≤ n) && decide (n ≤ 9) && decide (g.length = 81)) (.leaf (.tuple [osW 1 (Brn.srch n g (kind == 2) size).2.length, vi (Brn.srch n g (kind == 2) size).1], [some (rG n g), some (rI (Brn.srch n g (kind == 2) size).2)])) .fail
def c97 (args : List AV) (H : Hp) : Tree (AV × Hp) := match args, H with
  | [(.ps 0 0 0 0), (.sc (.int .i64 size)), (.sc (.int .i64 kind))], [some ⟨[.sc (.int .i64 n), .run (.int .u64) g], true, 111, false, false, none⟩] => c97t size kind n g
  | _, _ => .fail
theorem c97_ok {T : Tab} (hT : TabOK T) (h : ∀ (size kind n : Int) (g : List Int) (r : AV × Hp), (c97t size kind n g).val = some r → evBody T 97 [ps 0, vi size, vi kind] [some (rG n g)] = some r) : ∀ args H v H', (c97 args H).val = some (v, H') → CallOK T 97 args H v H' := by
  intro args H v H' hv
  unfold c97 at hv
  split at hv
  · exact evBody_sound hT (h _ _ _ _ _ hv)
  · cases hv
noncomputable def S19 : Tab := (S17 10).addCall 97 c97
theorem nl78 (again : Ag) (kind size n : Int) (g : List Int) : lpStep S19 78 6 0 (lpc S19 78 6) again [vi kind, osW 0 0, vi 0, vi 0, ps 1, vi size] [some (rowI [] 0), some (rG n g)] = (bif decide (1 ≤ size) && decide (size ≤ 9) && decide (1 ≤ n) && decide (n ≤ 9) && decide (g.length = 81) then bif decide ((Brn.srch n g (kind == 2) size).fst > 0) then bif kind == 0 then some (.ret, [vi kind, .os 0 0 0 (Brn.srch n g (kind == 2) size).snd.length true false true, vi size, vi 0, .ps 1 0 0 0, vi size], [some { c := [.run (.int .i64) (Brn.srch n g (kind == 2) size).snd], vr := false, ty := Burn.tyI (Brn.srch n g (kind == 2) size).snd, fz := false, loose := false : Row }, some ⟨[vi n, .run (.int .u64) g], true, 111, false, false, none⟩]) else some (.ret, [vi kind, .os 0 0 0 (Brn.srch n g (kind == 2) size).snd.length true false true, .sc (.int .i64 (Brn.srch n g (kind == 2) size).fst), vi 0, .ps 1 0 0 0, vi size], [some { c := [.run (.int .i64) (Brn.srch n g (kind == 2) size).snd], vr := false, ty := Burn.tyI (Brn.srch n g (kind == 2) size).snd, fz := false, loose := false : Row }, some ⟨[vi n, .run (.int .u64) g], true, 111, false, false, none⟩]) else again [vi kind, osW 0 0, vi 0, vi 0, .ps 1 0 0 0, vi (IntKind.i64.wrap (size + 1))] [some ⟨[.run (.int .i64) []], false, 0, false, false, none⟩, some ⟨[vi n, .run (.int .u64) g], true, 111, false, false, none⟩] else none) := by kernel_rfl
def c98t (d : Nat) (n : Int) (ws : Ws) (fs : List Int) (m : Int) : Tree (AV × Hp) := .br (sm ws && decide (1 ≤ n) && decide (n ≤ 9) && decide (0 ≤ m) && decide (m < (d : Int)) && decide (m + fs.length ≤ 9) && decide (1 ≤ m + fs.length)) (.br (m == 0) (.br (Brn.enB n ws fs) (.leaf (.sl (.ilist .i64) [fs] true, [])) (.leaf (osW 0 0, [some (rowL [] 0)]))) (.leaf (osW 0 (Brn.solsF n ws m fs).length, [some (rowL (Brn.solsF n ws m fs) 25)]))) .fail
def c98 (d : Nat) (args : List AV) (H : Hp) : Tree (AV × Hp) := match args, H with
  | [(.agg [.sc (.int .i64 n), .sl (.pair .i64) ws false] false), (.sl (.int .i64) fs false), (.sc (.int .i64 m))], [] => c98t d n ws fs m
  | _, _ => .fail
theorem c98_ok (d : Nat) {T : Tab} (hT : TabOK T) (h : ∀ (n : Int) (ws : Ws) (fs : List Int) (m : Int) (r : AV × Hp), (c98t d n ws fs m).val = some r → evBody T 98 [aH n ws, lI fs, vi m] [] = some r) : ∀ args H v H', (c98 d args H).val = some (v, H') → CallOK T 98 args H v H' := by
  intro args H v H' hv
  unfold c98 at hv
  split at hv
  · exact evBody_sound hT (h _ _ _ _ _ hv)
  · cases hv
noncomputable def R0 (d : Nat) : Tab := S19.addCall 98 (c98 d)
theorem nl98 (d : Nat) (again : Ag) (n : Int) (ws : Ws) (fs : List Int) (m : Int) (out : List (List Int)) (k : Nat) (ty : TypeId) (p : Int) : lpStep (R0 d) 98 7 0 (lpc (R0 d) 98 7) again [lI fs, vi m, ps 0, osW 1 k, vi p] [some (rH n ws 28), some (rowL out ty)] = (bif decide (p < n) then bif bif decide (0 < fs.length) then true else ([] : List Int).isEmpty then bif room (0 + fs.length) 8 then bif room (0 + fs.length + 1) 8 then bif sm ws && decide (1 ≤ n) && decide (n ≤ 9) && decide (0 ≤ IntKind.i64.wrap (m - 1)) && decide (IntKind.i64.wrap (m - 1) < (↑d : Int)) && decide (IntKind.i64.wrap (m - 1) + (↑([] ++ fs ++ [p]).length : Int) ≤ 9) && decide (1 ≤ IntKind.i64.wrap (m - 1) + (↑([] ++ fs ++ [p]).length : Int)) then bif IntKind.i64.wrap (m - 1) == 0 then bif Brn.enB n ws ([] ++ fs ++ [p]) then bif room (k + 1) 24 then again [.sl (.int .i64) fs false, vi m, .ps 0 0 0 0, osW 1 (k + 1), vi (IntKind.i64.wrap (p + 1))] [some ⟨[vi n, .sl (.pair .i64) ws false], true, 28, false, false, none⟩, some ⟨[.run (.ilist .i64) (out ++ [[] ++ fs ++ [p]])], false, 25, false, false, none⟩] else none else bif room (k + 0) 24 then again [.sl (.int .i64) fs false, vi m, .ps 0 0 0 0, osW 1 (k + 0), vi (IntKind.i64.wrap (p + 1))] [some ⟨[vi n, .sl (.pair .i64) ws false], true, 28, false, false, none⟩, some ⟨[.run (.ilist .i64) (out ++ [])], false, 25, false, false, none⟩] else none else bif room (k + (Brn.solsF n ws (IntKind.i64.wrap (m - 1)) ([] ++ fs ++ [p])).length) 24 then again [.sl (.int .i64) fs false, vi m, .ps 0 0 0 0, osW 1 (k + (Brn.solsF n ws (IntKind.i64.wrap (m - 1)) ([] ++ fs ++ [p])).length), vi (IntKind.i64.wrap (p + 1))] [some ⟨[vi n, .sl (.pair .i64) ws false], true, 28, false, false, none⟩, some ⟨[.run (.ilist .i64) (out ++ Brn.solsF n ws (IntKind.i64.wrap (m - 1)) ([] ++ fs ++ [p]))], false, 25, false, false, none⟩] else none else none else none else none else none else some (.ext 0, [.sl (.int .i64) fs false, vi m, .ps 0 0 0 0, osW 1 k, vi p], [some ⟨[vi n, .sl (.pair .i64) ws false], true, 28, false, false, none⟩, some ⟨[.run (.ilist .i64) out], false, ty, false, false, none⟩])) := by kernel_rfl
def l98_7t (d : Nat) (n : Int) (ws : Ws) (fs : List Int) (m : Int) : Tree (Out × List AV × Hp) := .br (sm ws && decide (1 ≤ n) && decide (n ≤ 9) && decide (1 ≤ m) && decide (m ≤ (d : Int)) && decide (m + fs.length ≤ 9)) (.leaf (.ext 0, [lI fs, vi m, ps 0, osW 1 (Brn.solsF n ws m fs).length, vi n], [some (rH n ws 28), some (rowL (Brn.solsF n ws m fs) 25)])) .fail
def l98_7 (d : Nat) (base : Nat) (kv : List AV) (H : Hp) : Tree (Out × List AV × Hp) := match Nat.beq base 0, kv, H with
  | true, [(.sl (.int .i64) fs false), (.sc (.int .i64 m)), (.ps 0 0 0 0), (.os 1 0 0 0 true false true), (.sc (.int .i64 0))], [some ⟨[.sc (.int .i64 n), .sl (.pair .i64) ws false], true, 28, false, false, none⟩, some ⟨[.run (.ilist .i64) []], false, 0, false, false, none⟩] => l98_7t d n ws fs m
  | _, _, _ => .fail
theorem l98_7_ok (d : Nat) {T : Tab} (hT : TabOK T) (hlo : loopOf T.fn 98 7 = some (lpc T 98 7)) (h : ∀ (n : Int) (ws : Ws) (fs : List Int) (m : Int) (r : Out × List AV × Hp), (l98_7t d n ws fs m).val = some r → ∃ mm, lpRun T 98 7 0 (lpc T 98 7) mm [lI fs, vi m, ps 0, osW 1 0, vi 0] [some (rH n ws 28), some (rowL [] 0)] = some r) : ∀ base kv H o kv' H', (l98_7 d base kv H).val = some (o, kv', H') → LoopOK T 98 7 base kv H o kv' H' := by
  intro base kv H o kv' H' hv
  unfold l98_7 at hv
  split at hv
  · rename_i hb
    obtain rfl := Nat.eq_of_beq_eq_true hb
    exact loop_ok hT hlo (h _ _ _ _ _ hv)
  · cases hv
noncomputable def R1 (d : Nat) : Tab := (R0 d).addLoop 98 7 (l98_7 d)
theorem nf98 (d : Nat) (n : Int) (ws : Ws) (fs : List Int) (m : Int) : evBody (R1 d) 98 [aH n ws, lI fs, vi m] [] = (bif m == 0 then bif sm ws && sm fs && decide (1 ≤ n) && decide (n ≤ 100) && decide (0 < fs.length) then bif decide ((↑(List.foldl (Brn.dayNext n ws) [] fs).length : Int) = n) then some (.sl (.ilist .i64) [fs] true, []) else some (osW 0 0, [some ⟨[.run (.ilist .i64) []], false, 0, false, false, none⟩]) else none else bif sm ws && decide (1 ≤ n) && decide (n ≤ 9) && decide (1 ≤ m) && decide (m ≤ (↑d : Int)) && decide (m + (↑fs.length : Int) ≤ 9) then some (.os 0 0 0 (Brn.solsF n ws m fs).length true false true, [some ⟨[.run (.ilist .i64) (Brn.solsF n ws m fs)], false, 25, false, false, none⟩]) else none) := by kernel_rfl
def l78_6t (kind n : Int) (g : List Int) : Tree (Out × List AV × Hp) := .br (decide (1 ≤ n) && decide (n ≤ 9) && decide (g.length = 81) && decide (Brn.dayN n g (kind == 2) < 9)) (.leaf (.ret, [vi kind, osW 0 (Brn.srch n g (kind == 2) (Brn.dayP n g (kind == 2))).2.length, vi (Brn.askC n g kind), vi 0, ps 1, vi (Brn.dayP n g (kind == 2))], [some (rI (Brn.srch n g (kind == 2) (Brn.dayP n g (kind == 2))).2), some (rG n g)])) .fail
def l78_6 (base : Nat) (kv : List AV) (H : Hp) : Tree (Out × List AV × Hp) := match Nat.beq base 0, kv, H with
  | true, [(.sc (.int .i64 kind)), (.os 0 0 0 0 true false true), (.sc (.int .i64 0)), (.sc (.int .i64 0)), (.ps 1 0 0 0), (.sc (.int .i64 1))], [some ⟨[.run (.int .i64) []], false, 0, false, false, none⟩, some ⟨[.sc (.int .i64 n), .run (.int .u64) g], true, 111, false, false, none⟩] => l78_6t kind n g
  | _, _, _ => .fail
theorem l78_6_ok {T : Tab} (hT : TabOK T) (hlo : loopOf T.fn 78 6 = some (lpc T 78 6)) (h : ∀ (kind n : Int) (g : List Int) (r : Out × List AV × Hp), (l78_6t kind n g).val = some r → ∃ mm, lpRun T 78 6 0 (lpc T 78 6) mm [vi kind, osW 0 0, vi 0, vi 0, ps 1, vi 1] [some (rowI [] 0), some (rG n g)] = some r) : ∀ base kv H o kv' H', (l78_6 base kv H).val = some (o, kv', H') → LoopOK T 78 6 base kv H o kv' H' := by
  intro base kv H o kv' H' hv
  unfold l78_6 at hv
  split at hv
  · rename_i hb
    obtain rfl := Nat.eq_of_beq_eq_true hb
    exact loop_ok hT hlo (h _ _ _ _ hv)
  · cases hv
def l79_3t (n : Int) (ws : Ws) (L : List (List Int)) (k : Nat) : Tree (Out × List AV × Hp) := .br (sm ws && decide (1 ≤ n) && decide (n ≤ 9) && decide (k = L.length) && decide (L = Brn.sols n ws 1) && decide (Brn.dd n ws ≤ 9)) (.leaf (.ext 0, [ps 0, vi (Brn.dd n ws : Nat), osW 1 (Brn.best n ws).length], [some (rH n ws 28), some (rowL (Brn.best n ws) 25)])) .fail
def l79_3 (base : Nat) (kv : List AV) (H : Hp) : Tree (Out × List AV × Hp) := match Nat.beq base 0, kv, H with
  | true, [(.ps 0 0 0 0), (.sc (.int .i64 1)), (.os 1 0 0 k true false true)], [some ⟨[.sc (.int .i64 n), .sl (.pair .i64) ws false], true, 28, false, false, none⟩, some ⟨[.run (.ilist .i64) L], false, 25, false, false, none⟩] => l79_3t n ws L k
  | _, _, _ => .fail
theorem l79_3_ok {T : Tab} (hT : TabOK T) (hlo : loopOf T.fn 79 3 = some (lpc T 79 3)) (h : ∀ (n : Int) (ws : Ws) (L : List (List Int)) (k : Nat) (r : Out × List AV × Hp), (l79_3t n ws L k).val = some r → ∃ mm, lpRun T 79 3 0 (lpc T 79 3) mm [ps 0, vi 1, osW 1 k] [some (rH n ws 28), some (rowL L 25)] = some r) : ∀ base kv H o kv' H', (l79_3 base kv H).val = some (o, kv', H') → LoopOK T 79 3 base kv H o kv' H' := by
  intro base kv H o kv' H' hv
  unfold l79_3 at hv
  split at hv
  · rename_i hb
    obtain rfl := Nat.eq_of_beq_eq_true hb
    exact loop_ok hT hlo (h _ _ _ _ _ hv)
  · cases hv
theorem nl79 (again : Ag) (n : Int) (ws : Ws) (L : List (List Int)) (k : Nat) (m : Int) : lpStep (R0 10) 79 3 0 (lpc (R0 10) 79 3) again [ps 0, vi m, osW 1 k] [some (rH n ws 28), some (rowL L 25)] = (bif (↑k : Int) == 0 then bif sm ws && decide (1 ≤ n) && decide (n ≤ 9) && decide (0 ≤ IntKind.i64.wrap (m + 1)) && decide (IntKind.i64.wrap (m + 1) < (↑10 : Int)) && decide (IntKind.i64.wrap (m + 1) + (↑0 : Int) ≤ 9) && decide (1 ≤ IntKind.i64.wrap (m + 1) + (↑0 : Int)) then bif IntKind.i64.wrap (m + 1) == 0 then bif Brn.enB n ws [] then again [.ps 0 0 0 0, vi (IntKind.i64.wrap (m + 1)), .sl (.ilist .i64) [[]] true] [some ⟨[vi n, .sl (.pair .i64) ws false], true, 28, false, false, none⟩] else again [.ps 0 0 0 0, vi (IntKind.i64.wrap (m + 1)), osW 1 0] [some ⟨[vi n, .sl (.pair .i64) ws false], true, 28, false, false, none⟩, some ⟨[.run (.ilist .i64) []], false, 0, false, false, none⟩] else again [.ps 0 0 0 0, vi (IntKind.i64.wrap (m + 1)), .os 1 0 0 (Brn.solsF n ws (IntKind.i64.wrap (m + 1)) []).length true false true] [some ⟨[vi n, .sl (.pair .i64) ws false], true, 28, false, false, none⟩, some ⟨[.run (.ilist .i64) (Brn.solsF n ws (IntKind.i64.wrap (m + 1)) [])], false, 25, false, false, none⟩] else none else some (.ext 0, [.ps 0 0 0 0, vi m, osW 1 k], [some ⟨[vi n, .sl (.pair .i64) ws false], true, 28, false, false, none⟩, some ⟨[.run (.ilist .i64) L], false, 25, false, false, none⟩])) := by kernel_rfl
noncomputable def R0x : Tab := R0 10
noncomputable def S20 : Tab := ((R0x).addLoop 78 6 l78_6).addLoop 79 3 l79_3
theorem nf79 (n : Int) (ws : Ws) : evBody S20 79 [aH n ws] [] = (bif sm ws && decide (1 ≤ n) && decide (n ≤ 9) && decide (0 ≤ 1) && decide (1 < (↑10 : Int)) && decide (1 + (↑0 : Int) ≤ 9) && decide (1 ≤ 1 + (↑0 : Int)) then bif sm ws && decide (1 ≤ n) && decide (n ≤ 9) && decide ((Brn.solsF n ws 1 []).length = (Brn.solsF n ws 1 []).length) && decide (Brn.solsF n ws 1 [] = Brn.sols n ws 1) && decide (Brn.dd n ws ≤ 9) then some (.os 0 0 0 (Brn.best n ws).length true false true, [some ⟨[.run (.ilist .i64) (Brn.best n ws)], false, 25, false, false, none⟩]) else none else none) := by kernel_rfl
theorem nf78 (n : Int) (ws : Ws) (kind : Int) : evBody S20 78 [aH n ws, vi kind] [] = (bif sm ws && sm ([] : List Int) then bif Brn.openErr n ws [] == 0 then bif decide (1 ≤ n) && decide (n ≤ 9) && decide ((Brn.ground n ws).length = 81) && decide (Brn.dayN n (Brn.ground n ws) (kind == 2) < 9) then some (.tuple [.os 0 0 0 (Brn.srch n (Brn.ground n ws) (kind == 2) (Brn.dayP n (Brn.ground n ws) (kind == 2))).snd.length true false true, vi (Brn.askC n (Brn.ground n ws) kind), vi 0], [some ⟨[.run (.int .i64) (Brn.srch n (Brn.ground n ws) (kind == 2) (Brn.dayP n (Brn.ground n ws) (kind == 2))).snd], false, Burn.tyI (Brn.srch n (Brn.ground n ws) (kind == 2) (Brn.dayP n (Brn.ground n ws) (kind == 2))).snd, false, false, none⟩]) else none else bif Brn.openErr n ws [] != 0 then some (.tuple [osW 0 0, vi 0, vi (Brn.openErr n ws [])], [some ⟨[.run (.int .i64) []], false, 0, false, false, none⟩]) else none else none) := by kernel_rfl
def c79t (n : Int) (ws : Ws) : Tree (AV × Hp) := .br (sm ws && decide (1 ≤ n) && decide (n ≤ 9) && decide (Brn.dd n ws ≤ 9)) (.leaf (osW 0 (Brn.best n ws).length, [some (rowL (Brn.best n ws) 25)])) .fail
def c79 (args : List AV) (H : Hp) : Tree (AV × Hp) := match args, H with
  | [(.agg [.sc (.int .i64 n), .sl (.pair .i64) ws false] false)], [] => c79t n ws
  | _, _ => .fail
theorem c79_ok {T : Tab} (hT : TabOK T) (h : ∀ (n : Int) (ws : Ws) (r : AV × Hp), (c79t n ws).val = some r → evBody T 79 [aH n ws] [] = some r) : ∀ args H v H', (c79 args H).val = some (v, H') → CallOK T 79 args H v H' := by
  intro args H v H' hv
  unfold c79 at hv
  split at hv
  · exact evBody_sound hT (h _ _ _ hv)
  · cases hv
def c78t (n kind : Int) (ws : Ws) : Tree (AV × Hp) := .br (sm ws) (.leaf (.tuple [osW 0 (Brn.fewV n ws).length, vi (Brn.askV n ws kind), vi (Brn.chk n ws)], [some (rI (Brn.fewV n ws))])) .fail
def c78 (args : List AV) (H : Hp) : Tree (AV × Hp) := match args, H with
  | [(.agg [.sc (.int .i64 n), .sl (.pair .i64) ws false] false), (.sc (.int .i64 kind))], [] => c78t n kind ws
  | _, _ => .fail
theorem c78_ok {T : Tab} (hT : TabOK T) (h : ∀ (n kind : Int) (ws : Ws) (r : AV × Hp), (c78t n kind ws).val = some r → evBody T 78 [aH n ws, vi kind] [] = some r) : ∀ args H v H', (c78 args H).val = some (v, H') → CallOK T 78 args H v H' := by
  intro args H v H' hv
  unfold c78 at hv
  split at hv
  · exact evBody_sound hT (h _ _ _ _ hv)
  · cases hv
noncomputable def S21 : Tab := ((S20).addCall 79 c79).addCall 78 c78
theorem nf29 (n : Int) (ws : Ws) : evBody S21 29 [aH n ws] [] = (bif sm ws then some (.tuple [vi (Brn.askV n ws 0), vi (Brn.chk n ws)], []) else none) := by kernel_rfl
theorem nf30 (n : Int) (ws : Ws) : evBody S21 30 [aH n ws] [] = (bif sm ws then bif Brn.chk n ws != 0 then some (.tuple [vi 0, vi (Brn.chk n ws)], []) else bif sm ws && decide (1 ≤ n) && decide (n ≤ 9) && decide (Brn.dd n ws ≤ 9) then bif decide (0 < (↑(Brn.best n ws).length : Int)) then oM (Brn.best n ws)[0]? fun x => some (.tuple [vi (↑(List.length x) : Int), vi 0], []) else none else none else none) := by kernel_rfl
theorem nf31 (n : Int) (ws : Ws) : evBody S21 31 [aH n ws] [] = (bif sm ws then some (.tuple [.os 0 0 0 (Brn.fewV n ws).length true false true, vi (Brn.chk n ws)], [some { c := [.run (.int .i64) (bif Brn.chk n ws == 0 then Brn.headL (Brn.best n ws) else [])], vr := false, ty := Burn.tyI (Brn.fewV n ws), fz := false, loose := false : Row }]) else none) := by kernel_rfl
theorem nf32 (n : Int) (ws : Ws) : evBody S21 32 [aH n ws] [] = (bif sm ws then bif Brn.chk n ws != 0 then some (.tuple [osW 0 0, vi (Brn.chk n ws)], [some ⟨[.run (.int .i64) []], false, 0, false, false, none⟩]) else bif sm ws && decide (1 ≤ n) && decide (n ≤ 9) && decide (Brn.dd n ws ≤ 9) then bif decide (0 < (↑(Brn.best n ws).length : Int)) then oM (Brn.best n ws)[0]? fun x => some (.tuple [.sl (.int .i64) x false, vi 0], []) else none else none else none) := by kernel_rfl
theorem nf33 (n : Int) (ws : Ws) : evBody S21 33 [aH n ws] [] = (bif sm ws then some (.tuple [vi (Brn.askV n ws 2), vi (Brn.chk n ws)], []) else none) := by kernel_rfl
theorem nf34 (n : Int) (ws : Ws) : evBody S21 34 [aH n ws] [] = (bif sm ws then bif Brn.chk n ws != 0 then some (.tuple [vi 0, vi (Brn.chk n ws)], []) else bif sm ws && decide (1 ≤ n) && decide (n ≤ 9) && decide (Brn.dd n ws ≤ 9) then some (.tuple [vi (↑(Brn.best n ws).length : Int), vi 0], []) else none else none) := by kernel_rfl
def c29t (n : Int) (ws : Ws) : Tree (AV × Hp) := .br (sm ws) (.leaf (.tuple [vi (Brn.dayV n ws), vi (Brn.chk n ws)], [])) .fail
def c29 (args : List AV) (H : Hp) : Tree (AV × Hp) := match args, H with
  | [(.agg [.sc (.int .i64 n), .sl (.pair .i64) ws false] false)], [] => c29t n ws
  | _, _ => .fail
theorem c29_ok {T : Tab} (hT : TabOK T) (h : ∀ (n : Int) (ws : Ws) (r : AV × Hp), (c29t n ws).val = some r → evBody T 29 [aH n ws] [] = some r) : ∀ args H v H', (c29 args H).val = some (v, H') → CallOK T 29 args H v H' := by
  intro args H v H' hv
  unfold c29 at hv
  split at hv
  · exact evBody_sound hT (h _ _ _ hv)
  · cases hv
def c30t (n : Int) (ws : Ws) : Tree (AV × Hp) := .br (sm ws) (.leaf (.tuple [vi (Brn.dayV n ws), vi (Brn.chk n ws)], [])) .fail
def c30 (args : List AV) (H : Hp) : Tree (AV × Hp) := match args, H with
  | [(.agg [.sc (.int .i64 n), .sl (.pair .i64) ws false] false)], [] => c30t n ws
  | _, _ => .fail
theorem c30_ok {T : Tab} (hT : TabOK T) (h : ∀ (n : Int) (ws : Ws) (r : AV × Hp), (c30t n ws).val = some r → evBody T 30 [aH n ws] [] = some r) : ∀ args H v H', (c30 args H).val = some (v, H') → CallOK T 30 args H v H' := by
  intro args H v H' hv
  unfold c30 at hv
  split at hv
  · exact evBody_sound hT (h _ _ _ hv)
  · cases hv
def c33t (n : Int) (ws : Ws) : Tree (AV × Hp) := .br (sm ws) (.leaf (.tuple [vi (Brn.cntV n ws), vi (Brn.chk n ws)], [])) .fail
def c33 (args : List AV) (H : Hp) : Tree (AV × Hp) := match args, H with
  | [(.agg [.sc (.int .i64 n), .sl (.pair .i64) ws false] false)], [] => c33t n ws
  | _, _ => .fail
theorem c33_ok {T : Tab} (hT : TabOK T) (h : ∀ (n : Int) (ws : Ws) (r : AV × Hp), (c33t n ws).val = some r → evBody T 33 [aH n ws] [] = some r) : ∀ args H v H', (c33 args H).val = some (v, H') → CallOK T 33 args H v H' := by
  intro args H v H' hv
  unfold c33 at hv
  split at hv
  · exact evBody_sound hT (h _ _ _ hv)
  · cases hv
def c34t (n : Int) (ws : Ws) : Tree (AV × Hp) := .br (sm ws) (.leaf (.tuple [vi (Brn.cntV n ws), vi (Brn.chk n ws)], [])) .fail
def c34 (args : List AV) (H : Hp) : Tree (AV × Hp) := match args, H with
  | [(.agg [.sc (.int .i64 n), .sl (.pair .i64) ws false] false)], [] => c34t n ws
  | _, _ => .fail
theorem c34_ok {T : Tab} (hT : TabOK T) (h : ∀ (n : Int) (ws : Ws) (r : AV × Hp), (c34t n ws).val = some r → evBody T 34 [aH n ws] [] = some r) : ∀ args H v H', (c34 args H).val = some (v, H') → CallOK T 34 args H v H' := by
  intro args H v H' hv
  unfold c34 at hv
  split at hv
  · exact evBody_sound hT (h _ _ _ hv)
  · cases hv
def c31t (n : Int) (ws : Ws) : Tree (AV × Hp) := .br (sm ws) (.leaf (.tuple [osW 0 (Brn.fewV n ws).length, vi (Brn.chk n ws)], [some (rI (Brn.fewV n ws))])) .fail
def c31 (args : List AV) (H : Hp) : Tree (AV × Hp) := match args, H with
  | [(.agg [.sc (.int .i64 n), .sl (.pair .i64) ws false] false)], [] => c31t n ws
  | _, _ => .fail
theorem c31_ok {T : Tab} (hT : TabOK T) (h : ∀ (n : Int) (ws : Ws) (r : AV × Hp), (c31t n ws).val = some r → evBody T 31 [aH n ws] [] = some r) : ∀ args H v H', (c31 args H).val = some (v, H') → CallOK T 31 args H v H' := by
  intro args H v H' hv
  unfold c31 at hv
  split at hv
  · exact evBody_sound hT (h _ _ _ hv)
  · cases hv
def c32t (n : Int) (ws : Ws) : Tree (AV × Hp) := .br (sm ws) (.br (Brn.chk n ws == 0) (.leaf (.tuple [lI (Brn.headL (Brn.best n ws)), vi (Brn.chk n ws)], [])) (.leaf (.tuple [osW 0 0, vi (Brn.chk n ws)], [some (rowI [] 0)]))) .fail
def c32 (args : List AV) (H : Hp) : Tree (AV × Hp) := match args, H with
  | [(.agg [.sc (.int .i64 n), .sl (.pair .i64) ws false] false)], [] => c32t n ws
  | _, _ => .fail
theorem c32_ok {T : Tab} (hT : TabOK T) (h : ∀ (n : Int) (ws : Ws) (r : AV × Hp), (c32t n ws).val = some r → evBody T 32 [aH n ws] [] = some r) : ∀ args H v H', (c32 args H).val = some (v, H') → CallOK T 32 args H v H' := by
  intro args H v H' hv
  unfold c32 at hv
  split at hv
  · exact evBody_sound hT (h _ _ _ hv)
  · cases hv
noncomputable def S22 : Tab := ((((((S21).addCall 29 c29).addCall 30 c30).addCall 31 c31).addCall 32 c32).addCall 33 c33).addCall 34 c34
end Go.Ev.Burn
namespace Go.Ev.Burn
open Go Go.Ev
set_option maxRecDepth 1000000
set_option linter.unusedVariables false
set_option linter.unusedSimpArgs false
theorem room_ok2 {n b : Nat} (h : n ≤ 1000000000) (hb : b ≤ 200) : room n b = true := by
  unfold room
  have : n * (b + 1) ≤ 1000000000 * 201 := Nat.mul_le_mul h (by omega)
  exact Nat.ble_eq_true_of_le (by omega)
theorem pow9_le {l : Nat} (h : l ≤ 9) : 9 ^ l ≤ 387420489 := Nat.le_trans (Nat.pow_le_pow_right (by omega) h) (by decide)
theorem capS {size : Int} (h1 : 1 ≤ size) (h9 : size ≤ 9) : Brn.capOK 0 size = true := by
  unfold Brn.capOK
  have := pow9_le (l := size.toNat) (by omega)
  rw [decide_eq_true (by omega), decide_eq_true (by omega)]
  rfl
theorem c97_run : ∀ args H v H', (c97 args H).val = some (v, H') → CallOK (S17 10) 97 args H v H' := c97_ok (S17_ok 10) (by
  intro size kind n g r hv
  obtain ⟨hl, hv⟩ := guard_val hv
  simp only [Bool.and_eq_true, decide_eq_true_eq] at hl
  obtain ⟨⟨⟨⟨a1, a2⟩, a3⟩, a4⟩, a5⟩ := hl
  rw [leaf_val hv, nf97]
  simp only [decide_eq_true a1, decide_eq_true a2, decide_eq_true a3, decide_eq_true a4, decide_eq_true a5, decide_eq_true (show size < 10 by omega), capS a1 a2, Bool.and_self, cond_true]
  unfold Brn.srch
  generalize (Brn.putS n.toNat g (Brn.allN n) (kind == 2) size.toNat [] 0 0 []).2 = s
  obtain ⟨c, f⟩ := s
  cases f <;> rfl)
theorem S19_ok : TabOK S19 := (S17_ok 10).addCall fun a H v H' hv => by refine CallOK.tab ?_ ?_ (c97_run a H v H' hv) <;> rfl
theorem l98_7_run (d : Nat) (hT : TabOK (R0 d)) : ∀ base kv H o kv' H', (l98_7 d base kv H).val = some (o, kv', H') → LoopOK (R0 d) 98 7 base kv H o kv' H' := l98_7_ok d hT (by kernel_rfl) (by
  intro n ws fs m r hv
  obtain ⟨hl, hv⟩ := guard_val hv
  simp only [Bool.and_eq_true, decide_eq_true_eq] at hl
  obtain ⟨⟨⟨⟨⟨hws, a1⟩, a2⟩, a3⟩, a4⟩, a5⟩ := hl
  obtain ⟨l, rfl⟩ : ∃ l : Nat, m = ((l + 1 : Nat) : Int) := ⟨(m - 1).toNat, by omega⟩
  have hL := Brn.irange_len n
  obtain ⟨mm, hm⟩ := fold_of (T := R0 d) (fid := 98) (lid := 7) (base := 0) (c := lpc (R0 d) 98 7) (Brn.irange n) (fun i s => s.1.length ≤ i * 9 ^ l) (fun (s : List (List Int) × TypeId) p => (s.1 ++ Brn.solsF n ws (l : Int) (fs ++ [p]), 25))
    (fun p s => [lI fs, vi ((l + 1 : Nat) : Int), ps 0, osW 1 s.1.length, vi p]) (fun s => [some (rH n ws 28), some (rowL s.1 s.2)])
    (fun s => (.ext 0, [lI fs, vi ((l + 1 : Nat) : Int), ps 0, osW 1 s.1.length, vi n.toNat], [some (rH n ws 28), some (rowL s.1 s.2)]))
    (fun j x s hx hlt hI again => by
      rw [nl98]
      have hxi := Brn.irange_get hx
      subst hxi
      have e0 : decide ((j : Int) < n) = true := decide_eq_true (by omega)
      have e1 : IntKind.i64.wrap (((l + 1 : Nat) : Int) - 1) = (l : Int) := by rw [wrapi (by omega) (by omega)]; omega
      have r1 : room (0 + fs.length) 8 = true := room_ok (by omega) (by omega)
      have r2 : room (0 + fs.length + 1) 8 = true := room_ok (by omega) (by omega)
      have e2 : ((fs ++ [(j : Int)]).length : Int) = (fs.length : Int) + 1 := by simp
      have hc : (s.1.length + (Brn.solsF n ws (l : Int) (fs ++ [(j : Int)])).length) ≤ 1000000000 := by
        have h1 := Brn.solsF_count (ws := ws) a2 l (fs ++ [(j : Int)])
        have h2 := pow9_le (l := l + 1) (by omega)
        have h3 : j * 9 ^ l + 9 ^ l ≤ 9 ^ (l + 1) := by rw [← Nat.succ_mul, Nat.pow_succ, Nat.mul_comm (9 ^ l)]; exact Nat.mul_le_mul_right _ (by omega)
        generalize 9 ^ l = A at *
        generalize 9 ^ (l + 1) = B at *
        omega
      simp only [e0, e1, e2, r1, r2, hws, List.nil_append, Bool.cond_self, cond_true, decide_eq_true a1, decide_eq_true a2, decide_eq_true (show (0 : Int) ≤ (l : Int) by omega), decide_eq_true (show (l : Int) < (d : Int) by omega), decide_eq_true (show (l : Int) + ((fs.length : Int) + 1) ≤ 9 by omega), decide_eq_true (show 1 ≤ (l : Int) + ((fs.length : Int) + 1) by omega), Bool.and_self]
      rw [wrap_succ (by omega)]
      rw [show (bif decide (0 < fs.length) then true else ([] : List Int).isEmpty) = true by cases decide (0 < fs.length) <;> rfl]
      simp only [cond_true, List.length_append]
      cases l with
      | zero =>
        rw [show ((((0 : Nat) : Int)) == 0) = true from rfl]
        simp only [cond_true]
        have hz := Brn.solsF_zero (n := n) (ws := ws) (fs ++ [(j : Int)])
        rw [show (0 : Int) = ((0 : Nat) : Int) from rfl] at hz
        cases he : Brn.enB n ws (fs ++ [(j : Int)]) with
        | true =>
          rw [he] at hz
          rw [hz] at hc ⊢
          simp only [cond_true, List.length_singleton] at hc ⊢
          rw [room_ok2 hc (by omega)]
          rfl
        | false =>
          rw [he] at hz
          rw [hz] at hc ⊢
          simp only [cond_false, List.length_nil] at hc ⊢
          rw [room_ok2 hc (by omega)]
          rfl
      | succ l =>
        rw [show ((((l + 1 : Nat) : Int)) == 0) = false by simp; omega, room_ok2 hc (by omega)]
        rfl)
    (fun j x s hx hlt hI => by
      show (s.1 ++ _).length ≤ _
      rw [List.length_append, Nat.succ_mul]
      have := Brn.solsF_count (ws := ws) a2 l (fs ++ [x])
      omega)
    (fun s hI again => by
      rw [nl98, hL]
      have e1 : decide ((n.toNat : Int) < n) = false := decide_eq_false (by omega)
      simp only [e1, cond_false]) ([], 0) (Nat.zero_le _)
  refine ⟨mm, hm.trans ?_⟩
  have e : (Brn.irange n).foldl (fun (s : List (List Int) × TypeId) p => (s.1 ++ Brn.solsF n ws (l : Int) (fs ++ [p]), 25)) ([], 0) = (Brn.solsF n ws ((l + 1 : Nat) : Int) fs, 25) := by
    have main : ∀ (ps : List Int) (s : List (List Int) × TypeId), ps ≠ [] → ps.foldl (fun (s : List (List Int) × TypeId) p => (s.1 ++ Brn.solsF n ws (l : Int) (fs ++ [p]), 25)) s = (s.1 ++ ps.flatMap fun p => Brn.solsF n ws (l : Int) (fs ++ [p]), 25) := by
      intro ps
      induction ps with
      | nil => intro s h; exact absurd rfl h
      | cons p ps ih =>
        intro s _
        rw [List.foldl_cons]
        cases ps with
        | nil => simp
        | cons q ps => rw [ih _ (by simp)]; simp only [List.flatMap_cons, List.append_assoc]
    rw [main _ _ (by intro h; rw [h] at hL; simp at hL; omega), Brn.solsF_succ]
    rfl
  rw [e, leaf_val hv, show ((n.toNat : Nat) : Int) = n by omega])
theorem c98_run (d : Nat) (hT : TabOK (R1 d)) : ∀ args H v H', (c98 (d + 1) args H).val = some (v, H') → CallOK (R1 d) 98 args H v H' := c98_ok (d + 1) hT (by
  intro n ws fs m r hv
  obtain ⟨hl, hv⟩ := guard_val hv
  simp only [Bool.and_eq_true, decide_eq_true_eq] at hl
  obtain ⟨⟨⟨⟨⟨⟨hws, a1⟩, a2⟩, a3⟩, a4⟩, a5⟩, a6⟩ := hl
  rw [nf98]
  have hsm : sm fs = true := sm_of (k := 9) (by omega) (by omega)
  cases hz : m == 0 with
  | true =>
    have hm0 : m = 0 := by simpa using hz
    subst hm0
    rw [hz] at hv
    simp only [cond_true, hws, hsm, decide_eq_true a1, decide_eq_true (show n ≤ 100 by omega), decide_eq_true (show 0 < fs.length by omega), Bool.and_self]
    rcases br_val hv with ⟨_, hv⟩ | ⟨h, _⟩
    · rcases br_val hv with ⟨h, hv⟩ | ⟨h, hv⟩
      · unfold Brn.enB at h
        rw [h, leaf_val hv]; rfl
      · unfold Brn.enB at h
        rw [h, leaf_val hv]; rfl
    · cases h
  | false =>
    have hm0 : m ≠ 0 := by simpa using hz
    rcases br_val hv with ⟨h, _⟩ | ⟨_, hv⟩
    · rw [hz] at h; cases h
    · rw [leaf_val hv]
      simp only [cond_false, cond_true, hws, decide_eq_true a1, decide_eq_true a2, decide_eq_true (show 1 ≤ m by omega), decide_eq_true (show m ≤ (d : Int) by omega), decide_eq_true a5, Bool.and_self])
theorem c98_zero : ∀ args H, (c98 0 args H).val = none := by
  intro args H
  cases hr : (c98 0 args H).val with
  | none => rfl
  | some r =>
    exfalso
    unfold c98 at hr
    split at hr
    · obtain ⟨hg, _⟩ := guard_val hr
      simp only [Bool.and_eq_true, decide_eq_true_eq] at hg
      omega
    · cases hr
theorem R0_ok : ∀ d, TabOK (R0 d)
  | 0 => S19_ok.addCall fun a H v H' hv => by rw [c98_zero] at hv; cases hv
  | d + 1 => by
    have h0 := R0_ok d
    have h1 : TabOK (R1 d) := h0.addLoop fun b k H o k' H' hv => by refine LoopOK.tab ?_ ?_ ?_ ?_ (l98_7_run d h0 b k H o k' H' hv) <;> rfl
    exact S19_ok.addCall fun a H v H' hv => by refine CallOK.tab ?_ ?_ (c98_run d h1 a H v H' hv) <;> rfl
end Go.Ev.Burn
namespace Go.Ev.Burn
open Go Go.Ev
set_option maxRecDepth 1000000
set_option linter.unusedVariables false
set_option linter.unusedSimpArgs false
theorem R0x_ok : TabOK R0x := R0_ok 10
theorem l78_6_run : ∀ base kv H o kv' H', (l78_6 base kv H).val = some (o, kv', H') → LoopOK R0x 78 6 base kv H o kv' H' := by
  have h : ∀ base kv H o kv' H', (l78_6 base kv H).val = some (o, kv', H') → LoopOK S19 78 6 base kv H o kv' H' := l78_6_ok S19_ok (by kernel_rfl) (by
    intro kind n g r hv
    obtain ⟨hl, hv⟩ := guard_val hv
    simp only [Bool.and_eq_true, decide_eq_true_eq] at hl
    obtain ⟨⟨⟨a1, a2⟩, a3⟩, a4⟩ := hl
    obtain ⟨m, hm⟩ := lpRun_of (T := S19) (fid := 78) (lid := 6) (base := 0) (c := lpc S19 78 6) (fun k : Nat => k ≤ Brn.dayN n g (kind == 2))
      (fun k => [vi kind, osW 0 0, vi 0, vi 0, ps 1, vi ((k + 1 : Nat) : Int)]) (fun _ => [some (rowI [] 0), some (rG n g)])
      (fun _ => (.ret, [vi kind, osW 0 (Brn.srch n g (kind == 2) (Brn.dayP n g (kind == 2))).2.length, vi (Brn.askC n g kind), vi 0, ps 1, vi (Brn.dayP n g (kind == 2))], [some (rI (Brn.srch n g (kind == 2) (Brn.dayP n g (kind == 2))).2), some (rG n g)]))
      (fun k => 10 - k)
      (fun k hk again => by
        have step : lpStep S19 78 6 0 (lpc S19 78 6) again [vi kind, osW 0 0, vi 0, vi 0, ps 1, vi ((k + 1 : Nat) : Int)] [some (rowI [] 0), some (rG n g)] =
            bif decide ((Brn.srch n g (kind == 2) ((k + 1 : Nat) : Int)).1 > 0) then some (.ret, [vi kind, osW 0 (Brn.srch n g (kind == 2) ((k + 1 : Nat) : Int)).2.length, .sc (.int .i64 (bif kind == 0 then ((k + 1 : Nat) : Int) else (Brn.srch n g (kind == 2) ((k + 1 : Nat) : Int)).1)), vi 0, ps 1, vi ((k + 1 : Nat) : Int)], [some (rI (Brn.srch n g (kind == 2) ((k + 1 : Nat) : Int)).2), some (rG n g)])
            else again [vi kind, osW 0 0, vi 0, vi 0, ps 1, vi ((k + 1 + 1 : Nat) : Int)] [some (rowI [] 0), some (rG n g)] := by
          rw [nl78]
          simp only [decide_eq_true a1, decide_eq_true a2, decide_eq_true a3, decide_eq_true (show 1 ≤ ((k + 1 : Nat) : Int) by omega), decide_eq_true (show ((k + 1 : Nat) : Int) ≤ 9 by omega), Bool.and_self, cond_true]
          rw [wrap_succ (by omega)]
          cases kind == 0 <;> rfl
        rw [step]
        by_cases he : k = Brn.dayN n g (kind == 2)
        · have := List.findIdx_getElem (xs := List.range 9) (p := fun (k : Nat) => decide ((Brn.srch n g (kind == 2) ((k + 1 : Nat) : Int)).1 > 0)) (w := by rw [List.length_range]; exact a4)
          simp only [List.getElem_range] at this
          have ek : ((k + 1 : Nat) : Int) = Brn.dayP n g (kind == 2) := by rw [he]; rfl
          have hd : decide ((Brn.srch n g (kind == 2) (Brn.dayP n g (kind == 2))).1 > 0) = true := this
          left
          rw [ek, hd]
          rfl
        · refine .inr ⟨k + 1, by omega, by omega, rfl, ?_⟩
          have := List.not_of_lt_findIdx (xs := List.range 9) (p := fun (k : Nat) => decide ((Brn.srch n g (kind == 2) ((k + 1 : Nat) : Int)).1 > 0)) (i := k) (show k < Brn.dayN n g (kind == 2) by omega)
          simp only [List.getElem_range] at this
          rw [this]
          rfl) 0 (Nat.zero_le _)
    refine ⟨m, hm.trans ?_⟩
    rw [leaf_val hv])
  exact fun b k H o k' H' hv => by refine LoopOK.tab ?_ ?_ ?_ ?_ (h b k H o k' H' hv) <;> rfl
theorem l79_3_run : ∀ base kv H o kv' H', (l79_3 base kv H).val = some (o, kv', H') → LoopOK R0x 79 3 base kv H o kv' H' := l79_3_ok R0x_ok (by kernel_rfl) (by
  intro n ws L k r hv
  obtain ⟨hl, hv2⟩ := guard_val hv
  simp only [Bool.and_eq_true, decide_eq_true_eq] at hl
  obtain ⟨⟨⟨⟨⟨hws, a1⟩, a2⟩, rfl⟩, rfl⟩, a3⟩ := hl
  obtain ⟨m, hm⟩ := lpRun_of (T := R0x) (fid := 79) (lid := 3) (base := 0) (c := lpc R0x 79 3) (fun k : Nat => k + 1 ≤ Brn.dd n ws)
    (fun k => [ps 0, vi ((k + 1 : Nat) : Int), osW 1 (Brn.sols n ws ((k + 1 : Nat) : Int)).length]) (fun k => [some (rH n ws 28), some (rowL (Brn.sols n ws ((k + 1 : Nat) : Int)) 25)])
    (fun _ => (.ext 0, [ps 0, vi (Brn.dd n ws : Nat), osW 1 (Brn.best n ws).length], [some (rH n ws 28), some (rowL (Brn.best n ws) 25)]))
    (fun k => 10 - k)
    (fun k hk again => by
      have step := nl79 again n ws (Brn.sols n ws ((k + 1 : Nat) : Int)) (Brn.sols n ws ((k + 1 : Nat) : Int)).length ((k + 1 : Nat) : Int)
      by_cases he : k + 1 = Brn.dd n ws
      · left
        refine Eq.trans step ?_
        rw [he]
        have hx : (List.range 9).findIdx (fun (k : Nat) => !(Brn.sols n ws ((k + 1 : Nat) : Int)).isEmpty) < (List.range 9).length := by rw [List.length_range]; unfold Brn.dd at a3; omega
        have := List.findIdx_getElem (w := hx)
        simp only [List.getElem_range] at this
        have h2 : Brn.sols n ws (Brn.dd n ws : Nat) ≠ [] := Brn.isEmpty_f.1 this
        have h3 : (((Brn.sols n ws (Brn.dd n ws : Nat)).length : Int) == 0) = false := by
          cases hs : Brn.sols n ws (Brn.dd n ws : Nat) with
          | nil => exact absurd hs h2
          | cons x l => simp; omega
        rw [h3]
        rfl
      · refine .inr ⟨k + 1, by omega, by omega, rfl, Eq.trans step ?_⟩
        have hlt : k < (List.range 9).findIdx (fun (k : Nat) => !(Brn.sols n ws ((k + 1 : Nat) : Int)).isEmpty) := by unfold Brn.dd at hk he; omega
        have := List.not_of_lt_findIdx hlt
        simp only [List.getElem_range] at this
        have h2 : Brn.sols n ws ((k + 1 : Nat) : Int) = [] := by simpa using this
        rw [h2]
        rw [show (((([] : List (List Int)).length : Nat) : Int) == 0) = true from rfl]
        rw [wrap_succ (by omega)]
        simp only [cond_true, hws, decide_eq_true a1, decide_eq_true a2, decide_eq_true (show (0 : Int) ≤ ((k + 1 + 1 : Nat) : Int) by omega), decide_eq_true (show ((k + 1 + 1 : Nat) : Int) < 10 by omega), decide_eq_true (show ((k + 1 + 1 : Nat) : Int) + 0 ≤ 9 by omega), decide_eq_true (show 1 ≤ ((k + 1 + 1 : Nat) : Int) + 0 by omega), Bool.and_self, show ((((k + 1 + 1 : Nat) : Int)) == 0) = false by simp; omega, cond_false]
        rfl) 0 (by unfold Brn.dd; omega)
  refine ⟨m, hm.trans ?_⟩
  rw [leaf_val hv2])
theorem S20_ok : TabOK S20 := by
  have h := R0x_ok
  have h := h.addLoop (g := 78) (lid := 6) (r := l78_6) fun b k H o k' H' hv => by refine LoopOK.tab ?_ ?_ ?_ ?_ (l78_6_run b k H o k' H' hv) <;> rfl
  have h := h.addLoop (g := 79) (lid := 3) (r := l79_3) fun b k H o k' H' hv => by refine LoopOK.tab ?_ ?_ ?_ ?_ (l79_3_run b k H o k' H' hv) <;> rfl
  exact h
theorem c79_run : ∀ args H v H', (c79 args H).val = some (v, H') → CallOK S20 79 args H v H' := c79_ok S20_ok (by
  intro n ws r hv
  obtain ⟨hl, hv⟩ := guard_val hv
  simp only [Bool.and_eq_true, decide_eq_true_eq] at hl
  obtain ⟨⟨⟨hws, a1⟩, a2⟩, a3⟩ := hl
  rw [leaf_val hv, nf79]
  rw [show Brn.solsF n ws 1 [] = Brn.sols n ws 1 from rfl]
  simp only [hws, decide_eq_true a1, decide_eq_true a2, decide_eq_true a3, decide_true, Bool.and_self, cond_true, show decide ((0 : Int) ≤ 1) = true from rfl, show decide ((1 : Int) < 10) = true from rfl, show decide ((1 : Int) + 0 ≤ 9) = true from rfl, show decide ((1 : Int) ≤ 1 + 0) = true from rfl]
  rfl)
theorem place_nil (n : Int) (ws : Ws) : Brn.openErr n ws [] = Brn.chk n ws := by
  rw [Brn.openErr_eq]
  unfold Brn.placeErr
  cases h : Brn.chk n ws == 0 with
  | true => simp at h; simp [h]
  | false => rfl
theorem c78_run : ∀ args H v H', (c78 args H).val = some (v, H') → CallOK S20 78 args H v H' := c78_ok S20_ok (by
  intro n kind ws r hv
  obtain ⟨hws, hv⟩ := guard_val hv
  rw [leaf_val hv, nf78, place_nil, hws, show sm ([] : List Int) = true from rfl]
  unfold Brn.fewV Brn.askV
  cases hc : Brn.chk n ws == 0 with
  | false =>
    rw [show (Brn.chk n ws != 0) = true by simp [bne, hc]]
    rfl
  | true =>
    have h0 : Brn.chk n ws = 0 := by simpa using hc
    have hOk := Brn.ok_of h0
    have h1 := hOk.lo
    have h9 := hOk.hi
    obtain ⟨d1, d2, d3, _⟩ := Brn.dd_spec hOk
    obtain ⟨e1, e2⟩ := Brn.asked_eq hOk kind
    have e3 := (Brn.dayN_eq hOk (kind == 2)).1
    rw [e3, e1, e2, h0]
    simp only [decide_eq_true h1, decide_eq_true h9, decide_eq_true (Brn.ground_len n ws), decide_eq_true (show Brn.dd n ws - 1 < 9 by omega), Bool.and_self, cond_true])
theorem S21_ok : TabOK S21 := by
  have h := S20_ok
  have h := h.addCall (g := 79) (r := c79) fun a H v H' hv => by refine CallOK.tab ?_ ?_ (c79_run a H v H' hv) <;> rfl
  have h := h.addCall (g := 78) (r := c78) fun a H v H' hv => by refine CallOK.tab ?_ ?_ (c78_run a H v H' hv) <;> rfl
  exact h
theorem c29_run : ∀ args H v H', (c29 args H).val = some (v, H') → CallOK S21 29 args H v H' := c29_ok S21_ok (by
  intro n ws r hv
  obtain ⟨hws, hv⟩ := guard_val hv
  rw [leaf_val hv, nf29, hws]
  rfl)
theorem c33_run : ∀ args H v H', (c33 args H).val = some (v, H') → CallOK S21 33 args H v H' := c33_ok S21_ok (by
  intro n ws r hv
  obtain ⟨hws, hv⟩ := guard_val hv
  rw [leaf_val hv, nf33, hws]
  rfl)
theorem c31_run : ∀ args H v H', (c31 args H).val = some (v, H') → CallOK S21 31 args H v H' := c31_ok S21_ok (by
  intro n ws r hv
  obtain ⟨hws, hv⟩ := guard_val hv
  rw [leaf_val hv, nf31, hws]
  rfl)
theorem c30_run : ∀ args H v H', (c30 args H).val = some (v, H') → CallOK S21 30 args H v H' := c30_ok S21_ok (by
  intro n ws r hv
  obtain ⟨hws, hv⟩ := guard_val hv
  rw [leaf_val hv, nf30, hws]
  unfold Brn.dayV
  cases hc : Brn.chk n ws == 0 with
  | false => rw [show (Brn.chk n ws != 0) = true by simp [bne, hc]]; first | done | rfl
  | true =>
    have h0 : Brn.chk n ws = 0 := by simpa using hc
    have hOk := Brn.ok_of h0
    have h1 := hOk.lo
    have h9 := hOk.hi
    obtain ⟨d1, d2, d3, _⟩ := Brn.dd_spec hOk
    have hh := Brn.head_len hOk
    rw [show (Brn.chk n ws != 0) = false by simp [bne, hc], h0]
    simp only [decide_eq_true h1, decide_eq_true h9, decide_eq_true (show Brn.dd n ws ≤ 9 by omega), Bool.and_self, cond_true, cond_false]
    cases hb : Brn.best n ws with
    | nil => exact absurd hb d3
    | cons x l =>
      rw [hb] at hh
      rw [decide_eq_true (show (0 : Int) < ((x :: l).length : Int) by simp <;> omega)]
      simp only [cond_true, List.getElem?_cons_zero, oM]
      rw [show x.length = Brn.dd n ws from hh])
theorem c34_run : ∀ args H v H', (c34 args H).val = some (v, H') → CallOK S21 34 args H v H' := c34_ok S21_ok (by
  intro n ws r hv
  obtain ⟨hws, hv⟩ := guard_val hv
  rw [leaf_val hv, nf34, hws]
  unfold Brn.cntV
  cases hc : Brn.chk n ws == 0 with
  | false => rw [show (Brn.chk n ws != 0) = true by simp [bne, hc]]; first | done | rfl
  | true =>
    have h0 : Brn.chk n ws = 0 := by simpa using hc
    have hOk := Brn.ok_of h0
    have h1 := hOk.lo
    have h9 := hOk.hi
    obtain ⟨d1, d2, d3, _⟩ := Brn.dd_spec hOk
    rw [show (Brn.chk n ws != 0) = false by simp [bne, hc], h0]
    simp only [decide_eq_true h1, decide_eq_true h9, decide_eq_true (show Brn.dd n ws ≤ 9 by omega), Bool.and_self, cond_true, cond_false])
theorem c32_run : ∀ args H v H', (c32 args H).val = some (v, H') → CallOK S21 32 args H v H' := c32_ok S21_ok (by
  intro n ws r hv
  obtain ⟨hws, hv⟩ := guard_val hv
  rw [nf32, hws]
  rcases br_val hv with ⟨hc, hv⟩ | ⟨hc, hv⟩
  · have h0 : Brn.chk n ws = 0 := by simpa using hc
    have hOk := Brn.ok_of h0
    have h1 := hOk.lo
    have h9 := hOk.hi
    obtain ⟨d1, d2, d3, _⟩ := Brn.dd_spec hOk
    rw [show (Brn.chk n ws != 0) = false by simp [bne, hc], leaf_val hv, h0]
    simp only [decide_eq_true h1, decide_eq_true h9, decide_eq_true (show Brn.dd n ws ≤ 9 by omega), Bool.and_self, cond_true, cond_false]
    cases hb : Brn.best n ws with
    | nil => exact absurd hb d3
    | cons x l =>
      rw [decide_eq_true (show (0 : Int) < ((x :: l).length : Int) by simp <;> omega)]
      simp only [cond_true, List.getElem?_cons_zero, oM]
      rfl
  · rw [show (Brn.chk n ws != 0) = true by simp [bne, hc], leaf_val hv]; rfl)
theorem S22_ok : TabOK S22 := by
  have h := S21_ok
  have h := h.addCall (g := 29) (r := c29) fun a H v H' hv => by refine CallOK.tab ?_ ?_ (c29_run a H v H' hv) <;> rfl
  have h := h.addCall (g := 30) (r := c30) fun a H v H' hv => by refine CallOK.tab ?_ ?_ (c30_run a H v H' hv) <;> rfl
  have h := h.addCall (g := 31) (r := c31) fun a H v H' hv => by refine CallOK.tab ?_ ?_ (c31_run a H v H' hv) <;> rfl
  have h := h.addCall (g := 32) (r := c32) fun a H v H' hv => by refine CallOK.tab ?_ ?_ (c32_run a H v H' hv) <;> rfl
  have h := h.addCall (g := 33) (r := c33) fun a H v H' hv => by refine CallOK.tab ?_ ?_ (c33_run a H v H' hv) <;> rfl
  have h := h.addCall (g := 34) (r := c34) fun a H v H' hv => by refine CallOK.tab ?_ ?_ (c34_run a H v H' hv) <;> rfl
  exact h
end Go.Ev.Burn
