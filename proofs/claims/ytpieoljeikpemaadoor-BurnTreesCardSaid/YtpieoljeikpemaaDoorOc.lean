/- Heaps by numbers: tables and normal forms. -/
import Derived.Test.YtpieoljeikpemaaDoorOb
set_option linter.unusedVariables false
set_option linter.unusedSimpArgs false
namespace Go.Ev.Burn
open Go Go.Ev
set_option maxRecDepth 1000000
set_option linter.unusedVariables false
abbrev rSk (p : Int) (b m : List Int) (x : Int) : Row := ⟨[.sc (.int .u8 p), .run (.int .u8) b, .run (.int .u8) m, .sc (.int .u8 x)], true, 72, false, false, none⟩
abbrev rHz (n : Int) : Row := ⟨[.sc (.int .i64 n), .sc (.slice none 0 0)], true, 24, false, false, none⟩
abbrev rHo (n : Int) (r k : Nat) : Row := ⟨[.sc (.int .i64 n), .os r 0 0 k true false true], true, 24, false, true, none⟩
abbrev rW (ws : Ws) (t : TypeId) : Row := ⟨[.run (.pair .i64) ws], false, t, false, false, none⟩
theorem nl50_3n (again : Ag) (pl n x i z0 : Int) (b m z : List Int) : lpStep S15 50 3 0 (lpc S15 50 3) again [ps 0, ps 1, ps 2, ps 3, vi i] [some (rSk pl b m x), some (rHz z0), some (rD z), some (rHz n)] = (bif decide (i < n) then bif decide (0 ≤ i) then bif decide (i < (↑9 : Int)) then oM b[i.toNat]? fun x_1 => bif !decide (i = 0) then again [.ps 0 0 0 0, .ps 1 0 0 0, .ps 2 0 0 0, .ps 3 0 0 0, vi (IntKind.i64.wrap (i + 1))] [some ⟨[.sc (.int .u8 pl), .run (.int .u8) b, .run (.int .u8) m, .sc (.int .u8 x)], true, 72, false, false, none⟩, some ⟨[vi z0, .sc (.slice none 0 0)], true, 24, false, false, none⟩, some ⟨[.run (.int .i64) z], true, 74, false, false, none⟩, some ⟨[vi n, osW 4 1], true, 24, false, true, none⟩, some ⟨[.run (.pair .i64) [((IntKind.i64.wrap x_1).tmod i, i)]], false, 66, false, false, none⟩] else none else none else none else some (.ext 0, [.ps 0 0 0 0, .ps 1 0 0 0, .ps 2 0 0 0, .ps 3 0 0 0, vi i], [some ⟨[.sc (.int .u8 pl), .run (.int .u8) b, .run (.int .u8) m, .sc (.int .u8 x)], true, 72, false, false, none⟩, some ⟨[vi z0, .sc (.slice none 0 0)], true, 24, false, false, none⟩, some ⟨[.run (.int .i64) z], true, 74, false, false, none⟩, some ⟨[vi n, .sc (.slice none 0 0)], true, 24, false, false, none⟩])) := by kernel_rfl
theorem nl50_3s (again : Ag) (pl n x i z0 : Int) (b m z : List Int) (ws : Ws) (t : TypeId) : lpStep S15 50 3 0 (lpc S15 50 3) again [ps 0, ps 1, ps 2, ps 3, vi i] [some (rSk pl b m x), some (rHz z0), some (rD z), some (rHo n 4 ws.length), some (rW ws t)] = (bif decide (i < n) then bif decide (0 ≤ i) then bif decide (i < (↑9 : Int)) then oM b[i.toNat]? fun x_1 => bif !decide (i = 0) then bif room (List.length ws + 1) 16 then again [.ps 0 0 0 0, .ps 1 0 0 0, .ps 2 0 0 0, .ps 3 0 0 0, vi (IntKind.i64.wrap (i + 1))] [some ⟨[.sc (.int .u8 pl), .run (.int .u8) b, .run (.int .u8) m, .sc (.int .u8 x)], true, 72, false, false, none⟩, some ⟨[vi z0, .sc (.slice none 0 0)], true, 24, false, false, none⟩, some ⟨[.run (.int .i64) z], true, 74, false, false, none⟩, some ⟨[vi n, osW 4 (List.length ws + 1)], true, 24, false, true, none⟩, some ⟨[.run (.pair .i64) (ws ++ [((IntKind.i64.wrap x_1).tmod i, i)])], false, 66, false, false, none⟩] else none else none else none else none else some (.ext 0, [.ps 0 0 0 0, .ps 1 0 0 0, .ps 2 0 0 0, .ps 3 0 0 0, vi i], [some ⟨[.sc (.int .u8 pl), .run (.int .u8) b, .run (.int .u8) m, .sc (.int .u8 x)], true, 72, false, false, none⟩, some ⟨[vi z0, .sc (.slice none 0 0)], true, 24, false, false, none⟩, some ⟨[.run (.int .i64) z], true, 74, false, false, none⟩, some ⟨[vi n, osW 4 (List.length ws)], true, 24, false, true, none⟩, some ⟨[.run (.pair .i64) ws], false, t, false, false, none⟩])) := by kernel_rfl
def l50_3t (pl n x z0 : Int) (b m z : List Int) : Tree (Out × List AV × Hp) := .br (decide (b.length = 9) && Brn.u8s b && decide (1 ≤ n) && decide (n ≤ 9)) (.br (decide (n = 1)) (.leaf (.ext 0, [ps 0, ps 1, ps 2, ps 3, vi 1], [some (rSk pl b m x), some (rHz z0), some (rD z), some (rHz n)])) (.leaf (.ext 0, [ps 0, ps 1, ps 2, ps 3, vi n], [some (rSk pl b m x), some (rHz z0), some (rD z), some (rHo n 4 (Brn.backW b n).length), some (rW (Brn.backW b n) 66)]))) .fail
def l50_3 (base : Nat) (kv : List AV) (H : Hp) : Tree (Out × List AV × Hp) := match Nat.beq base 0, kv, H with
  | true, [(.ps 0 0 0 0), (.ps 1 0 0 0), (.ps 2 0 0 0), (.ps 3 0 0 0), (.sc (.int .i64 1))], [some ⟨[.sc (.int .u8 pl), .run (.int .u8) b, .run (.int .u8) m, .sc (.int .u8 x)], true, 72, false, false, none⟩, some ⟨[.sc (.int .i64 z0), .sc (.slice none 0 0)], true, 24, false, false, none⟩, some ⟨[.run (.int .i64) z], true, 74, false, false, none⟩, some ⟨[.sc (.int .i64 n), .sc (.slice none 0 0)], true, 24, false, false, none⟩] => l50_3t pl n x z0 b m z
  | _, _, _ => .fail
theorem l50_3_ok {T : Tab} (hT : TabOK T) (hlo : loopOf T.fn 50 3 = some (lpc T 50 3)) (h : ∀ (pl n x z0 : Int) (b m z : List Int) (r : Out × List AV × Hp), (l50_3t pl n x z0 b m z).val = some r → ∃ mm, lpRun T 50 3 0 (lpc T 50 3) mm [ps 0, ps 1, ps 2, ps 3, vi 1] [some (rSk pl b m x), some (rHz z0), some (rD z), some (rHz n)] = some r) : ∀ base kv H o kv' H', (l50_3 base kv H).val = some (o, kv', H') → LoopOK T 50 3 base kv H o kv' H' := by
  intro base kv H o kv' H' hv
  unfold l50_3 at hv
  split at hv
  · rename_i hb
    obtain rfl := Nat.eq_of_beq_eq_true hb
    exact loop_ok hT hlo (h _ _ _ _ _ _ _ _ hv)
  · cases hv
noncomputable def M1 : Tab := (N3).addLoop 50 3 l50_3
noncomputable def M2 : Tab := { M1 with refm := fun f => match f with
  | 88 => [0]
  | 101 => [0]
  | f => refB f }
abbrev rPr (a b : Int) : Row := ⟨[.run (.int .i64) ([a, b] : List Int)], true, 66, false, false, none⟩
theorem nl101 (again : Ag) (ws : Ws) (t : TypeId) (a b i : Int) : lpStep M2 101 2 1 (lpc M2 101 2) again [osW 0 ws.length, ps 1, vi 0, vi ws.length, vi i] [some (rW ws t), some (rPr a b)] = (bif decide (i < (↑(List.length ws) : Int)) then bif decide (0 ≤ i) then bif decide (i < (↑(List.length ws) : Int)) then oM ws[i.toNat]? fun x => bif [a, b] == [x.fst, x.snd] then some (.ret, [osW 0 (List.length ws), .ps 1 0 0 0, vi i, vi (↑(List.length ws) : Int), vi i], [some ⟨[.run (.pair .i64) ws], false, t, false, false, none⟩, some ⟨[.run (.int .i64) [a, b]], true, 66, false, false, none⟩]) else again [osW 0 (List.length ws), .ps 1 0 0 0, vi 0, vi (↑(List.length ws) : Int), vi (IntKind.i64.wrap (i + 1))] [some ⟨[.run (.pair .i64) ws], false, t, false, false, none⟩, some ⟨[.run (.int .i64) [a, b]], true, 66, false, false, none⟩] else none else none else some (.ext 0, [osW 0 (List.length ws), .ps 1 0 0 0, vi 0, vi (↑(List.length ws) : Int), vi i], [some ⟨[.run (.pair .i64) ws], false, t, false, false, none⟩, some ⟨[.run (.int .i64) [a, b]], true, 66, false, false, none⟩])) := by kernel_rfl
def l101_2t (ws : Ws) (t : TypeId) (a b m : Int) (k : Nat) : Tree (Out × List AV × Hp) := .br (sm ws && decide (k = ws.length) && decide (m = ws.length)) (.br (Brn.way ws a b) (.leaf (.ret, [osW 0 k, ps 1, vi (Brn.wayAt ws a b), vi m, vi (Brn.wayAt ws a b)], [some (rW ws t), some (rPr a b)])) (.leaf (.ext 0, [osW 0 k, ps 1, vi 0, vi m, vi m], [some (rW ws t), some (rPr a b)]))) .fail
def l101_2 (base : Nat) (kv : List AV) (H : Hp) : Tree (Out × List AV × Hp) := match Nat.beq base 1, kv, H with
  | true, [(.os 0 0 0 k true false true), (.ps 1 0 0 0), (.sc (.int .i64 0)), (.sc (.int .i64 m)), (.sc (.int .i64 0))], [some ⟨[.run (.pair .i64) ws], false, t, false, false, none⟩, some ⟨[.run (.int .i64) [a, b]], true, 66, false, false, none⟩] => l101_2t ws t a b m k
  | _, _, _ => .fail
theorem l101_2_ok {T : Tab} (hT : TabOK T) (hlo : loopOf T.fn 101 2 = some (lpc T 101 2)) (h : ∀ (ws : Ws) (t : TypeId) (a b m : Int) (k : Nat) (r : Out × List AV × Hp), (l101_2t ws t a b m k).val = some r → ∃ mm, lpRun T 101 2 1 (lpc T 101 2) mm [osW 0 k, ps 1, vi 0, vi m, vi 0] [some (rW ws t), some (rPr a b)] = some r) : ∀ base kv H o kv' H', (l101_2 base kv H).val = some (o, kv', H') → LoopOK T 101 2 base kv H o kv' H' := by
  intro base kv H o kv' H' hv
  unfold l101_2 at hv
  split at hv
  · rename_i hb
    obtain rfl := Nat.eq_of_beq_eq_true hb
    exact loop_ok hT hlo (h _ _ _ _ _ _ _ hv)
  · cases hv
noncomputable def M3 : Tab := (M2).addLoop 101 2 l101_2
theorem nf101 (ws : Ws) (t : TypeId) (a b : Int) : evBody M3 101 [osW 0 ws.length, aW a b] [some (rW ws t)] = (bif sm ws && decide (List.length ws = List.length ws) && decide ((↑(List.length ws) : Int) = (↑(List.length ws) : Int)) then bif Brn.way ws a b then some (vi (Brn.wayAt ws a b), [some ⟨[.run (.pair .i64) ws], false, t, false, false, none⟩]) else some (vi (-1), [some ⟨[.run (.pair .i64) ws], false, t, false, false, none⟩]) else none) := by kernel_rfl
def c101t (ws : Ws) (t : TypeId) (a b : Int) (k : Nat) : Tree (AV × Hp) := .br (sm ws && decide (k = ws.length)) (.leaf (.sc (.int .i64 (bif Brn.way ws a b then Brn.wayAt ws a b else (-1))), [some (rW ws t)])) .fail
def c101 (args : List AV) (H : Hp) : Tree (AV × Hp) := match args, H with
  | [(.os 0 0 0 k true false true), (.agg [.run (.int .i64) [a, b]] false)], [some ⟨[.run (.pair .i64) ws], false, t, false, false, none⟩] => c101t ws t a b k
  | _, _ => .fail
theorem c101_ok {T : Tab} (hT : TabOK T) (h : ∀ (ws : Ws) (t : TypeId) (a b : Int) (k : Nat) (r : AV × Hp), (c101t ws t a b k).val = some r → evBody T 101 [osW 0 k, aW a b] [some (rW ws t)] = some r) : ∀ args H v H', (c101 args H).val = some (v, H') → CallOK T 101 args H v H' := by
  intro args H v H' hv
  unfold c101 at hv
  split at hv
  · exact evBody_sound hT (h _ _ _ _ _ _ hv)
  · cases hv
noncomputable def M4 : Tab := (M3).addCall 101 c101
theorem nf88 (ws : Ws) (t : TypeId) (a b : Int) : evBody M4 88 [osW 0 ws.length, aW a b] [some (rW ws t)] = (bif sm ws && decide (List.length ws = List.length ws) then some (vb (decide ((bif Brn.way ws a b then Brn.wayAt ws a b else -1) ≥ 0)), [some ⟨[.run (.pair .i64) ws], false, t, false, false, none⟩]) else none) := by kernel_rfl
def c88t (ws : Ws) (t : TypeId) (a b : Int) (k : Nat) : Tree (AV × Hp) := .br (sm ws && decide (k = ws.length)) (.leaf (vb (Brn.way ws a b), [some (rW ws t)])) .fail
def c88 (args : List AV) (H : Hp) : Tree (AV × Hp) := match args, H with
  | [(.os 0 0 0 k true false true), (.agg [.run (.int .i64) [a, b]] false)], [some ⟨[.run (.pair .i64) ws], false, t, false, false, none⟩] => c88t ws t a b k
  | _, _ => .fail
theorem c88_ok {T : Tab} (hT : TabOK T) (h : ∀ (ws : Ws) (t : TypeId) (a b : Int) (k : Nat) (r : AV × Hp), (c88t ws t a b k).val = some r → evBody T 88 [osW 0 k, aW a b] [some (rW ws t)] = some r) : ∀ args H v H', (c88 args H).val = some (v, H') → CallOK T 88 args H v H' := by
  intro args H v H' hv
  unfold c88 at hv
  split at hv
  · exact evBody_sound hT (h _ _ _ _ _ _ hv)
  · cases hv
noncomputable def M5 : Tab := (M4).addCall 88 c88
theorem nl50_7s (again : Ag) (n z0 i : Int) (z : List Int) (ws mo : Ws) (t : TypeId) : lpStep M5 50 7 0 (lpc M5 50 7) again [ps 0, ps 1, ps 2, .sl (.pair .u8) mo false, vi mo.length, vi i] [some (rHz z0), some (rD z), some (rHo n 3 ws.length), some (rW ws t)] = (bif decide (i < (↑(List.length mo) : Int)) then bif decide (0 ≤ i) then bif decide (i < (↑(List.length mo) : Int)) then oM mo[i.toNat]? fun x => bif !decide (n = 0) then bif !decide (n = 0) then bif (IntKind.i64.wrap x.fst).tmod n != (IntKind.i64.wrap x.snd).tmod n then bif sm ws && decide (List.length ws = List.length ws) then bif !Brn.way ws (if (IntKind.i64.wrap x.snd).tmod n < (IntKind.i64.wrap x.fst).tmod n then (IntKind.i64.wrap x.snd).tmod n else (IntKind.i64.wrap x.fst).tmod n) (if (IntKind.i64.wrap x.snd).tmod n > (IntKind.i64.wrap x.fst).tmod n then (IntKind.i64.wrap x.snd).tmod n else (IntKind.i64.wrap x.fst).tmod n) then bif room (List.length ws + 1) 16 then again [.ps 0 0 0 0, .ps 1 0 0 0, .ps 2 0 0 0, .sl (.pair .u8) mo false, vi (↑(List.length mo) : Int), vi (IntKind.i64.wrap (i + 1))] [some ⟨[vi z0, .sc (.slice none 0 0)], true, 24, false, false, none⟩, some ⟨[.run (.int .i64) z], true, 74, false, false, none⟩, some ⟨[vi n, osW 3 (List.length ws + 1)], true, 24, false, true, none⟩, some ⟨[.run (.pair .i64) (ws ++ [(if (IntKind.i64.wrap x.snd).tmod n < (IntKind.i64.wrap x.fst).tmod n then (IntKind.i64.wrap x.snd).tmod n else (IntKind.i64.wrap x.fst).tmod n, if (IntKind.i64.wrap x.snd).tmod n > (IntKind.i64.wrap x.fst).tmod n then (IntKind.i64.wrap x.snd).tmod n else (IntKind.i64.wrap x.fst).tmod n)])], false, 66, false, false, none⟩] else none else again [.ps 0 0 0 0, .ps 1 0 0 0, .ps 2 0 0 0, .sl (.pair .u8) mo false, vi (↑(List.length mo) : Int), vi (IntKind.i64.wrap (i + 1))] [some ⟨[vi z0, .sc (.slice none 0 0)], true, 24, false, false, none⟩, some ⟨[.run (.int .i64) z], true, 74, false, false, none⟩, some ⟨[vi n, osW 3 (List.length ws)], true, 24, false, true, none⟩, some ⟨[.run (.pair .i64) ws], false, t, false, false, none⟩] else none else again [.ps 0 0 0 0, .ps 1 0 0 0, .ps 2 0 0 0, .sl (.pair .u8) mo false, vi (↑(List.length mo) : Int), vi (IntKind.i64.wrap (i + 1))] [some ⟨[vi z0, .sc (.slice none 0 0)], true, 24, false, false, none⟩, some ⟨[.run (.int .i64) z], true, 74, false, false, none⟩, some ⟨[vi n, osW 3 (List.length ws)], true, 24, false, true, none⟩, some ⟨[.run (.pair .i64) ws], false, t, false, false, none⟩] else none else none else none else none else some (.ext 2, [.ps 0 0 0 0, .ps 1 0 0 0, .ps 2 0 0 0, .sl (.pair .u8) mo false, vi (↑(List.length mo) : Int), vi i], [some ⟨[vi z0, .sc (.slice none 0 0)], true, 24, false, false, none⟩, some ⟨[.run (.int .i64) z], true, 74, false, false, none⟩, some ⟨[vi n, osW 3 (List.length ws)], true, 24, false, true, none⟩, some ⟨[.run (.pair .i64) ws], false, t, false, false, none⟩])) := by kernel_rfl
theorem nl50_7n (again : Ag) (z0 n i : Int) (z : List Int) (mo : Ws) : lpStep M5 50 7 0 (lpc M5 50 7) again [ps 0, ps 1, ps 2, .sl (.pair .u8) mo false, vi mo.length, vi i] [some (rHz z0), some (rD z), some (rHz n)] = (bif decide (i < (↑(List.length mo) : Int)) then bif decide (0 ≤ i) then bif decide (i < (↑(List.length mo) : Int)) then oM mo[i.toNat]? fun x => bif !decide (n = 0) then bif !decide (n = 0) then bif (IntKind.i64.wrap x.fst).tmod n != (IntKind.i64.wrap x.snd).tmod n then none else again [.ps 0 0 0 0, .ps 1 0 0 0, .ps 2 0 0 0, .sl (.pair .u8) mo false, vi (↑(List.length mo) : Int), vi (IntKind.i64.wrap (i + 1))] [some ⟨[vi z0, .sc (.slice none 0 0)], true, 24, false, false, none⟩, some ⟨[.run (.int .i64) z], true, 74, false, false, none⟩, some ⟨[vi n, .sc (.slice none 0 0)], true, 24, false, false, none⟩] else none else none else none else none else some (.ext 2, [.ps 0 0 0 0, .ps 1 0 0 0, .ps 2 0 0 0, .sl (.pair .u8) mo false, vi (↑(List.length mo) : Int), vi i], [some ⟨[vi z0, .sc (.slice none 0 0)], true, 24, false, false, none⟩, some ⟨[.run (.int .i64) z], true, 74, false, false, none⟩, some ⟨[vi n, .sc (.slice none 0 0)], true, 24, false, false, none⟩])) := by kernel_rfl
abbrev sP8 (mo : Ws) : AV := .sl (.pair .u8) mo false
def l50_7st (n z0 q : Int) (z : List Int) (ws mo : Ws) (t : TypeId) (k : Nat) : Tree (Out × List AV × Hp) := .br (decide (q = mo.length) && decide (k = ws.length) && decide (t = 66) && decide (1 ≤ n) && decide (n ≤ 9) && decide (mo.length ≤ 4) && decide (ws.length ≤ 8) && Brn.p8s mo) (.leaf (.ext 2, [ps 0, ps 1, ps 2, sP8 mo, vi q, vi q], [some (rHz z0), some (rD z), some (rHo n 3 (mo.foldl (Brn.moreW n) ws).length), some (rW (mo.foldl (Brn.moreW n) ws) 66)])) .fail
def l50_7s (base : Nat) (kv : List AV) (H : Hp) : Tree (Out × List AV × Hp) := match Nat.beq base 0, kv, H with
  | true, [(.ps 0 0 0 0), (.ps 1 0 0 0), (.ps 2 0 0 0), (.sl (.pair .u8) mo false), (.sc (.int .i64 q)), (.sc (.int .i64 0))], [some ⟨[.sc (.int .i64 z0), .sc (.slice none 0 0)], true, 24, false, false, none⟩, some ⟨[.run (.int .i64) z], true, 74, false, false, none⟩, some ⟨[.sc (.int .i64 n), .os 3 0 0 k true false true], true, 24, false, true, none⟩, some ⟨[.run (.pair .i64) ws], false, t, false, false, none⟩] => l50_7st n z0 q z ws mo t k
  | _, _, _ => .fail
theorem l50_7s_ok {T : Tab} (hT : TabOK T) (hlo : loopOf T.fn 50 7 = some (lpc T 50 7)) (h : ∀ (n z0 q : Int) (z : List Int) (ws mo : Ws) (t : TypeId) (k : Nat) (r : Out × List AV × Hp), (l50_7st n z0 q z ws mo t k).val = some r → ∃ mm, lpRun T 50 7 0 (lpc T 50 7) mm [ps 0, ps 1, ps 2, sP8 mo, vi q, vi 0] [some (rHz z0), some (rD z), some (rHo n 3 k), some (rW ws t)] = some r) : ∀ base kv H o kv' H', (l50_7s base kv H).val = some (o, kv', H') → LoopOK T 50 7 base kv H o kv' H' := by
  intro base kv H o kv' H' hv
  unfold l50_7s at hv
  split at hv
  · rename_i hb
    obtain rfl := Nat.eq_of_beq_eq_true hb
    exact loop_ok hT hlo (h _ _ _ _ _ _ _ _ _ hv)
  · cases hv
def l50_7nt (z0 n q : Int) (z : List Int) (mo : Ws) : Tree (Out × List AV × Hp) := .br (decide (q = mo.length) && decide (n = 1) && decide (mo.length ≤ 4) && Brn.p8s mo) (.leaf (.ext 2, [ps 0, ps 1, ps 2, sP8 mo, vi q, vi q], [some (rHz z0), some (rD z), some (rHz n)])) .fail
def l50_7n (base : Nat) (kv : List AV) (H : Hp) : Tree (Out × List AV × Hp) := match Nat.beq base 0, kv, H with
  | true, [(.ps 0 0 0 0), (.ps 1 0 0 0), (.ps 2 0 0 0), (.sl (.pair .u8) mo false), (.sc (.int .i64 q)), (.sc (.int .i64 0))], [some ⟨[.sc (.int .i64 z0), .sc (.slice none 0 0)], true, 24, false, false, none⟩, some ⟨[.run (.int .i64) z], true, 74, false, false, none⟩, some ⟨[.sc (.int .i64 n), .sc (.slice none 0 0)], true, 24, false, false, none⟩] => l50_7nt z0 n q z mo
  | _, _, _ => .fail
theorem l50_7n_ok {T : Tab} (hT : TabOK T) (hlo : loopOf T.fn 50 7 = some (lpc T 50 7)) (h : ∀ (z0 n q : Int) (z : List Int) (mo : Ws) (r : Out × List AV × Hp), (l50_7nt z0 n q z mo).val = some r → ∃ mm, lpRun T 50 7 0 (lpc T 50 7) mm [ps 0, ps 1, ps 2, sP8 mo, vi q, vi 0] [some (rHz z0), some (rD z), some (rHz n)] = some r) : ∀ base kv H o kv' H', (l50_7n base kv H).val = some (o, kv', H') → LoopOK T 50 7 base kv H o kv' H' := by
  intro base kv H o kv' H' hv
  unfold l50_7n at hv
  split at hv
  · rename_i hb
    obtain rfl := Nat.eq_of_beq_eq_true hb
    exact loop_ok hT hlo (h _ _ _ _ _ _ hv)
  · cases hv
abbrev aS (s : Brn.Sk) : AV := .agg [.sc (.int .u8 s.places), .run (.int .u8) s.back, .run (.int .u8) s.more, .sc (.int .u8 s.extra)] false
end Go.Ev.Burn
namespace Go.Ev.Burn
open Go Go.Ev
set_option maxRecDepth 1000000
set_option linter.unusedVariables false
noncomputable def M7 : Tab := { (M5.addLoop 50 7 l50_7s).addCall 63 c63 with nest := true }
theorem nf50s (pl x most : Int) (b m : List Int) : evBody M7 50 [.agg [.sc (.int .u8 pl), .run (.int .u8) b, .run (.int .u8) m, .sc (.int .u8 x)] false, vi most] [] = (bif decide (List.map (fun (x : AV) => match x with | .run e l => l.length * e.size | _ => 1) [.sc (.int .u8 pl), .run (.int .u8) b, .run (.int .u8) m, .sc (.int .u8 x)] = List.map (fun (x : AV) => match x with | .run e l => l.length * e.size | _ => 1) ((List.foldl (fun acc f => match acc, zeroC Burn.M7.P 7 f.type with | some a, some c => some (a ++ c) | x, x_1 => none) (some []) [{ name := "Places", type := 5, offset := 0, embedded := false, tag := "", pkgPath := "", byteOffset := 0 : Go.Field }, { name := "Back", type := 68, offset := 1, embedded := false, tag := "", pkgPath := "", byteOffset := 1 : Go.Field }, { name := "More", type := 70, offset := 10, embedded := false, tag := "", pkgPath := "", byteOffset := 10 : Go.Field }, { name := "Extra", type := 5, offset := 18, embedded := false, tag := "", pkgPath := "", byteOffset := 18 : Go.Field }]).getD [])) then bif !decide (most = 0) then bif decide (b.length = 9) && Brn.u8s b && decide (1 ≤ IntKind.i64.wrap (1 + (IntKind.i64.wrap pl).tmod most)) && decide (IntKind.i64.wrap (1 + (IntKind.i64.wrap pl).tmod most) ≤ 9) then bif decide (IntKind.i64.wrap (1 + (IntKind.i64.wrap pl).tmod most) = 1) then bif decide (0 ≤ (IntKind.i64.wrap x).tmod 5) then bif decide ((IntKind.i64.wrap x).tmod 5 ≤ (↑4 : Int)) then bif decide (8 ≤ m.length) then none else none else none else none else bif decide (0 ≤ (IntKind.i64.wrap x).tmod 5) then bif decide ((IntKind.i64.wrap x).tmod 5 ≤ (↑4 : Int)) then bif decide (8 ≤ m.length) then bif decide ((↑(List.take ((IntKind.i64.wrap x).tmod 5).toNat (List.map (fun i => (m.getD (i * 2) 0, m.getD (i * 2 + 1) 0)) (List.range 4))).length : Int) = (↑(List.take ((IntKind.i64.wrap x).tmod 5).toNat (List.map (fun i => (m.getD (i * 2) 0, m.getD (i * 2 + 1) 0)) (List.range 4))).length : Int)) && decide (List.length (Brn.backW b (IntKind.i64.wrap (1 + (IntKind.i64.wrap pl).tmod most))) = List.length (Brn.backW b (IntKind.i64.wrap (1 + (IntKind.i64.wrap pl).tmod most)))) && decide (66 = 66) && decide (1 ≤ IntKind.i64.wrap (1 + (IntKind.i64.wrap pl).tmod most)) && decide (IntKind.i64.wrap (1 + (IntKind.i64.wrap pl).tmod most) ≤ 9) && decide ((List.take ((IntKind.i64.wrap x).tmod 5).toNat (List.map (fun i => (m.getD (i * 2) 0, m.getD (i * 2 + 1) 0)) (List.range 4))).length ≤ 4) && decide (List.length (Brn.backW b (IntKind.i64.wrap (1 + (IntKind.i64.wrap pl).tmod most))) ≤ 8) && Brn.p8s (List.take ((IntKind.i64.wrap x).tmod 5).toNat (List.map (fun i => (m.getD (i * 2) 0, m.getD (i * 2 + 1) 0)) (List.range 4))) then bif sm (List.foldl (Brn.moreW (IntKind.i64.wrap (1 + (IntKind.i64.wrap pl).tmod most))) (Brn.backW b (IntKind.i64.wrap (1 + (IntKind.i64.wrap pl).tmod most))) (List.take ((IntKind.i64.wrap x).tmod 5).toNat (List.map (fun i => (m.getD (i * 2) 0, m.getD (i * 2 + 1) 0)) (List.range 4)))) && decide (1 ≤ IntKind.i64.wrap (1 + (IntKind.i64.wrap pl).tmod most)) && List.all (List.foldl (Brn.moreW (IntKind.i64.wrap (1 + (IntKind.i64.wrap pl).tmod most))) (Brn.backW b (IntKind.i64.wrap (1 + (IntKind.i64.wrap pl).tmod most))) (List.take ((IntKind.i64.wrap x).tmod 5).toNat (List.map (fun i => (m.getD (i * 2) 0, m.getD (i * 2 + 1) 0)) (List.range 4)))) fun w => decide (0 ≤ w.fst) && decide (w.fst < 9) && decide (0 ≤ w.snd) && decide (w.snd < 9) then bif decide (List.map (fun (x : AV) => match x with | .run e l => l.length * e.size | _ => 1) [.run (.int .i64) (Brn.distN (IntKind.i64.wrap (1 + (IntKind.i64.wrap pl).tmod most)) (List.foldl (Brn.moreW (IntKind.i64.wrap (1 + (IntKind.i64.wrap pl).tmod most))) (Brn.backW b (IntKind.i64.wrap (1 + (IntKind.i64.wrap pl).tmod most))) (List.take ((IntKind.i64.wrap x).tmod 5).toNat (List.map (fun i => (m.getD (i * 2) 0, m.getD (i * 2 + 1) 0)) (List.range 4)))))] = List.map (fun (x : AV) => match x with | .run e l => l.length * e.size | _ => 1) ((some [.run (.int .i64) (List.replicate 81 0)]).getD [])) then some (.tuple [.agg [vi (IntKind.i64.wrap (1 + (IntKind.i64.wrap pl).tmod most)), .os 0 0 0 (List.length (List.foldl (Brn.moreW (IntKind.i64.wrap (1 + (IntKind.i64.wrap pl).tmod most))) (Brn.backW b (IntKind.i64.wrap (1 + (IntKind.i64.wrap pl).tmod most))) (List.take ((IntKind.i64.wrap x).tmod 5).toNat (List.map (fun i => (m.getD (i * 2) 0, m.getD (i * 2 + 1) 0)) (List.range 4))))) true false true] true, .agg [.run (.int .i64) (bif decide (IntKind.i64.wrap (1 + (IntKind.i64.wrap pl).tmod most) = 0) then [] else Brn.dist9 (List.foldl (Brn.moreW (IntKind.i64.wrap (1 + (IntKind.i64.wrap pl).tmod most))) (Brn.backW b (IntKind.i64.wrap (1 + (IntKind.i64.wrap pl).tmod most))) (List.take ((IntKind.i64.wrap x).tmod 5).toNat (List.map (fun i => (m.getD (i * 2) 0, m.getD (i * 2 + 1) 0)) (List.range 4)))))] false], [some ⟨[.run (.pair .i64) (List.foldl (Brn.moreW (IntKind.i64.wrap (1 + (IntKind.i64.wrap pl).tmod most))) (Brn.backW b (IntKind.i64.wrap (1 + (IntKind.i64.wrap pl).tmod most))) (List.take ((IntKind.i64.wrap x).tmod 5).toNat (List.map (fun i => (m.getD (i * 2) 0, m.getD (i * 2 + 1) 0)) (List.range 4))))], false, 66, false, false, none⟩]) else none else none else none else none else none else none else none else none else none) := by kernel_rfl
end Go.Ev.Burn
namespace Go.Ev.Burn
open Go Go.Ev
set_option maxRecDepth 1000000
set_option linter.unusedVariables false
def c63z (z : List Int) (args : List AV) (H : Hp) : Tree (AV × Hp) := match args, H with
  | [.agg [.sc (.int .i64 n), .sl (.pair .i64) [] false] false], [] => .br (decide (1 ≤ n) && decide (z = Brn.distN n [])) (.leaf (.agg [.run (.int .i64) z] false, [])) .fail
  | _, _ => .fail
noncomputable def M8 (z : List Int) : Tab := { (M5.addLoop 50 7 l50_7n).addCall 63 (c63z z) with nest := true }
theorem nf50o (z : List Int) (pl x most : Int) (b m : List Int) : evBody (M8 z) 50 [.agg [.sc (.int .u8 pl), .run (.int .u8) b, .run (.int .u8) m, .sc (.int .u8 x)] false, vi most] [] = (bif decide (List.map (fun (x : AV) => match x with | .run e l => l.length * e.size | _ => 1) [.sc (.int .u8 pl), .run (.int .u8) b, .run (.int .u8) m, .sc (.int .u8 x)] = List.map (fun (x : AV) => match x with | .run e l => l.length * e.size | _ => 1) ((List.foldl (fun acc f => match acc, zeroC (Burn.M8 z).P 7 f.type with | some a, some c => some (a ++ c) | x, x_1 => none) (some []) [{ name := "Places", type := 5, offset := 0, embedded := false, tag := "", pkgPath := "", byteOffset := 0 : Go.Field }, { name := "Back", type := 68, offset := 1, embedded := false, tag := "", pkgPath := "", byteOffset := 1 : Go.Field }, { name := "More", type := 70, offset := 10, embedded := false, tag := "", pkgPath := "", byteOffset := 10 : Go.Field }, { name := "Extra", type := 5, offset := 18, embedded := false, tag := "", pkgPath := "", byteOffset := 18 : Go.Field }]).getD [])) then bif !decide (most = 0) then bif decide (b.length = 9) && Brn.u8s b && decide (1 ≤ IntKind.i64.wrap (1 + (IntKind.i64.wrap pl).tmod most)) && decide (IntKind.i64.wrap (1 + (IntKind.i64.wrap pl).tmod most) ≤ 9) then bif decide (IntKind.i64.wrap (1 + (IntKind.i64.wrap pl).tmod most) = 1) then bif decide (0 ≤ (IntKind.i64.wrap x).tmod 5) then bif decide ((IntKind.i64.wrap x).tmod 5 ≤ (↑4 : Int)) then bif decide (8 ≤ m.length) then bif decide ((↑(List.take ((IntKind.i64.wrap x).tmod 5).toNat (List.map (fun i => (m.getD (i * 2) 0, m.getD (i * 2 + 1) 0)) (List.range 4))).length : Int) = (↑(List.take ((IntKind.i64.wrap x).tmod 5).toNat (List.map (fun i => (m.getD (i * 2) 0, m.getD (i * 2 + 1) 0)) (List.range 4))).length : Int)) && decide (IntKind.i64.wrap (1 + (IntKind.i64.wrap pl).tmod most) = 1) && decide ((List.take ((IntKind.i64.wrap x).tmod 5).toNat (List.map (fun i => (m.getD (i * 2) 0, m.getD (i * 2 + 1) 0)) (List.range 4))).length ≤ 4) && Brn.p8s (List.take ((IntKind.i64.wrap x).tmod 5).toNat (List.map (fun i => (m.getD (i * 2) 0, m.getD (i * 2 + 1) 0)) (List.range 4))) then bif decide (1 ≤ IntKind.i64.wrap (1 + (IntKind.i64.wrap pl).tmod most)) && decide (z = Brn.distN (IntKind.i64.wrap (1 + (IntKind.i64.wrap pl).tmod most)) []) then bif decide (List.map (fun (x : AV) => match x with | .run e l => l.length * e.size | _ => 1) [.run (.int .i64) z] = List.map (fun (x : AV) => match x with | .run e l => l.length * e.size | _ => 1) ((some [.run (.int .i64) (List.replicate 81 0)]).getD [])) then some (.tuple [.agg [vi (IntKind.i64.wrap (1 + (IntKind.i64.wrap pl).tmod most)), .sc (.slice none 0 0)] false, .agg [.run (.int .i64) z] false], []) else none else none else none else none else none else none else bif decide (0 ≤ (IntKind.i64.wrap x).tmod 5) then bif decide ((IntKind.i64.wrap x).tmod 5 ≤ (↑4 : Int)) then bif decide (8 ≤ m.length) then none else none else none else none else none else none else none) := by kernel_rfl
def c50t (pl x most : Int) (b m : List Int) : Tree (AV × Hp) := .br (decide (b.length = 9) && decide (m.length = 8) && Brn.u8s b && Brn.u8s m && decide (0 ≤ x) && decide (x < 256) && decide (0 ≤ pl) && decide (pl < 256) && decide (1 ≤ most) && decide (most ≤ 9)) (.br (decide (Brn.skN ⟨pl, b, m, x⟩ most = 1)) (.leaf (.tuple [.agg [vi 1, .sc (.slice none 0 0)] false, .agg [.run (.int .i64) (Brn.distN 1 [])] false], [])) (.leaf (.tuple [.agg [.sc (.int .i64 (Brn.skN ⟨pl, b, m, x⟩ most)), osW 0 (Brn.skW ⟨pl, b, m, x⟩ most).length] true, .agg [.run (.int .i64) (Brn.distN (Brn.skN ⟨pl, b, m, x⟩ most) (Brn.skW ⟨pl, b, m, x⟩ most))] false], [some (rW (Brn.skW ⟨pl, b, m, x⟩ most) 66)]))) .fail
def c50 (args : List AV) (H : Hp) : Tree (AV × Hp) := match args, H with
  | [.agg [.sc (.int .u8 pl), .run (.int .u8) b, .run (.int .u8) m, .sc (.int .u8 x)] false, (.sc (.int .i64 most))], [] => c50t pl x most b m
  | _, _ => .fail
end Go.Ev.Burn
namespace Go.Ev.Burn
open Go Go.Ev
set_option maxRecDepth 1000000
set_option linter.unusedVariables false
set_option linter.unusedSimpArgs false
theorem u8_get {l : List Int} (h : Brn.u8s l = true) {x : Int} (hx : x ∈ l) : 0 ≤ x ∧ x < 256 := by
  unfold Brn.u8s at h
  rw [List.all_eq_true] at h
  simpa using h x hx
theorem u8_getD {l : List Int} (h : Brn.u8s l = true) (i : Nat) : 0 ≤ l.getD i 0 ∧ l.getD i 0 < 256 := by
  rw [List.getD_eq_getElem?_getD]
  cases hx : l[i]? with
  | none => simp
  | some x => exact u8_get h (List.mem_of_getElem? hx)
theorem tmod_bound {a b : Int} (ha : 0 ≤ a) (hb : 0 < b) : 0 ≤ a.tmod b ∧ a.tmod b < b := by
  rw [Int.tmod_eq_emod_of_nonneg ha]
  exact ⟨Int.emod_nonneg _ (by omega), Int.emod_lt_of_pos _ hb⟩
def backK (b : List Int) (k : Nat) : Ws := (List.range k).map fun (i : Nat) => ((b.getD (i + 1) 0).tmod ((i + 1 : Nat) : Int), ((i + 1 : Nat) : Int))
theorem backK_succ (b : List Int) (k : Nat) : backK b (k + 1) = backK b k ++ [((b.getD (k + 1) 0).tmod ((k + 1 : Nat) : Int), ((k + 1 : Nat) : Int))] := by
  unfold backK; rw [List.range_succ, List.map_append]; rfl
theorem backK_len (b : List Int) (k : Nat) : (backK b k).length = k := by simp [backK]
def rowsB (pl x z0 n : Int) (b m z : List Int) (k : Nat) : Hp := match k with
  | 0 => [some (rSk pl b m x), some (rHz z0), some (rD z), some (rHz n)]
  | k + 1 => [some (rSk pl b m x), some (rHz z0), some (rD z), some (rHo n 4 (backK b (k + 1)).length), some (rW (backK b (k + 1)) 66)]
theorem l50_3_run : ∀ base kv H o kv' H', (l50_3 base kv H).val = some (o, kv', H') → LoopOK N3 50 3 base kv H o kv' H' := by
  have h : ∀ base kv H o kv' H', (l50_3 base kv H).val = some (o, kv', H') → LoopOK S15 50 3 base kv H o kv' H' := l50_3_ok S15_ok (by kernel_rfl) (by
    intro pl n x z0 b m z r hv
    obtain ⟨hl, hv2⟩ := guard_val hv
    simp only [Bool.and_eq_true, decide_eq_true_eq] at hl
    obtain ⟨⟨⟨a1, a2⟩, a3⟩, a4⟩ := hl
    obtain ⟨mm, hm⟩ := lpRun_of (T := S15) (fid := 50) (lid := 3) (base := 0) (c := lpc S15 50 3) (fun k : Nat => (k : Int) + 1 ≤ n)
      (fun k => [ps 0, ps 1, ps 2, ps 3, vi ((k + 1 : Nat) : Int)]) (fun k => rowsB pl x z0 n b m z k)
      (fun _ => (.ext 0, [ps 0, ps 1, ps 2, ps 3, vi n], rowsB pl x z0 n b m z (n.toNat - 1))) (fun k => 20 - k)
      (fun k hk again => by
        have hbg : b[k + 1]? = if k + 1 < 9 then some (b.getD (k + 1) 0) else none := by
          split
          · rw [List.getD_eq_getElem?_getD, List.getElem?_eq_getElem (by omega)]; rfl
          · rw [List.getElem?_eq_none (by omega)]
        have hu := u8_getD a2 (k + 1)
        have step : lpStep S15 50 3 0 (lpc S15 50 3) again [ps 0, ps 1, ps 2, ps 3, vi ((k + 1 : Nat) : Int)] (rowsB pl x z0 n b m z k) =
            bif decide (((k + 1 : Nat) : Int) < n) then again [ps 0, ps 1, ps 2, ps 3, vi ((k + 1 + 1 : Nat) : Int)] (rowsB pl x z0 n b m z (k + 1)) else some (.ext 0, [ps 0, ps 1, ps 2, ps 3, vi ((k + 1 : Nat) : Int)], rowsB pl x z0 n b m z k) := by
          cases hlt : decide (((k + 1 : Nat) : Int) < n) with
          | false =>
            cases k with
            | zero =>
              show lpStep S15 50 3 0 (lpc S15 50 3) again [ps 0, ps 1, ps 2, ps 3, vi 1] [some (rSk pl b m x), some (rHz z0), some (rD z), some (rHz n)] = _
              rw [nl50_3n, show decide ((1 : Int) < n) = false from hlt]
              rfl
            | succ k =>
              show lpStep S15 50 3 0 (lpc S15 50 3) again [ps 0, ps 1, ps 2, ps 3, vi ((k + 1 + 1 : Nat) : Int)] [some (rSk pl b m x), some (rHz z0), some (rD z), some (rHo n 4 (backK b (k + 1)).length), some (rW (backK b (k + 1)) 66)] = _
              rw [nl50_3s, hlt]
              rfl
          | true =>
            have hlt' := of_decide_eq_true hlt
            rw [if_pos (show k + 1 < 9 by omega)] at hbg
            have e0 : decide (((k + 1 : Nat) : Int) = 0) = false := decide_eq_false (by omega)
            have hsnoc := backK_succ b k
            cases k with
            | zero =>
              show lpStep S15 50 3 0 (lpc S15 50 3) again [ps 0, ps 1, ps 2, ps 3, vi ((0 + 1 : Nat) : Int)] [some (rSk pl b m x), some (rHz z0), some (rD z), some (rHz n)] = _
              rw [nl50_3n]
              simp only [hlt, dec_ge, toNat_cast, hbg, oM, cond_true, e0, Bool.not_false, decide_eq_true (show ((0 + 1 : Nat) : Int) < 9 by omega)]
              rw [wrapi (x := b.getD (0 + 1) 0) (by omega) (by omega), wrap_succ (by omega)]
              unfold rowsB
              simp only
              rw [hsnoc]
              rfl
            | succ k =>
              show lpStep S15 50 3 0 (lpc S15 50 3) again [ps 0, ps 1, ps 2, ps 3, vi ((k + 1 + 1 : Nat) : Int)] [some (rSk pl b m x), some (rHz z0), some (rD z), some (rHo n 4 (backK b (k + 1)).length), some (rW (backK b (k + 1)) 66)] = _
              rw [nl50_3s]
              have hr : room ((backK b (k + 1)).length + 1) 16 = true := room_ok (by rw [backK_len]; omega) (by omega)
              simp only [hlt, dec_ge, toNat_cast, hbg, oM, cond_true, e0, Bool.not_false, hr, decide_eq_true (show ((k + 1 + 1 : Nat) : Int) < 9 by omega)]
              rw [wrapi (x := b.getD (k + 1 + 1) 0) (by omega) (by omega), wrap_succ (by omega)]
              unfold rowsB
              simp only
              rw [hsnoc, List.length_append]
              rfl
        rw [step]
        by_cases hlt : ((k + 1 : Nat) : Int) < n
        · rw [decide_eq_true hlt]
          exact .inr ⟨k + 1, by omega, by omega, rfl, rfl⟩
        · rw [decide_eq_false hlt]
          left
          have : k = n.toNat - 1 := by omega
          subst this
          rw [show ((n.toNat - 1 + 1 : Nat) : Int) = n by omega]
          rfl) 0 (by omega)
    refine ⟨mm, hm.trans ?_⟩
    rcases br_val hv2 with ⟨h, hv3⟩ | ⟨h, hv3⟩
    · have h1 := of_decide_eq_true h
      subst h1
      rw [leaf_val hv3]; rfl
    · have h1 := of_decide_eq_false h
      rw [leaf_val hv3]
      obtain ⟨k, hk⟩ : ∃ k, n.toNat - 1 = k + 1 := ⟨n.toNat - 2, by omega⟩
      unfold Brn.backW
      rw [hk]
      rfl)
  exact fun b k H o k' H' hv => by refine LoopOK.tab ?_ ?_ ?_ ?_ (h b k H o k' H' hv) <;> rfl
theorem M1_ok : TabOK M1 := by
  have h := N3_ok
  have h := h.addLoop (g := 50) (lid := 3) (r := l50_3) fun b k H o k' H' hv => by refine LoopOK.tab ?_ ?_ ?_ ?_ (l50_3_run b k H o k' H' hv) <;> rfl
  exact h
theorem M2_ok : TabOK M2 := by
  have h := M1_ok
  exact ⟨fun f a H v H' hv => by refine CallOK.tab ?_ ?_ (h.calls f a H v H' hv) <;> rfl, fun f l b k H o k' H' hv => by refine LoopOK.tab ?_ ?_ ?_ ?_ (h.loops f l b k H o k' H' hv) <;> rfl, h.fns, h.mixed⟩
theorem l101_2_run : ∀ base kv H o kv' H', (l101_2 base kv H).val = some (o, kv', H') → LoopOK M2 101 2 base kv H o kv' H' := l101_2_ok M2_ok (by kernel_rfl) (by
  intro ws t a b m k r hv
  obtain ⟨hl, hv2⟩ := guard_val hv
  simp only [Bool.and_eq_true, decide_eq_true_eq] at hl
  obtain ⟨⟨hs, rfl⟩, rfl⟩ := hl
  have hws := sm_le hs
  obtain ⟨mm, hm⟩ := each_of (T := M2) (fid := 101) (lid := 2) (base := 1) (c := lpc M2 101 2) ws (fun _ _ => True) (fun (i : Nat) (_ : Unit) (x : Int × Int) => bif [x.1, x.2] == [a, b] then .inl (.ret, [osW 0 ws.length, ps 1, vi i, vi ws.length, vi i], [some (rW ws t), some (rPr a b)]) else .inr ())
    (fun i _ => [osW 0 ws.length, ps 1, vi 0, vi ws.length, vi i]) (fun _ => [some (rW ws t), some (rPr a b)]) (fun _ => (.ext 0, [osW 0 ws.length, ps 1, vi 0, vi ws.length, vi ws.length], [some (rW ws t), some (rPr a b)]))
    (fun i x _ hx hlt _ again => by
      rw [nl101, wrap_succ (by omega)]
      simp only [dec_lt hlt, dec_ge, cond_true, toNat_cast, hx, oM]
      rw [show ([a, b] == [x.1, x.2]) = ([x.1, x.2] == [a, b]) from BEq.comm]
      cases [x.1, x.2] == [a, b] <;> rfl)
    (fun _ _ _ _ _ _ _ _ => trivial)
    (fun _ _ again => by
      rw [nl101]
      simp only [dec_ll, cond_false]) () trivial
  refine ⟨mm, hm.trans ?_⟩
  have key : ∀ (l : Ws) (i : Nat), endX (fun _ : Unit => ((.ext 0, [osW 0 ws.length, ps 1, vi 0, vi ws.length, vi ws.length], [some (rW ws t), some (rPr a b)]) : Out × List AV × Hp)) (foldX (fun (i : Nat) (_ : Unit) (x : Int × Int) => bif [x.1, x.2] == [a, b] then .inl (.ret, [osW 0 ws.length, ps 1, vi i, vi ws.length, vi i], [some (rW ws t), some (rPr a b)]) else .inr ()) i l ()) =
      bif Brn.way l a b then (.ret, [osW 0 ws.length, ps 1, vi ((i + l.findIdx fun w => [w.1, w.2] == [a, b] : Nat) : Int), vi ws.length, vi ((i + l.findIdx fun w => [w.1, w.2] == [a, b] : Nat) : Int)], [some (rW ws t), some (rPr a b)]) else (.ext 0, [osW 0 ws.length, ps 1, vi 0, vi ws.length, vi ws.length], [some (rW ws t), some (rPr a b)]) := by
    intro l
    induction l with
    | nil => intro i; rfl
    | cons w l ih =>
      intro i
      simp only [foldX, Brn.way, List.any_cons, List.findIdx_cons]
      cases hw : [w.1, w.2] == [a, b] with
      | true => simp [endX]
      | false =>
        simp only [cond_false, Bool.false_or]
        rw [ih]
        simp only [Brn.way, Nat.add_assoc, Nat.add_comm 1]
  rw [key ws 0]
  simp only [Nat.zero_add]
  rcases br_val hv2 with ⟨h, hv3⟩ | ⟨h, hv3⟩ <;> rw [leaf_val hv3, h] <;> rfl)
theorem M3_ok : TabOK M3 := by
  have h := M2_ok
  have h := h.addLoop (g := 101) (lid := 2) (r := l101_2) fun b k H o k' H' hv => by refine LoopOK.tab ?_ ?_ ?_ ?_ (l101_2_run b k H o k' H' hv) <;> rfl
  exact h
theorem c101_run : ∀ args H v H', (c101 args H).val = some (v, H') → CallOK M3 101 args H v H' := c101_ok M3_ok (by
  intro ws t a b k r hv
  obtain ⟨hl, hv2⟩ := guard_val hv
  simp only [Bool.and_eq_true, decide_eq_true_eq] at hl
  obtain ⟨hs, rfl⟩ := hl
  rw [leaf_val hv2, nf101, hs]
  simp only [decide_true, Bool.and_self, cond_true]
  cases Brn.way ws a b <;> rfl)
theorem M4_ok : TabOK M4 := by
  have h := M3_ok
  have h := h.addCall (g := 101) (r := c101) fun a H v H' hv => by refine CallOK.tab ?_ ?_ (c101_run a H v H' hv) <;> rfl
  exact h
theorem c88_run : ∀ args H v H', (c88 args H).val = some (v, H') → CallOK M4 88 args H v H' := c88_ok M4_ok (by
  intro ws t a b k r hv
  obtain ⟨hl, hv2⟩ := guard_val hv
  simp only [Bool.and_eq_true, decide_eq_true_eq] at hl
  obtain ⟨hs, rfl⟩ := hl
  rw [leaf_val hv2, nf88, hs]
  simp only [decide_true, Bool.and_self, cond_true]
  cases Brn.way ws a b with
  | false => rfl
  | true => unfold Brn.wayAt; simp only [cond_true, decide_eq_true (show ((ws.findIdx fun w => [w.1, w.2] == [a, b] : Nat) : Int) ≥ 0 by omega)])
theorem M5_ok : TabOK M5 := by
  have h := M4_ok
  have h := h.addCall (g := 88) (r := c88) fun a H v H' hv => by refine CallOK.tab ?_ ?_ (c88_run a H v H' hv) <;> rfl
  exact h
theorem p8_get {l : Ws} (h : Brn.p8s l = true) {x : Int × Int} (hx : x ∈ l) : (0 ≤ x.1 ∧ x.1 < 256) ∧ 0 ≤ x.2 ∧ x.2 < 256 := by
  unfold Brn.p8s at h
  rw [List.all_eq_true] at h
  have := h x hx
  simp only [Bool.and_eq_true, decide_eq_true_eq] at this
  omega
theorem l50_7s_run : ∀ base kv H o kv' H', (l50_7s base kv H).val = some (o, kv', H') → LoopOK M5 50 7 base kv H o kv' H' := l50_7s_ok M5_ok (by kernel_rfl) (by
  intro n z0 q z ws mo t k r hv
  obtain ⟨hl, hv2⟩ := guard_val hv
  simp only [Bool.and_eq_true, decide_eq_true_eq] at hl
  obtain ⟨⟨⟨⟨⟨⟨⟨rfl, rfl⟩, rfl⟩, a1⟩, a2⟩, a3⟩, a4⟩, a5⟩ := hl
  obtain ⟨mm, hm⟩ := fold_of (T := M5) (fid := 50) (lid := 7) (base := 0) (c := lpc M5 50 7) mo (fun i s => s.length ≤ 8 + i) (Brn.moreW n)
    (fun i s => [ps 0, ps 1, ps 2, sP8 mo, vi mo.length, vi i]) (fun s => [some (rHz z0), some (rD z), some (rHo n 3 s.length), some (rW s 66)]) (fun s => (.ext 2, [ps 0, ps 1, ps 2, sP8 mo, vi mo.length, vi mo.length], [some (rHz z0), some (rD z), some (rHo n 3 s.length), some (rW s 66)]))
    (fun i x s hx hlt hI again => by
      obtain ⟨b1, b2⟩ := p8_get a5 (List.mem_of_getElem? hx)
      obtain ⟨x0, x1⟩ := x
      simp only at b1 b2
      have hr : room (s.length + 1) 16 = true := room_ok (by omega) (by omega)
      have hsm : sm s = true := sm_of (k := 12) (by omega) (by omega)
      rw [nl50_7s, wrap_succ (by omega)]
      simp only [dec_lt hlt, dec_ge, cond_true, toNat_cast, hx, oM, decide_eq_false (show ¬ n = 0 by omega), Bool.not_false, hr, hsm, decide_true, Bool.and_self]
      rw [wrapi (x := x0) (by omega) (by omega), wrapi (x := x1) (by omega) (by omega), mif, mx]
      unfold Brn.moreW
      cases x0.tmod n != x1.tmod n with
      | false => rfl
      | true =>
        simp only [cond_true, Bool.true_and]
        cases Brn.way s (min (x0.tmod n) (x1.tmod n)) (max (x0.tmod n) (x1.tmod n)) with
        | true => rfl
        | false =>
          simp only [Bool.not_false, cond_true, List.length_append, List.length_singleton])
    (fun i x s hx hlt hI => by
      unfold Brn.moreW
      cases (x.1.tmod n != x.2.tmod n && !Brn.way s (min (x.1.tmod n) (x.2.tmod n)) (max (x.1.tmod n) (x.2.tmod n))) with
      | true => simp only [cond_true, List.length_append, List.length_singleton]; omega
      | false => simp only [cond_false]; omega)
    (fun s hI again => by
      rw [nl50_7s]
      simp only [dec_ll, cond_false]) ws (by omega)
  refine ⟨mm, hm.trans ?_⟩
  rw [leaf_val hv2])
theorem l50_7n_run : ∀ base kv H o kv' H', (l50_7n base kv H).val = some (o, kv', H') → LoopOK M5 50 7 base kv H o kv' H' := l50_7n_ok M5_ok (by kernel_rfl) (by
  intro z0 n q z mo r hv
  obtain ⟨hl, hv2⟩ := guard_val hv
  simp only [Bool.and_eq_true, decide_eq_true_eq] at hl
  obtain ⟨⟨⟨rfl, rfl⟩, a3⟩, a5⟩ := hl
  obtain ⟨mm, hm⟩ := fold_of (T := M5) (fid := 50) (lid := 7) (base := 0) (c := lpc M5 50 7) mo (fun _ _ => True) (fun (s : Unit) _ => s)
    (fun i s => [ps 0, ps 1, ps 2, sP8 mo, vi mo.length, vi i]) (fun s => [some (rHz z0), some (rD z), some (rHz 1)]) (fun s => (.ext 2, [ps 0, ps 1, ps 2, sP8 mo, vi mo.length, vi mo.length], [some (rHz z0), some (rD z), some (rHz 1)]))
    (fun i x s hx hlt hI again => by
      obtain ⟨b1, b2⟩ := p8_get a5 (List.mem_of_getElem? hx)
      obtain ⟨x0, x1⟩ := x
      simp only at b1 b2
      rw [nl50_7n, wrap_succ (by omega)]
      simp only [dec_lt hlt, dec_ge, cond_true, toNat_cast, hx, oM, show decide ((1 : Int) = 0) = false from rfl, Bool.not_false]
      rw [wrapi (x := x0) (by omega) (by omega), wrapi (x := x1) (by omega) (by omega), Int.tmod_one, Int.tmod_one]
      rfl)
    (fun _ _ _ _ _ _ => trivial)
    (fun s hI again => by
      rw [nl50_7n]
      simp only [dec_ll, cond_false]) () trivial
  refine ⟨mm, hm.trans ?_⟩
  rw [leaf_val hv2])
end Go.Ev.Burn
