/- The program's functions of the burn chapter that are called from outside: tables and normal forms. -/
import Derived.Test.YtpieoljeikpemaaDoorSc
import Derived.Test.YtpieoljeikpemaaDoorSa
set_option linter.unusedVariables false
set_option linter.unusedSimpArgs false
namespace Go.Ev.Burn
open Go Go.Ev
set_option maxRecDepth 1000000
set_option linter.unusedVariables false
def c65t (n : Int) (ws : Ws) (pl : List Int) : Tree (AV × Hp) := .br (sm ws && sm pl) (.br (Brn.openErr n ws pl == 0) (.leaf (.tuple [ps 0, vi 0], [some (rG n (Brn.ground n ws))])) (.leaf (.tuple [nilP, vi (Brn.openErr n ws pl)], []))) .fail
def c65 (args : List AV) (H : Hp) : Tree (AV × Hp) := match args, H with
  | [(.agg [.sc (.int .i64 n), .sl (.pair .i64) ws false] false), (.sl (.int .i64) pl false)], [] => c65t n ws pl
  | _, _ => .fail
theorem c65_ok {T : Tab} (hT : TabOK T) (h : ∀ (n : Int) (ws : Ws) (pl : List Int) (r : AV × Hp), (c65t n ws pl).val = some r → evBody T 65 [aH n ws, lI pl] [] = some r) : ∀ args H v H', (c65 args H).val = some (v, H') → CallOK T 65 args H v H' := by
  intro args H v H' hv
  unfold c65 at hv
  split at hv
  · exact evBody_sound hT (h _ _ _ _ hv)
  · cases hv
def l93_2t (l : List Int) (to n : Int) : Tree (Out × List AV × Hp) := .br (sm l && decide (0 ≤ to) && decide (n = l.length)) (.br (l.any fun x => Brn.bitU x to) (.leaf (.ret, [lU l, .fn (.func 94) [] [pI to], vi ((l.findIdx fun x => Brn.bitU x to) : Nat), vi n, vi ((l.findIdx fun x => Brn.bitU x to) : Nat)], [])) (.leaf (.ext 0, [lU l, .fn (.func 94) [] [pI to], vi 0, vi n, vi n], []))) .fail
def l93_2 (base : Nat) (kv : List AV) (H : Hp) : Tree (Out × List AV × Hp) := match Nat.beq base 0, kv, H with
  | true, [(.sl (.int .u64) l false), .fn (.func 94) [] [(.pt [.sc (.int .i64 to)] (some 3) 0 0 0)], (.sc (.int .i64 0)), (.sc (.int .i64 n)), (.sc (.int .i64 0))], [] => l93_2t l to n
  | _, _, _ => .fail
theorem l93_2_ok {T : Tab} (hT : TabOK T) (hlo : loopOf T.fn 93 2 = some (lpc T 93 2)) (h : ∀ (l : List Int) (to n : Int) (r : Out × List AV × Hp), (l93_2t l to n).val = some r → ∃ mm, lpRun T 93 2 0 (lpc T 93 2) mm [lU l, .fn (.func 94) [] [pI to], vi 0, vi n, vi 0] [] = some r) : ∀ base kv H o kv' H', (l93_2 base kv H).val = some (o, kv', H') → LoopOK T 93 2 base kv H o kv' H' := by
  intro base kv H o kv' H' hv
  unfold l93_2 at hv
  split at hv
  · rename_i hb
    obtain rfl := Nat.eq_of_beq_eq_true hb
    exact loop_ok hT hlo (h _ _ _ _ hv)
  · cases hv
noncomputable def S6 : Tab := (((S5).addCall 65 c65).addCall 69 c69).addLoop 93 2 l93_2
theorem nf93 (l : List Int) (to : Int) : evBody S6 93 [lU l, .fn (.func 94) [] [pI to]] [] = (bif sm l && decide (0 ≤ to) && decide ((↑l.length : Int) = (↑l.length : Int)) then bif l.any fun x => Brn.bitU x to then some (vi (↑(List.findIdx (fun x => Brn.bitU x to) l) : Int), []) else some (vi (-1), []) else none) := by kernel_rfl
def c93t (l : List Int) (to : Int) : Tree (AV × Hp) := .br (sm l && decide (0 ≤ to)) (.br (l.any fun x => Brn.bitU x to) (.leaf (vi ((l.findIdx fun x => Brn.bitU x to) : Nat), [])) (.leaf (vi (-1), []))) .fail
def c93 (args : List AV) (H : Hp) : Tree (AV × Hp) := match args, H with
  | [(.sl (.int .u64) l false), .fn (.func 94) [] [(.pt [.sc (.int .i64 to)] (some 3) 0 0 0)]], [] => c93t l to
  | _, _ => .fail
theorem c93_ok {T : Tab} (hT : TabOK T) (h : ∀ (l : List Int) (to : Int) (r : AV × Hp), (c93t l to).val = some r → evBody T 93 [lU l, .fn (.func 94) [] [pI to]] [] = some r) : ∀ args H v H', (c93 args H).val = some (v, H') → CallOK T 93 args H v H' := by
  intro args H v H' hv
  unfold c93 at hv
  split at hv
  · exact evBody_sound hT (h _ _ _ hv)
  · cases hv
noncomputable def S7 : Tab := (S6).addCall 93 c93
theorem nf66 (n : Int) (l : List Int) (a b : Int) : evBody S7 66 [aG n l, vi a, vi b] [] = (bif decide (0 ≤ a) then bif decide (a < (↑9 : Int)) then bif decide (9 + a.toNat * 9 ≤ l.length) then bif sm (List.take 9 (List.drop (a.toNat * 9) l)) && decide (0 ≤ b) then bif (List.take 9 (List.drop (a.toNat * 9) l)).any fun x => Brn.bitU x b then some (.sc (.int .i64 (↑(List.findIdx (fun x => Brn.bitU x b) (List.take 9 (List.drop (a.toNat * 9) l))) : Int)), []) else some (vi (-1), []) else none else none else none else none) := by kernel_rfl
theorem nf25 (n : Int) (ws : Ws) : evBody S7 25 [aH n ws] [] = (bif sm ws && sm ([] : List Int) then bif Brn.openErr n ws [] == 0 then some (vi 0, []) else some (vi (Brn.openErr n ws []), []) else none) := by kernel_rfl
theorem nf19 (n : Int) (ws : Ws) (a most : Int) : evBody S7 19 [aH n ws, vi a, vi most] [] = (bif sm ws && sm [a] then bif Brn.openErr n ws [a] == 0 then bif decide (most < 0) then some (.tuple [osW 0 0, vi 1], [some ⟨[.run (.int .i64) []], false, 0, false, false, none⟩]) else bif decide (0 ≤ a) then bif decide (a < (↑9 : Int)) then bif decide (0 ≤ if 8 < most then 8 else most) then bif decide ((if 8 < most then 8 else most) < (↑9 : Int)) then oM (Brn.ground n ws)[(if 8 < most then 8 else most).toNat + a.toNat * 9]? fun x => bif decide (0 ≤ x) && decide (x < 512) then some (.tuple [.os 0 0 0 (Brn.bitsOf (Int.toNat x)).length true false true, vi 0], [some ⟨[.run (.int .i64) (List.map Int.ofNat (Brn.bitsOf (Int.toNat x)))], false, Burn.tyI (List.map Int.ofNat (Brn.bitsOf (Int.toNat x))), false, false, none⟩]) else none else none else none else none else none else bif Brn.openErr n ws [a] != 0 then some (.tuple [osW 0 0, vi (Brn.openErr n ws [a])], [some ⟨[.run (.int .i64) []], false, 0, false, false, none⟩]) else bif decide (most < 0) then some (.tuple [osW 0 0, vi 1], [some ⟨[.run (.int .i64) []], false, 0, false, false, none⟩]) else none else none) := by kernel_rfl
theorem nl72_3 (again : Ag) (n : Int) (g : List Int) (day x i m : Int) (fs : List Int) : lpStep S7 72 3 0 (lpc S7 72 3) again [aG n g, vi day, vint .u64 x, lI fs, vi m, vi i] [] = (bif decide (i < m) then bif decide (0 ≤ i) then bif decide (i < (↑fs.length : Int)) then oM fs[i.toNat]? fun x_1 => bif decide (0 ≤ x_1) then bif decide (x_1 < (↑9 : Int)) then bif decide (0 ≤ IntKind.i64.wrap (day - i)) then bif decide (IntKind.i64.wrap (day - i) < (↑9 : Int)) then oM g[(IntKind.i64.wrap (day - i)).toNat + Int.toNat x_1 * 9]? fun x_2 => again [.pt [vi n, .run (.int .u64) g] (some 111) 0 0 0, vi day, .sc (.int .u64 (IntKind.u64.wrap (↑(BitVec.ofInt 64 x ||| BitVec.ofInt 64 x_2).toNat : Int))), .sl (.int .i64) fs false, vi m, vi (IntKind.i64.wrap (i + 1))] [] else none else none else none else none else none else none else some (.ext 0, [.pt [vi n, .run (.int .u64) g] (some 111) 0 0 0, vi day, .sc (.int .u64 x), .sl (.int .i64) fs false, vi m, vi i], [])) := by kernel_rfl
def c66t (n : Int) (l : List Int) (a b : Int) : Tree (AV × Hp) := .br (decide (0 ≤ a) && decide (a < 9) && decide (0 ≤ b) && decide (l.length = 81)) (.leaf (vi (Brn.idx9 (Brn.farI l a b)), [])) .fail
def c66 (args : List AV) (H : Hp) : Tree (AV × Hp) := match args, H with
  | [(.pt [.sc (.int .i64 n), .run (.int .u64) l] (some 111) 0 0 0), (.sc (.int .i64 a)), (.sc (.int .i64 b))], [] => c66t n l a b
  | _, _ => .fail
theorem c66_ok {T : Tab} (hT : TabOK T) (h : ∀ (n : Int) (l : List Int) (a b : Int) (r : AV × Hp), (c66t n l a b).val = some r → evBody T 66 [aG n l, vi a, vi b] [] = some r) : ∀ args H v H', (c66 args H).val = some (v, H') → CallOK T 66 args H v H' := by
  intro args H v H' hv
  unfold c66 at hv
  split at hv
  · exact evBody_sound hT (h _ _ _ _ _ hv)
  · cases hv
def c25t (n : Int) (ws : Ws) : Tree (AV × Hp) := .br (sm ws) (.leaf (vi (Brn.chkP n ws), [])) .fail
def c25 (args : List AV) (H : Hp) : Tree (AV × Hp) := match args, H with
  | [(.agg [.sc (.int .i64 n), .sl (.pair .i64) ws false] false)], [] => c25t n ws
  | _, _ => .fail
theorem c25_ok {T : Tab} (hT : TabOK T) (h : ∀ (n : Int) (ws : Ws) (r : AV × Hp), (c25t n ws).val = some r → evBody T 25 [aH n ws] [] = some r) : ∀ args H v H', (c25 args H).val = some (v, H') → CallOK T 25 args H v H' := by
  intro args H v H' hv
  unfold c25 at hv
  split at hv
  · exact evBody_sound hT (h _ _ _ hv)
  · cases hv
noncomputable def S8 : Tab := ((S7).addCall 66 c66).addCall 25 c25
theorem nf17 (n : Int) (ws : Ws) (a b : Int) : evBody S8 17 [aH n ws, vi a, vi b] [] = (bif sm ws && sm [a, b] then bif Brn.openErr n ws [a, b] == 0 then bif decide (0 ≤ a) && decide (a < 9) && decide (0 ≤ b) && decide ((Brn.ground n ws).length = 81) then some (.tuple [vi (Brn.idx9 (Brn.farI (Brn.ground n ws) a b)), vi 0], []) else none else bif Brn.openErr n ws [a, b] != 0 then some (.tuple [vi 0, vi (Brn.openErr n ws [a, b])], []) else none else none) := by kernel_rfl
theorem nf71 (n : Int) (ws : Ws) (fires : List Int) : evBody S8 71 [aH n ws, lI fires] [] = (bif sm ws then bif Brn.chkP n ws != 0 then some (.tuple [.sc (.pointer none), vi (Brn.chkP n ws)], []) else bif (↑fires.length : Int) == 0 then some (.tuple [.sc (.pointer none), vi 4], []) else bif decide ((↑fires.length : Int) > 9) then some (.tuple [.sc (.pointer none), vi 3], []) else bif sm ws && sm fires then bif Brn.openErr n ws fires == 0 then some (.tuple [.ps 0 0 0 0, vi 0], [some ⟨[vi n, .run (.int .u64) (Brn.ground n ws)], true, 111, false, false, none⟩]) else some (.tuple [.sc (.pointer none), vi (Brn.openErr n ws fires)], []) else none else none) := by kernel_rfl
def l72_3t (n : Int) (g : List Int) (day m : Int) (fs : List Int) : Tree (Out × List AV × Hp) := .br (sm fs && decide (m = fs.length) && decide (g.length = 81) && decide (0 ≤ day) && decide (day + 1 = fs.length) && decide (fs.length ≤ 9) && fs.all (fun p => decide (0 ≤ p) && decide (p < 9))) (.leaf (.ext 0, [aG n g, vi day, vint .u64 (Brn.onP g fs day.toNat), lI fs, vi m, vi m], [])) .fail
def l72_3 (base : Nat) (kv : List AV) (H : Hp) : Tree (Out × List AV × Hp) := match Nat.beq base 0, kv, H with
  | true, [(.pt [.sc (.int .i64 n), .run (.int .u64) g] (some 111) 0 0 0), (.sc (.int .i64 day)), (.sc (.int .u64 0)), (.sl (.int .i64) fs false), (.sc (.int .i64 m)), (.sc (.int .i64 0))], [] => l72_3t n g day m fs
  | _, _, _ => .fail
theorem l72_3_ok {T : Tab} (hT : TabOK T) (hlo : loopOf T.fn 72 3 = some (lpc T 72 3)) (h : ∀ (n : Int) (g : List Int) (day m : Int) (fs : List Int) (r : Out × List AV × Hp), (l72_3t n g day m fs).val = some r → ∃ mm, lpRun T 72 3 0 (lpc T 72 3) mm [aG n g, vi day, vint .u64 0, lI fs, vi m, vi 0] [] = some r) : ∀ base kv H o kv' H', (l72_3 base kv H).val = some (o, kv', H') → LoopOK T 72 3 base kv H o kv' H' := by
  intro base kv H o kv' H' hv
  unfold l72_3 at hv
  split at hv
  · rename_i hb
    obtain rfl := Nat.eq_of_beq_eq_true hb
    exact loop_ok hT hlo (h _ _ _ _ _ _ hv)
  · cases hv
def c71t (n : Int) (ws : Ws) (fires : List Int) : Tree (AV × Hp) := .br (sm ws && sm fires) (.br (Brn.laidP n ws fires == 0) (.leaf (.tuple [ps 0, vi 0], [some (rG n (Brn.ground n ws))])) (.leaf (.tuple [nilP, vi (Brn.laidP n ws fires)], []))) .fail
def c71 (args : List AV) (H : Hp) : Tree (AV × Hp) := match args, H with
  | [(.agg [.sc (.int .i64 n), .sl (.pair .i64) ws false] false), (.sl (.int .i64) fires false)], [] => c71t n ws fires
  | _, _ => .fail
theorem c71_ok {T : Tab} (hT : TabOK T) (h : ∀ (n : Int) (ws : Ws) (fires : List Int) (r : AV × Hp), (c71t n ws fires).val = some r → evBody T 71 [aH n ws, lI fires] [] = some r) : ∀ args H v H', (c71 args H).val = some (v, H') → CallOK T 71 args H v H' := by
  intro args H v H' hv
  unfold c71 at hv
  split at hv
  · exact evBody_sound hT (h _ _ _ _ hv)
  · cases hv
noncomputable def S9 : Tab := ((S8).addLoop 72 3 l72_3).addCall 71 c71
theorem nf72 (n : Int) (g : List Int) (day : Int) (fs : List Int) : evBody S9 72 [aG n g, lI fs, vi day] [] = (bif decide (0 ≤ IntKind.i64.wrap (day + 1)) then bif decide (IntKind.i64.wrap (day + 1) ≤ (↑fs.length : Int)) then bif sm (List.take (IntKind.i64.wrap (day + 1)).toNat fs) && decide ((↑(List.take (IntKind.i64.wrap (day + 1)).toNat fs).length : Int) = (↑(List.take (IntKind.i64.wrap (day + 1)).toNat fs).length : Int)) && decide (g.length = 81) && decide (0 ≤ day) && decide (day + 1 = (↑(List.take (IntKind.i64.wrap (day + 1)).toNat fs).length : Int)) && decide ((List.take (IntKind.i64.wrap (day + 1)).toNat fs).length ≤ 9) && (List.take (IntKind.i64.wrap (day + 1)).toNat fs).all fun p => decide (0 ≤ p) && decide (p < 9) then some (.sc (.int .u64 (Brn.onP g (List.take (IntKind.i64.wrap (day + 1)).toNat fs) day.toNat)), []) else none else none else none) := by kernel_rfl
def c72t (n : Int) (g : List Int) (day : Int) (fs : List Int) : Tree (AV × Hp) := .br (decide (g.length = 81) && decide (0 ≤ day) && decide (day < fs.length) && decide (fs.length ≤ 9) && fs.all (fun p => decide (0 ≤ p) && decide (p < 9))) (.leaf (vint .u64 (Brn.onP g fs day.toNat), [])) .fail
def c72 (args : List AV) (H : Hp) : Tree (AV × Hp) := match args, H with
  | [(.pt [.sc (.int .i64 n), .run (.int .u64) g] (some 111) 0 0 0), (.sl (.int .i64) fs false), (.sc (.int .i64 day))], [] => c72t n g day fs
  | _, _ => .fail
theorem c72_ok {T : Tab} (hT : TabOK T) (h : ∀ (n : Int) (g : List Int) (day : Int) (fs : List Int) (r : AV × Hp), (c72t n g day fs).val = some r → evBody T 72 [aG n g, lI fs, vi day] [] = some r) : ∀ args H v H', (c72 args H).val = some (v, H') → CallOK T 72 args H v H' := by
  intro args H v H' hv
  unfold c72 at hv
  split at hv
  · exact evBody_sound hT (h _ _ _ _ _ hv)
  · cases hv
noncomputable def S10 : Tab := (S9).addCall 72 c72
theorem nf27 (n : Int) (ws : Ws) (fires : List Int) : evBody S10 27 [aH n ws, lI fires] [] = (bif sm ws && sm fires then bif Brn.laidP n ws fires == 0 then bif decide ((Brn.ground n ws).length = 81) && decide (0 ≤ IntKind.i64.wrap ((↑fires.length : Int) - 1)) && decide (IntKind.i64.wrap ((↑fires.length : Int) - 1) < (↑fires.length : Int)) && decide (fires.length ≤ 9) && fires.all fun p => decide (0 ≤ p) && decide (p < 9) then bif decide (0 ≤ n) && decide (n ≤ 9) then bif Brn.onP (Brn.ground n ws) fires (IntKind.i64.wrap ((↑fires.length : Int) - 1)).toNat != Brn.allN n then some (vi 14, []) else some (vi 0, []) else none else none else bif Brn.laidP n ws fires != 0 then some (vi (Brn.laidP n ws fires), []) else none else none) := by kernel_rfl
theorem nl21 (again : Ag) (n : Int) (g : List Int) (fs : List Int) (out : List (List Int)) (i m : Int) (t : TypeId) : lpStep S10 21 6 0 (lpc S10 21 6) again [lI fs, ps 0, osW 1 out.length, vi m, vi i] [some (rG n g), some (rowL out t)] = (bif decide (i < m) then bif decide (g.length = 81) && decide (0 ≤ i) && decide (i < (↑fs.length : Int)) && decide (fs.length ≤ 9) && fs.all fun p => decide (0 ≤ p) && decide (p < 9) then bif decide (0 ≤ Brn.onP g fs i.toNat) && decide (Brn.onP g fs i.toNat < 512) then bif room (out.length + 1) 24 then again [.sl (.int .i64) fs false, .ps 0 0 0 0, osW 1 (out.length + 1), vi m, vi (IntKind.i64.wrap (i + 1))] [some ⟨[vi n, .run (.int .u64) g], true, 111, false, false, none⟩, some ⟨[.run (.ilist .i64) (out ++ [List.map Int.ofNat (Brn.bitsOf (Brn.onP g fs i.toNat).toNat)])], false, 25, false, false, none⟩] else none else none else none else some (.ext 0, [.sl (.int .i64) fs false, .ps 0 0 0 0, osW 1 out.length, vi m, vi i], [some ⟨[vi n, .run (.int .u64) g], true, 111, false, false, none⟩, some ⟨[.run (.ilist .i64) out], false, t, false, false, none⟩])) := by kernel_rfl
def l21_6t (n : Int) (g : List Int) (m : Int) (fs : List Int) : Tree (Out × List AV × Hp) := .br (sm fs && decide (m = fs.length) && decide (g.length = 81) && decide (fs.length ≤ 9) && fs.all (fun p => decide (0 ≤ p) && decide (p < 9)) && (List.range fs.length).all (fun d => decide (0 ≤ Brn.onP g fs d) && decide (Brn.onP g fs d < 512))) (.leaf (.ext 0, [lI fs, ps 0, osW 1 (Brn.burntP g fs).length, vi m, vi m], [some (rG n g), some (rL (Brn.burntP g fs))])) .fail
def l21_6 (base : Nat) (kv : List AV) (H : Hp) : Tree (Out × List AV × Hp) := match Nat.beq base 0, kv, H with
  | true, [(.sl (.int .i64) fs false), (.ps 0 0 0 0), (.os 1 0 0 0 true false true), (.sc (.int .i64 m)), (.sc (.int .i64 0))], [some ⟨[.sc (.int .i64 n), .run (.int .u64) g], true, 111, false, false, none⟩, some ⟨[.run (.ilist .i64) []], false, 0, false, false, none⟩] => l21_6t n g m fs
  | _, _, _ => .fail
theorem l21_6_ok {T : Tab} (hT : TabOK T) (hlo : loopOf T.fn 21 6 = some (lpc T 21 6)) (h : ∀ (n : Int) (g : List Int) (m : Int) (fs : List Int) (r : Out × List AV × Hp), (l21_6t n g m fs).val = some r → ∃ mm, lpRun T 21 6 0 (lpc T 21 6) mm [lI fs, ps 0, osW 1 0, vi m, vi 0] [some (rG n g), some (rowL [] 0)] = some r) : ∀ base kv H o kv' H', (l21_6 base kv H).val = some (o, kv', H') → LoopOK T 21 6 base kv H o kv' H' := by
  intro base kv H o kv' H' hv
  unfold l21_6 at hv
  split at hv
  · rename_i hb
    obtain rfl := Nat.eq_of_beq_eq_true hb
    exact loop_ok hT hlo (h _ _ _ _ _ hv)
  · cases hv
noncomputable def S11 : Tab := (S10).addLoop 21 6 l21_6
theorem nf21 (n : Int) (ws : Ws) (fires : List Int) : evBody S11 21 [aH n ws, lI fires] [] = (bif sm ws && sm fires then bif Brn.laidP n ws fires == 0 then bif (sm fires && decide ((↑fires.length : Int) = (↑fires.length : Int)) && decide ((Brn.ground n ws).length = 81) && decide (fires.length ≤ 9) && fires.all fun p => decide (0 ≤ p) && decide (p < 9)) && (List.range fires.length).all fun d => decide (0 ≤ Brn.onP (Brn.ground n ws) fires d) && decide (Brn.onP (Brn.ground n ws) fires d < 512) then some (.tuple [.os 0 0 0 (Brn.burntP (Brn.ground n ws) fires).length true false true, vi 0], [some ⟨[.run (.ilist .i64) (Brn.burntP (Brn.ground n ws) fires)], false, Burn.tyL (Brn.burntP (Brn.ground n ws) fires), false, false, none⟩]) else none else bif Brn.laidP n ws fires != 0 then some (.tuple [osW 0 0, vi (Brn.laidP n ws fires)], [some ⟨[.run (.ilist .i64) []], false, 0, false, false, none⟩]) else none else none) := by kernel_rfl
theorem nl23f (again : Ag) (a b : List Int) (i : Int) : lpStep S11 23 4 0 (lpc S11 23 4) again [lI a, lI b, vb false, vi i] [] = (bif decide (i < (↑a.length : Int)) then bif decide (0 ≤ i) then bif decide (i < (↑a.length : Int)) then oM a[i.toNat]? fun x => bif decide (0 ≤ i) then bif decide (i < (↑b.length : Int)) then oM b[i.toNat]? fun x_1 => bif x != x_1 then some (.ret, [.sl (.int .i64) a false, .sl (.int .i64) b false, vb false, vi i], []) else again [.sl (.int .i64) a false, .sl (.int .i64) b false, vb false, vi (IntKind.i64.wrap (i + 1))] [] else none else none else none else none else some (.ext 0, [.sl (.int .i64) a false, .sl (.int .i64) b false, vb false, vi i], [])) := by kernel_rfl
theorem nf15 (n : Int) (ws : Ws) (fires : List Int) : evBody S11 15 [aH n ws, lI fires] [] = (bif decide ((↑(List.length ws) : Int) > 60) then some (vb true, []) else some (vb (decide ((↑fires.length : Int) > 60)), [])) := by kernel_rfl
end Go.Ev.Burn
namespace Go.Ev.Burn
open Go Go.Ev
set_option maxRecDepth 1000000
set_option linter.unusedVariables false
abbrev sTt (l : List Int) : AV := .sl (.int .i64) l true
def c17t (n : Int) (ws : Ws) (a b : Int) : Tree (AV × Hp) := .br (sm ws) (.leaf (.tuple [vi (Brn.farV n ws a b), vi (Brn.placeErr n ws [a, b])], [])) .fail
def c17 (args : List AV) (H : Hp) : Tree (AV × Hp) := match args, H with
  | [(.agg [.sc (.int .i64 n), .sl (.pair .i64) ws false] false), (.sc (.int .i64 a)), (.sc (.int .i64 b))], [] => c17t n ws a b
  | _, _ => .fail
theorem c17_ok {T : Tab} (hT : TabOK T) (h : ∀ (n : Int) (ws : Ws) (a b : Int) (r : AV × Hp), (c17t n ws a b).val = some r → evBody T 17 [aH n ws, vi a, vi b] [] = some r) : ∀ args H v H', (c17 args H).val = some (v, H') → CallOK T 17 args H v H' := by
  intro args H v H' hv
  unfold c17 at hv
  split at hv
  · exact evBody_sound hT (h _ _ _ _ _ hv)
  · cases hv
def c18t (n : Int) (ws : Ws) (a b : Int) : Tree (AV × Hp) := .br (sm ws) (.leaf (.tuple [vi (Brn.farV n ws a b), vi (Brn.placeErr n ws [a, b])], [])) .fail
def c18 (args : List AV) (H : Hp) : Tree (AV × Hp) := match args, H with
  | [(.agg [.sc (.int .i64 n), .sl (.pair .i64) ws false] false), (.sc (.int .i64 a)), (.sc (.int .i64 b))], [] => c18t n ws a b
  | _, _ => .fail
theorem c18_ok {T : Tab} (hT : TabOK T) (h : ∀ (n : Int) (ws : Ws) (a b : Int) (r : AV × Hp), (c18t n ws a b).val = some r → evBody T 18 [aH n ws, vi a, vi b] [] = some r) : ∀ args H v H', (c18 args H).val = some (v, H') → CallOK T 18 args H v H' := by
  intro args H v H' hv
  unfold c18 at hv
  split at hv
  · exact evBody_sound hT (h _ _ _ _ _ hv)
  · cases hv
def c19t (n : Int) (ws : Ws) (a most : Int) : Tree (AV × Hp) := .br (sm ws) (.leaf (.tuple [osW 0 (Brn.nearV n ws a most).length, vi (Brn.nearErr n ws a most)], [some (rI (Brn.nearV n ws a most))])) .fail
def c19 (args : List AV) (H : Hp) : Tree (AV × Hp) := match args, H with
  | [(.agg [.sc (.int .i64 n), .sl (.pair .i64) ws false] false), (.sc (.int .i64 a)), (.sc (.int .i64 most))], [] => c19t n ws a most
  | _, _ => .fail
theorem c19_ok {T : Tab} (hT : TabOK T) (h : ∀ (n : Int) (ws : Ws) (a most : Int) (r : AV × Hp), (c19t n ws a most).val = some r → evBody T 19 [aH n ws, vi a, vi most] [] = some r) : ∀ args H v H', (c19 args H).val = some (v, H') → CallOK T 19 args H v H' := by
  intro args H v H' hv
  unfold c19 at hv
  split at hv
  · exact evBody_sound hT (h _ _ _ _ _ hv)
  · cases hv
def c20t (n : Int) (ws : Ws) (a most : Int) : Tree (AV × Hp) := .br (sm ws) (.br (Brn.nearErr n ws a most == 0 && decide (min most n ≤ 0)) (.leaf (.tuple [sTt [a], vi (Brn.nearErr n ws a most)], [])) (.leaf (.tuple [osW 0 (Brn.nearV n ws a most).length, vi (Brn.nearErr n ws a most)], [some (rI (Brn.nearV n ws a most))]))) .fail
def c20 (args : List AV) (H : Hp) : Tree (AV × Hp) := match args, H with
  | [(.agg [.sc (.int .i64 n), .sl (.pair .i64) ws false] false), (.sc (.int .i64 a)), (.sc (.int .i64 most))], [] => c20t n ws a most
  | _, _ => .fail
theorem c20_ok {T : Tab} (hT : TabOK T) (h : ∀ (n : Int) (ws : Ws) (a most : Int) (r : AV × Hp), (c20t n ws a most).val = some r → evBody T 20 [aH n ws, vi a, vi most] [] = some r) : ∀ args H v H', (c20 args H).val = some (v, H') → CallOK T 20 args H v H' := by
  intro args H v H' hv
  unfold c20 at hv
  split at hv
  · exact evBody_sound hT (h _ _ _ _ _ hv)
  · cases hv
def c21t (n : Int) (ws : Ws) (fs : List Int) : Tree (AV × Hp) := .br (sm ws && sm fs) (.leaf (.tuple [osW 0 (Brn.burntV n ws fs).length, vi (Brn.laidErr n ws fs)], [some (rL (Brn.burntV n ws fs))])) .fail
def c21 (args : List AV) (H : Hp) : Tree (AV × Hp) := match args, H with
  | [(.agg [.sc (.int .i64 n), .sl (.pair .i64) ws false] false), (.sl (.int .i64) fs false)], [] => c21t n ws fs
  | _, _ => .fail
theorem c21_ok {T : Tab} (hT : TabOK T) (h : ∀ (n : Int) (ws : Ws) (fs : List Int) (r : AV × Hp), (c21t n ws fs).val = some r → evBody T 21 [aH n ws, lI fs] [] = some r) : ∀ args H v H', (c21 args H).val = some (v, H') → CallOK T 21 args H v H' := by
  intro args H v H' hv
  unfold c21 at hv
  split at hv
  · exact evBody_sound hT (h _ _ _ _ hv)
  · cases hv
def c22t (n : Int) (ws : Ws) (fs : List Int) : Tree (AV × Hp) := .br (sm ws && sm fs) (.leaf (.tuple [osW 0 (Brn.burntV n ws fs).length, vi (Brn.laidErr n ws fs)], [some (rL (Brn.burntV n ws fs))])) .fail
def c22 (args : List AV) (H : Hp) : Tree (AV × Hp) := match args, H with
  | [(.agg [.sc (.int .i64 n), .sl (.pair .i64) ws false] false), (.sl (.int .i64) fs false)], [] => c22t n ws fs
  | _, _ => .fail
theorem c22_ok {T : Tab} (hT : TabOK T) (h : ∀ (n : Int) (ws : Ws) (fs : List Int) (r : AV × Hp), (c22t n ws fs).val = some r → evBody T 22 [aH n ws, lI fs] [] = some r) : ∀ args H v H', (c22 args H).val = some (v, H') → CallOK T 22 args H v H' := by
  intro args H v H' hv
  unfold c22 at hv
  split at hv
  · exact evBody_sound hT (h _ _ _ _ hv)
  · cases hv
def c27t (n : Int) (ws : Ws) (fs : List Int) : Tree (AV × Hp) := .br (sm ws && sm fs) (.leaf (vi (Brn.enoughV n ws fs), [])) .fail
def c27 (args : List AV) (H : Hp) : Tree (AV × Hp) := match args, H with
  | [(.agg [.sc (.int .i64 n), .sl (.pair .i64) ws false] false), (.sl (.int .i64) fs false)], [] => c27t n ws fs
  | _, _ => .fail
theorem c27_ok {T : Tab} (hT : TabOK T) (h : ∀ (n : Int) (ws : Ws) (fs : List Int) (r : AV × Hp), (c27t n ws fs).val = some r → evBody T 27 [aH n ws, lI fs] [] = some r) : ∀ args H v H', (c27 args H).val = some (v, H') → CallOK T 27 args H v H' := by
  intro args H v H' hv
  unfold c27 at hv
  split at hv
  · exact evBody_sound hT (h _ _ _ _ hv)
  · cases hv
def c28t (n : Int) (ws : Ws) (fs : List Int) : Tree (AV × Hp) := .br (sm ws && sm fs) (.leaf (vi (Brn.enoughV n ws fs), [])) .fail
def c28 (args : List AV) (H : Hp) : Tree (AV × Hp) := match args, H with
  | [(.agg [.sc (.int .i64 n), .sl (.pair .i64) ws false] false), (.sl (.int .i64) fs false)], [] => c28t n ws fs
  | _, _ => .fail
theorem c28_ok {T : Tab} (hT : TabOK T) (h : ∀ (n : Int) (ws : Ws) (fs : List Int) (r : AV × Hp), (c28t n ws fs).val = some r → evBody T 28 [aH n ws, lI fs] [] = some r) : ∀ args H v H', (c28 args H).val = some (v, H') → CallOK T 28 args H v H' := by
  intro args H v H' hv
  unfold c28 at hv
  split at hv
  · exact evBody_sound hT (h _ _ _ _ hv)
  · cases hv
def c15t (n : Int) (ws : Ws) (fs : List Int) : Tree (AV × Hp) := .leaf (vb (Brn.large ws fs), [])
def c15 (args : List AV) (H : Hp) : Tree (AV × Hp) := match args, H with
  | [(.agg [.sc (.int .i64 n), .sl (.pair .i64) ws false] false), (.sl (.int .i64) fs false)], [] => c15t n ws fs
  | _, _ => .fail
theorem c15_ok {T : Tab} (hT : TabOK T) (h : ∀ (n : Int) (ws : Ws) (fs : List Int) (r : AV × Hp), (c15t n ws fs).val = some r → evBody T 15 [aH n ws, lI fs] [] = some r) : ∀ args H v H', (c15 args H).val = some (v, H') → CallOK T 15 args H v H' := by
  intro args H v H' hv
  unfold c15 at hv
  split at hv
  · exact evBody_sound hT (h _ _ _ _ hv)
  · cases hv
def l23_4t (a b : List Int) : Tree (Out × List AV × Hp) := .br (sm a && decide (a.length = b.length)) (.br (decide (a = b)) (.leaf (.ext 0, [lI a, lI b, vb false, vi a.length], [])) (.leaf (.ret, [lI a, lI b, vb false, vi ((a.zip b).findIdx fun x => x.1 != x.2)], []))) .fail
def l23_4 (base : Nat) (kv : List AV) (H : Hp) : Tree (Out × List AV × Hp) := match Nat.beq base 0, kv, H with
  | true, [(.sl (.int .i64) a false), (.sl (.int .i64) b false), (.sc (.bool false)), (.sc (.int .i64 0))], [] => l23_4t a b
  | _, _, _ => .fail
theorem l23_4_ok {T : Tab} (hT : TabOK T) (hlo : loopOf T.fn 23 4 = some (lpc T 23 4)) (h : ∀ (a b : List Int) (r : Out × List AV × Hp), (l23_4t a b).val = some r → ∃ mm, lpRun T 23 4 0 (lpc T 23 4) mm [lI a, lI b, vb false, vi 0] [] = some r) : ∀ base kv H o kv' H', (l23_4 base kv H).val = some (o, kv', H') → LoopOK T 23 4 base kv H o kv' H' := by
  intro base kv H o kv' H' hv
  unfold l23_4 at hv
  split at hv
  · rename_i hb
    obtain rfl := Nat.eq_of_beq_eq_true hb
    exact loop_ok hT hlo (h _ _ _ hv)
  · cases hv
noncomputable def S12 : Tab := ((((((((((S11).addCall 17 c17).addCall 18 c18).addCall 19 c19).addCall 20 c20).addCall 21 c21).addCall 22 c22).addCall 27 c27).addCall 28 c28).addCall 15 c15).addLoop 23 4 l23_4
theorem nf23 (a b : List Int) : evBody S12 23 [lI a, lI b] [] = (bif (↑a.length : Int) != (↑b.length : Int) then some (vb false, []) else bif sm a && decide (a.length = b.length) then bif decide (a = b) then some (vb true, []) else some (vb false, []) else none) := by kernel_rfl
def c23t (a b : List Int) : Tree (AV × Hp) := .br (sm a) (.leaf (vb (decide (a = b)), [])) .fail
def c23 (args : List AV) (H : Hp) : Tree (AV × Hp) := match args, H with
  | [(.sl (.int .i64) a false), (.sl (.int .i64) b false)], [] => c23t a b
  | _, _ => .fail
theorem c23_ok {T : Tab} (hT : TabOK T) (h : ∀ (a b : List Int) (r : AV × Hp), (c23t a b).val = some r → evBody T 23 [lI a, lI b] [] = some r) : ∀ args H v H', (c23 args H).val = some (v, H') → CallOK T 23 args H v H' := by
  intro args H v H' hv
  unfold c23 at hv
  split at hv
  · exact evBody_sound hT (h _ _ _ hv)
  · cases hv
noncomputable def S13 : Tab := (S12).addCall 23 c23
theorem nl24 (again : Ag) (a b : List (List Int)) (i : Int) : lpStep S13 24 4 0 (lpc S13 24 4) again [lL a, lL b, vb false, vi i] [] = (bif decide (i < (↑a.length : Int)) then bif decide (0 ≤ i) then bif decide (i < (↑a.length : Int)) then oM a[i.toNat]? fun x => bif decide (0 ≤ i) then bif decide (i < (↑b.length : Int)) then oM b[i.toNat]? fun x_1 => bif sm x then bif !decide (x = x_1) then some (.ret, [.sl (.ilist .i64) a false, .sl (.ilist .i64) b false, vb false, vi i], []) else again [.sl (.ilist .i64) a false, .sl (.ilist .i64) b false, vb false, vi (IntKind.i64.wrap (i + 1))] [] else none else none else none else none else none else some (.ext 0, [.sl (.ilist .i64) a false, .sl (.ilist .i64) b false, vb false, vi i], [])) := by kernel_rfl
def l24_4t (a b : List (List Int)) : Tree (Out × List AV × Hp) := .br (sm a && decide (a.length = b.length) && a.all sm) (.br (decide (a = b)) (.leaf (.ext 0, [lL a, lL b, vb false, vi a.length], [])) (.leaf (.ret, [lL a, lL b, vb false, vi ((a.zip b).findIdx fun x => !decide (x.1 = x.2))], []))) .fail
def l24_4 (base : Nat) (kv : List AV) (H : Hp) : Tree (Out × List AV × Hp) := match Nat.beq base 0, kv, H with
  | true, [(.sl (.ilist .i64) a false), (.sl (.ilist .i64) b false), (.sc (.bool false)), (.sc (.int .i64 0))], [] => l24_4t a b
  | _, _, _ => .fail
theorem l24_4_ok {T : Tab} (hT : TabOK T) (hlo : loopOf T.fn 24 4 = some (lpc T 24 4)) (h : ∀ (a b : List (List Int)) (r : Out × List AV × Hp), (l24_4t a b).val = some r → ∃ mm, lpRun T 24 4 0 (lpc T 24 4) mm [lL a, lL b, vb false, vi 0] [] = some r) : ∀ base kv H o kv' H', (l24_4 base kv H).val = some (o, kv', H') → LoopOK T 24 4 base kv H o kv' H' := by
  intro base kv H o kv' H' hv
  unfold l24_4 at hv
  split at hv
  · rename_i hb
    obtain rfl := Nat.eq_of_beq_eq_true hb
    exact loop_ok hT hlo (h _ _ _ hv)
  · cases hv
noncomputable def S14 : Tab := (S13).addLoop 24 4 l24_4
theorem nf24 (a b : List (List Int)) : evBody S14 24 [lL a, lL b] [] = (bif (↑a.length : Int) != (↑b.length : Int) then some (vb false, []) else bif sm a && decide (a.length = b.length) && a.all sm then bif decide (a = b) then some (vb true, []) else some (vb false, []) else none) := by kernel_rfl
def c24t (a b : List (List Int)) : Tree (AV × Hp) := .br (sm a && a.all sm) (.leaf (vb (decide (a = b)), [])) .fail
def c24 (args : List AV) (H : Hp) : Tree (AV × Hp) := match args, H with
  | [(.sl (.ilist .i64) a false), (.sl (.ilist .i64) b false)], [] => c24t a b
  | _, _ => .fail
theorem c24_ok {T : Tab} (hT : TabOK T) (h : ∀ (a b : List (List Int)) (r : AV × Hp), (c24t a b).val = some r → evBody T 24 [lL a, lL b] [] = some r) : ∀ args H v H', (c24 args H).val = some (v, H') → CallOK T 24 args H v H' := by
  intro args H v H' hv
  unfold c24 at hv
  split at hv
  · exact evBody_sound hT (h _ _ _ hv)
  · cases hv
def c16 (args : List AV) (H : Hp) : Tree (AV × Hp) := match args, H with
  | [], [] => .leaf (vb true, [])
  | _, _ => .fail
noncomputable def S15 : Tab := ((S14).addCall 24 c24).addCall 16 c16
end Go.Ev.Burn
namespace Go.Ev.Burn
open Go Go.Ev
set_option maxRecDepth 1000000
set_option linter.unusedVariables false
set_option linter.unusedSimpArgs false
theorem c65_run : ∀ args H v H', (c65 args H).val = some (v, H') → CallOK S5 65 args H v H' := c65_ok S5_ok (by
  intro n ws pl r hv
  obtain ⟨hl, hv⟩ := guard_val hv
  simp only [Bool.and_eq_true] at hl
  obtain ⟨hws, hpl⟩ := hl
  rw [nf65]
  unfold Brn.openErr Brn.chkP at hv
  cases a1 : Brn.inR n 1 9 with
  | false =>
    simp only [a1, Bool.not_false, cond_true, show ((1 : Int) == 0) = false from rfl, cond_false] at hv ⊢
    rw [leaf_val hv]
  | true =>
    obtain ⟨h1, h9⟩ := chk_range (ws := ws) a1
    have n1 : decide (1 ≤ n) = true := decide_eq_true h1
    have n2 : decide (n ≤ 9) = true := decide_eq_true h9
    have n3 : decide (0 ≤ n) = true := decide_eq_true (by omega)
    simp only [a1, Bool.not_true, cond_false] at hv ⊢
    by_cases h2 : 12 < ws.length
    · simp only [decide_eq_true h2, decide_eq_true (show ((ws.length : Int) > 12) by omega), cond_true, show ((3 : Int) == 0) = false from rfl, cond_false] at hv ⊢
      rw [leaf_val hv]
    · simp only [decide_eq_false h2, decide_eq_false (show ¬ ((ws.length : Int) > 12) by omega), cond_false] at hv ⊢
      have hn := Brn.nextL_ok h9 ws
      have e1 : (Brn.waysP n ws 0 (List.replicate 9 0)).2.2 = Brn.nextL n ws := rfl
      have e2 : (Brn.waysP n ws 0 (List.replicate 9 0)).1 = Brn.wayE n ws := rfl
      have e3 : (Brn.rounds n.toNat (Brn.nextL n ws) 9 0 (List.replicate 81 0) (Brn.initN n.toNat (List.replicate 9 0))).1 = Brn.ground n ws := rfl
      have e4 : decide ((Brn.initN n.toNat (List.replicate 9 0)).length = 9) = true := decide_eq_true (by rw [Brn.initN_len']; rfl)
      have e5 : ((Brn.nextL n ws).all fun x => decide (0 ≤ x) && decide (x < 512)) = true := List.all_eq_true.2 fun x hx => by
        have := hn.2 x hx
        simp [this]
      have e6 : (Brn.ground n ws)[8]? = some ((Brn.ground n ws).getD 8 0) := get9 (Brn.ground_len n ws) (by omega)
      simp only [e1, e2, e3, e4, e5, e6, n1, n2, n3, hws, hpl, decide_true, Bool.and_self, cond_true, oM, decide_eq_true hn.1]
      cases hw : Brn.wayE n ws == 0 with
      | false =>
        simp only [hw, cond_false] at hv ⊢
        rw [leaf_val hv]
      | true =>
        simp only [hw, cond_true] at hv ⊢
        generalize decide ((Brn.rounds n.toNat (Brn.nextL n ws) 9 0 (List.replicate 81 0) (Brn.initN n.toNat (List.replicate 9 0))).2.2 < 9) = dd
        cases hg : (Brn.ground n ws).getD 8 0 != Brn.allN n with
        | true =>
          simp only [hg, cond_true, show ((5 : Int) == 0) = false from rfl, cond_false] at hv ⊢
          rw [leaf_val hv]
          cases dd <;> rfl
        | false =>
          simp only [hg, cond_false, show ((0 : Int) == 0) = true from rfl, cond_true] at hv ⊢
          cases ha : pl.all fun p => Brn.inR p 0 (n - 1) with
          | true =>
            simp only [ha, cond_true] at hv ⊢
            rw [leaf_val (show (Tree.leaf _).val = some r from hv)]
            cases dd <;> rfl
          | false =>
            simp only [ha, cond_false] at hv ⊢
            rw [leaf_val (show (Tree.leaf _).val = some r from hv)]
            cases dd <;> rfl)
theorem l93_2_run : ∀ base kv H o kv' H', (l93_2 base kv H).val = some (o, kv', H') → LoopOK S5 93 2 base kv H o kv' H' := l93_2_ok S5_ok (by kernel_rfl) (by
  intro l to n r hv
  obtain ⟨hl, hv⟩ := guard_val hv
  simp only [Bool.and_eq_true, decide_eq_true_eq] at hl
  obtain ⟨⟨hs, h0⟩, rfl⟩ := hl
  have hsl := sm_le hs
  obtain ⟨mm, hm⟩ := scan_of (T := S5) (fid := 93) (lid := 2) (base := 0) (c := lpc S5 93 2) l (fun x => Brn.bitU x to) (fun i => [lU l, .fn (.func 94) [] [pI to], vi 0, vi l.length, vi i]) []
    (fun i => (.ret, [lU l, .fn (.func 94) [] [pI to], vi i, vi l.length, vi i], [])) (.ext 0, [lU l, .fn (.func 94) [] [pI to], vi 0, vi l.length, vi l.length], [])
    (fun i x hx hlt again => by
      rw [nl93]
      simp only [dec_lt hlt, dec_ge, cond_true, toNat_cast, hx, oM, decide_eq_true h0]
      rw [wrap_succ (by omega)])
    (fun again => by
      rw [nl93]
      simp only [dec_ll, cond_false])
  refine ⟨mm, hm.trans ?_⟩
  rcases br_val hv with ⟨h, hv⟩ | ⟨h, hv⟩ <;> rw [leaf_val hv, h] <;> rfl)
theorem S6_ok : TabOK S6 := by
  have h := S5_ok
  have h := h.addCall (g := 65) (r := c65) fun a H v H' hv => by refine CallOK.tab ?_ ?_ (c65_run a H v H' hv) <;> rfl
  have h := h.addCall (g := 69) (r := c69) fun a H v H' hv => by refine CallOK.tab ?_ ?_ (c69_run a H v H' hv) <;> rfl
  have h := h.addLoop (g := 93) (lid := 2) (r := l93_2) fun b k H o k' H' hv => by refine LoopOK.tab ?_ ?_ ?_ ?_ (l93_2_run b k H o k' H' hv) <;> rfl
  exact h
theorem c93_run : ∀ args H v H', (c93 args H).val = some (v, H') → CallOK S6 93 args H v H' := c93_ok S6_ok (by
  intro l to r hv
  obtain ⟨hl, hv⟩ := guard_val hv
  rw [nf93, cond_t (by simpa using hl)]
  rcases br_val hv with ⟨h, hv⟩ | ⟨h, hv⟩ <;> rw [leaf_val hv, h] <;> rfl)
theorem S7_ok : TabOK S7 := by
  have h := S6_ok
  have h := h.addCall (g := 93) (r := c93) fun a H v H' hv => by refine CallOK.tab ?_ ?_ (c93_run a H v H' hv) <;> rfl
  exact h
end Go.Ev.Burn
namespace Go.Ev.Burn
open Go Go.Ev
set_option maxRecDepth 1000000
set_option linter.unusedVariables false
set_option linter.unusedSimpArgs false
theorem foldl_same {α β : Type} {f g : α → β → α} : ∀ {l : List β} {s : α}, (∀ s x, x ∈ l → f s x = g s x) → l.foldl f s = l.foldl g s
  | [], _, _ => rfl
  | x :: l, s, h => by rw [List.foldl_cons, List.foldl_cons, h s x (by simp), foldl_same fun s y hy => h s y (by simp [hy])]
theorem getD_drop (l : List Int) (a k : Nat) : ((l.drop a).take 9).getD k 0 = if k < 9 then l.getD (k + a) 0 else 0 := by
  simp only [List.getD_eq_getElem?_getD, List.getElem?_take, List.getElem?_drop]
  by_cases h : k < 9
  · rw [if_pos h, if_pos h, Nat.add_comm]
  · rw [if_neg h, if_neg h]; rfl
theorem any_findIdx {l : List Int} {p : Int → Bool} : (bif l.any p then (((l.findIdx p : Nat)) : Int) else -1) = Brn.idx9 (l.findIdx p) ∨ l.length ≠ 9 := by
  by_cases hl : l.length = 9
  · left
    unfold Brn.idx9
    cases h : l.any p with
    | true =>
      have : l.findIdx p < l.length := List.findIdx_lt_length_of_exists (by simpa using h)
      rw [decide_eq_true (by omega)]
    | false =>
      have : l.findIdx p = l.length := List.findIdx_eq_length_of_false (by simpa using h)
      rw [decide_eq_false (by omega)]
  · exact .inr hl
theorem c66_run : ∀ args H v H', (c66 args H).val = some (v, H') → CallOK S7 66 args H v H' := c66_ok S7_ok (by
  intro n l a b r hv
  obtain ⟨hl, hv⟩ := guard_val hv
  simp only [Bool.and_eq_true, decide_eq_true_eq] at hl
  obtain ⟨⟨⟨h0, h9⟩, hb⟩, hlen⟩ := hl
  obtain ⟨a, rfl⟩ := Int.eq_ofNat_of_zero_le h0
  have e1 : decide (9 + a * 9 ≤ l.length) = true := decide_eq_true (by omega)
  have hll : ((l.drop (a * 9)).take 9).length = 9 := by rw [List.length_take, List.length_drop]; omega
  have hs : sm ((l.drop (a * 9)).take 9) = true := sm_of (Nat.le_of_eq hll) (by omega)
  rw [leaf_val hv, nf66]
  simp only [dec_ge, decide_eq_true h9, toNat_cast, e1, cond_true, hs, decide_eq_true hb, Bool.and_self]
  have hfar : Brn.farI l a b = ((l.drop (a * 9)).take 9).findIdx fun x => Brn.bitU x b := by
    unfold Brn.farI
    rw [toNat_cast]
    have : (l.drop (a * 9)).take 9 = (List.range 9).map fun k => l.getD (k + a * 9) 0 := by
      apply List.ext_getElem?
      intro k
      rw [List.getElem?_map]
      by_cases hk : k < 9
      · rw [List.getElem?_range hk, get9 hll hk, getD_drop, if_pos hk]; rfl
      · rw [List.getElem?_eq_none (by omega), List.getElem?_eq_none (by simpa using hk)]; rfl
    rw [this, List.findIdx_map]
    rfl
  rw [hfar]
  rcases any_findIdx (l := (l.drop (a * 9)).take 9) (p := fun x => Brn.bitU x b) with h | h
  · rw [← h]
    cases ((l.drop (a * 9)).take 9).any fun x => Brn.bitU x b <;> rfl
  · exact absurd hll h)
theorem c25_run : ∀ args H v H', (c25 args H).val = some (v, H') → CallOK S7 25 args H v H' := c25_ok S7_ok (by
  intro n ws r hv
  obtain ⟨hl, hv⟩ := guard_val hv
  rw [leaf_val hv, nf25, hl, show sm ([] : List Int) = true from rfl]
  unfold Brn.openErr
  simp only [Bool.and_self, cond_true, List.all_nil]
  cases h : Brn.chkP n ws == 0 with
  | true =>
    have : Brn.chkP n ws = 0 := by simpa using h
    rw [this]; rfl
  | false =>
    simp only [cond_false, h])
theorem S8_ok : TabOK S8 := by
  have h := S7_ok
  have h := h.addCall (g := 66) (r := c66) fun a H v H' hv => by refine CallOK.tab ?_ ?_ (c66_run a H v H' hv) <;> rfl
  have h := h.addCall (g := 25) (r := c25) fun a H v H' hv => by refine CallOK.tab ?_ ?_ (c25_run a H v H' hv) <;> rfl
  exact h
theorem l72_3_run : ∀ base kv H o kv' H', (l72_3 base kv H).val = some (o, kv', H') → LoopOK S7 72 3 base kv H o kv' H' := l72_3_ok S7_ok (by kernel_rfl) (by
  intro n g day m fs r hv
  obtain ⟨hl, hv⟩ := guard_val hv
  simp only [Bool.and_eq_true, decide_eq_true_eq] at hl
  obtain ⟨⟨⟨⟨⟨⟨hs, rfl⟩, hg⟩, hd0⟩, hd⟩, h9⟩, hall⟩ := hl
  rw [leaf_val hv]
  have := fold_of (T := S7) (fid := 72) (lid := 3) (base := 0) (c := lpc S7 72 3) (List.range fs.length) (fun i (s : Int) => True) (fun (s : Int) i => Brn.orU s (g.getD ((day.toNat - i) + (fs.getD i 0).toNat * 9) 0))
    (fun i s => [aG n g, vi day, vint .u64 s, lI fs, vi fs.length, vi i]) (fun s => [])
    (fun s => (.ext 0, [aG n g, vi day, vint .u64 s, lI fs, vi fs.length, vi fs.length], []))
    (fun i x s hx hlt hI again => by
      obtain ⟨rfl, hi⟩ := range_get hx
      rw [nl72_3]
      have hm := List.all_eq_true.1 hall (fs.getD x 0) (by
        rw [List.getD_eq_getElem?_getD, List.getElem?_eq_getElem hi]; exact List.getElem_mem _)
      simp only [Bool.and_eq_true, decide_eq_true_eq] at hm
      have e0 : fs[x]? = some (fs.getD x 0) := get9 rfl hi
      rw [wrapi (x := day - x) (by omega) (by omega)]
      have e1 : decide (0 ≤ day - (x : Int)) = true := decide_eq_true (by omega)
      have e2 : decide (day - (x : Int) < 9) = true := decide_eq_true (by omega)
      have e3 : (day - (x : Int)).toNat = day.toNat - x := by omega
      have e4 : g[day.toNat - x + (fs.getD x 0).toNat * 9]? = some (g.getD (day.toNat - x + (fs.getD x 0).toNat * 9) 0) := get9 rfl (by omega)
      simp only [dec_lt hi, dec_ge, cond_true, toNat_cast, e0, oM, decide_eq_true hm.1, decide_eq_true hm.2, e1, e2, e3, e4]
      rw [wrap_succ (by omega)]
      rfl)
    (fun i x s hx hlt hI => trivial)
    (fun s hI again => by
      rw [nl72_3, List.length_range]
      simp only [dec_ll, cond_false]) 0 trivial
  have e : Brn.onP g fs day.toNat = (List.range fs.length).foldl (fun s i => Brn.orU s (g.getD ((day.toNat - i) + (fs.getD i 0).toNat * 9) 0)) 0 := by
    unfold Brn.onP
    rw [show day.toNat + 1 = fs.length by omega]
  rw [e]
  exact this)
theorem c71_run : ∀ args H v H', (c71 args H).val = some (v, H') → CallOK S8 71 args H v H' := c71_ok S8_ok (by
  intro n ws fires r hv
  obtain ⟨hl, hv⟩ := guard_val hv
  simp only [Bool.and_eq_true] at hl
  obtain ⟨hws, hf⟩ := hl
  rw [nf71]
  unfold Brn.laidP at hv
  simp only [hws, hf, cond_true, Bool.and_self]
  cases hc : Brn.chkP n ws == 0 with
  | false =>
    have hc' : (Brn.chkP n ws != 0) = true := by rw [bne, hc]; rfl
    simp only [hc, cond_false] at hv
    rw [leaf_val hv, hc']
    rfl
  | true =>
    have hc' : (Brn.chkP n ws != 0) = false := by rw [bne, hc]; rfl
    simp only [hc, cond_true] at hv
    rw [hc']
    simp only [cond_false]
    by_cases h0 : fires.length = 0
    · have h0' : (fires.length == 0) = true := by simpa using h0
      rw [h0'] at hv
      simp only [cond_true] at hv
      rw [leaf_val (show (Tree.leaf _).val = some r from hv), h0]; rfl
    · have e3 : (((fires.length : Nat) : Int) == 0) = false := by simpa using h0
      have e4 : (fires.length == 0) = false := by simpa using h0
      rw [e4] at hv
      simp only [e3, cond_false] at hv ⊢
      by_cases h9 : 9 < fires.length
      · rw [decide_eq_true h9] at hv
        simp only [decide_eq_true (show ((fires.length : Nat) : Int) > 9 by omega), cond_true] at hv ⊢
        rw [leaf_val (show (Tree.leaf _).val = some r from hv)]
      · rw [decide_eq_false h9] at hv
        simp only [decide_eq_false (show ¬ ((fires.length : Nat) : Int) > 9 by omega), cond_false] at hv ⊢
        rcases br_val hv with ⟨h, hv⟩ | ⟨h, hv⟩ <;> rw [leaf_val hv, h] <;> rfl)
theorem S9_ok : TabOK S9 := by
  have h := S8_ok
  have h := h.addLoop (g := 72) (lid := 3) (r := l72_3) fun b k H o k' H' hv => by refine LoopOK.tab ?_ ?_ ?_ ?_ (l72_3_run b k H o k' H' hv) <;> rfl
  have h := h.addCall (g := 71) (r := c71) fun a H v H' hv => by refine CallOK.tab ?_ ?_ (c71_run a H v H' hv) <;> rfl
  exact h
theorem c72_run : ∀ args H v H', (c72 args H).val = some (v, H') → CallOK S9 72 args H v H' := c72_ok S9_ok (by
  intro n g day fs r hv
  obtain ⟨hl, hv⟩ := guard_val hv
  simp only [Bool.and_eq_true, decide_eq_true_eq] at hl
  obtain ⟨⟨⟨⟨hg, h0⟩, hd⟩, h9⟩, hall⟩ := hl
  rw [leaf_val hv, nf72, wrapi (x := day + 1) (by omega) (by omega)]
  have e1 : decide (0 ≤ day + 1) = true := decide_eq_true (by omega)
  have e2 : decide (day + 1 ≤ (fs.length : Int)) = true := decide_eq_true (by omega)
  have e3 : (fs.take (day + 1).toNat).length = (day + 1).toNat := by rw [List.length_take]; omega
  have e4 : sm (fs.take (day + 1).toNat) = true := sm_of (k := 9) (by omega) (by omega)
  have e5 : (fs.take (day + 1).toNat).all (fun p => decide (0 ≤ p) && decide (p < 9)) = true := List.all_eq_true.2 fun x hx => List.all_eq_true.1 hall x (List.mem_of_mem_take hx)
  have e6 : decide (day + 1 = (((day + 1).toNat : Nat) : Int)) = true := decide_eq_true (by omega)
  have e7 : decide ((day + 1).toNat ≤ 9) = true := decide_eq_true (by omega)
  simp only [e1, e2, e4, e5, e3, e6, e7, decide_true, decide_eq_true hg, Bool.and_self, cond_true]
  simp only [h0, decide_true, Bool.and_self, cond_true]
  have e8 : Brn.onP g (fs.take (day + 1).toNat) day.toNat = Brn.onP g fs day.toNat := by
    unfold Brn.onP
    refine foldl_same fun s i hi => ?_
    have hi := List.mem_range.1 hi
    have e9 : (fs.take (day + 1).toNat).getD i 0 = fs.getD i 0 := by
      rw [List.getD_eq_getElem?_getD, List.getElem?_take, if_pos (by omega), List.getD_eq_getElem?_getD]
    rw [e9]
  rw [e8])
theorem S10_ok : TabOK S10 := by
  have h := S9_ok
  have h := h.addCall (g := 72) (r := c72) fun a H v H' hv => by refine CallOK.tab ?_ ?_ (c72_run a H v H' hv) <;> rfl
  exact h
theorem l21_6_run : ∀ base kv H o kv' H', (l21_6 base kv H).val = some (o, kv', H') → LoopOK S10 21 6 base kv H o kv' H' := l21_6_ok S10_ok (by kernel_rfl) (by
  intro n g m fs r hv
  obtain ⟨hl, hv⟩ := guard_val hv
  simp only [Bool.and_eq_true, decide_eq_true_eq] at hl
  obtain ⟨⟨⟨⟨⟨hs, rfl⟩, hg⟩, h9⟩, hall⟩, hon⟩ := hl
  rw [leaf_val hv]
  have := fold_of (T := S10) (fid := 21) (lid := 6) (base := 0) (c := lpc S10 21 6) (List.range fs.length) (fun i (s : List (List Int)) => s.length = i) (fun (s : List (List Int)) d => s ++ [Brn.bitsL (Brn.onP g fs d)])
    (fun i s => [lI fs, ps 0, osW 1 s.length, vi fs.length, vi i]) (fun s => [some (rG n g), some (rL s)])
    (fun s => (.ext 0, [lI fs, ps 0, osW 1 s.length, vi fs.length, vi fs.length], [some (rG n g), some (rL s)]))
    (fun i x s hx hlt hI again => by
      obtain ⟨rfl, hi⟩ := range_get hx
      rw [nl21]
      have hd := List.all_eq_true.1 hon x (List.mem_range.2 hi)
      simp only [Bool.and_eq_true] at hd
      have hr : room (s.length + 1) 24 = true := room_ok (by omega) (by omega)
      simp only [dec_lt hi, dec_ge, cond_true, toNat_cast, hall, decide_eq_true hg, decide_eq_true h9, Bool.and_self, hd.1, hd.2, List.length_cons, List.length_nil, Nat.zero_add, hr]
      rw [wrap_succ (by omega)]
      simp only [rL, tyL_snoc, List.length_append, List.length_cons, List.length_nil, Nat.zero_add]
      rfl)
    (fun i x s hx hlt hI => by simp [hI])
    (fun s hI again => by
      rw [nl21, List.length_range]
      simp only [dec_ll, cond_false]) [] rfl
  have e : ∀ (l : List Nat) (a : List (List Int)), l.foldl (fun (s : List (List Int)) d => s ++ [Brn.bitsL (Brn.onP g fs d)]) a = a ++ l.map fun d => Brn.bitsL (Brn.onP g fs d) := by
    intro l
    induction l with
    | nil => intro a; simp
    | cons x l ih => intro a; rw [List.foldl_cons, ih]; simp
  rw [e, List.nil_append] at this
  exact this)
theorem S11_ok : TabOK S11 := by
  have h := S10_ok
  have h := h.addLoop (g := 21) (lid := 6) (r := l21_6) fun b k H o k' H' hv => by refine LoopOK.tab ?_ ?_ ?_ ?_ (l21_6_run b k H o k' H' hv) <;> rfl
  exact h
end Go.Ev.Burn
namespace Go.Ev.Burn
open Go Go.Ev
set_option maxRecDepth 1000000
set_option linter.unusedVariables false
set_option linter.unusedSimpArgs false
theorem place_ok {n : Int} {ws : Ws} {l : List Int} (h : (Brn.placeErr n ws l == 0) = true) : Brn.Ok n ws ∧ ∀ p ∈ l, 0 ≤ p ∧ p < n := by
  have h' : Brn.placeErr n ws l = 0 := by simpa using h
  unfold Brn.placeErr at h'
  cases hc : Brn.chk n ws == 0 with
  | false => rw [hc] at h'; simp only [cond_false] at h'; rw [h'] at hc; cases hc
  | true =>
    rw [hc] at h'
    simp only [cond_true] at h'
    refine ⟨Brn.ok_of (by simpa using hc), fun p hp => ?_⟩
    cases ha : l.all fun p => Brn.inR p 0 (n - 1) with
    | false => rw [ha] at h'; cases h'
    | true =>
      have := List.all_eq_true.1 ha p hp
      simp only [Brn.inR, Bool.and_eq_true, decide_eq_true_eq] at this
      omega
theorem laid_ok {n : Int} {ws : Ws} {l : List Int} (h : (Brn.laidErr n ws l == 0) = true) : Brn.Ok n ws ∧ (∀ p ∈ l, 0 ≤ p ∧ p < n) ∧ 0 < l.length ∧ l.length ≤ 9 := by
  have h' : Brn.laidErr n ws l = 0 := by simpa using h
  unfold Brn.laidErr at h'
  cases hc : Brn.chk n ws == 0 with
  | false => rw [hc] at h'; simp only [cond_false] at h'; rw [h'] at hc; cases hc
  | true =>
    rw [hc] at h'
    simp only [cond_true] at h'
    cases h0 : l.length == 0 with
    | true => rw [h0] at h'; cases h'
    | false =>
      rw [h0] at h'
      simp only [cond_false] at h'
      cases h9 : decide (9 < l.length) with
      | true => rw [h9] at h'; cases h'
      | false =>
        rw [h9] at h'
        simp only [cond_false] at h'
        have h9' := of_decide_eq_false h9
        have h0' : l.length ≠ 0 := by simpa using h0
        refine ⟨Brn.ok_of (by simpa using hc), fun p hp => ?_, by omega, by omega⟩
        cases ha : l.all fun p => Brn.inR p 0 (n - 1) with
        | false => rw [ha] at h'; cases h'
        | true =>
          have := List.all_eq_true.1 ha p hp
          simp only [Brn.inR, Bool.and_eq_true, decide_eq_true_eq] at this
          omega
theorem bne0 {x : Int} : (x != 0) = !(x == 0) := rfl
theorem eq0 {x : Int} (h : (x == 0) = true) : x = 0 := by simpa using h
theorem c17_run : ∀ args H v H', (c17 args H).val = some (v, H') → CallOK S8 17 args H v H' := c17_ok S8_ok (by
  intro n ws a b r hv
  obtain ⟨hl, hv⟩ := guard_val hv
  rw [leaf_val hv, nf17, Brn.openErr_eq, hl, show sm [a, b] = true from rfl]
  unfold Brn.farV
  simp only [Bool.and_self, cond_true, bne0]
  cases hc : Brn.placeErr n ws [a, b] == 0 with
  | false => rfl
  | true =>
    obtain ⟨ok, hp⟩ := place_ok hc
    have hhi := ok.hi
    have ha := hp a (by simp)
    have hb := hp b (by simp)
    obtain ⟨a, rfl⟩ := Int.eq_ofNat_of_zero_le ha.1
    obtain ⟨b, rfl⟩ := Int.eq_ofNat_of_zero_le hb.1
    have hf := ok.far ha.2 hb.2
    simp only [dec_ge, cond_true, decide_eq_true (show (a : Int) < 9 by omega), decide_eq_true (Brn.ground_len n ws), Bool.and_self, eq0 hc, hf.1, Brn.idx9, decide_eq_true hf.2])
theorem c18_run : ∀ args H v H', (c18 args H).val = some (v, H') → CallOK T9 18 args H v H' := c18_ok T9_ok (by
  intro n ws a b r hv
  obtain ⟨hl, hv⟩ := guard_val hv
  rw [leaf_val hv, nf18, hl]
  unfold Brn.farV
  simp only [cond_true, bne0]
  cases hc : Brn.chk n ws == 0 with
  | false =>
    have hp : Brn.placeErr n ws [a, b] = Brn.chk n ws := by unfold Brn.placeErr; rw [hc]; rfl
    rw [hp, hc]; rfl
  | true =>
    obtain ⟨h1, h9⟩ := chk_ok hc
    rw [wrapi (x := n - 1) (by omega) (by omega)]
    have hp : Brn.placeErr n ws [a, b] = bif Brn.inR a 0 (n - 1) && Brn.inR b 0 (n - 1) then 0 else 2 := by unfold Brn.placeErr; rw [hc]; simp
    cases ha : Brn.inR a 0 (n - 1) with
    | false => rw [hp, ha]; rfl
    | true =>
      cases hb : Brn.inR b 0 (n - 1) with
      | false => rw [hp, ha, hb]; rfl
      | true =>
        rw [ha, hb] at hp
        have hpe : (Brn.placeErr n ws [a, b] == 0) = true := by rw [hp]; rfl
        obtain ⟨ok, hpp⟩ := place_ok hpe
        have ha' := hpp a (by simp)
        have hb' := hpp b (by simp)
        obtain ⟨a, rfl⟩ := Int.eq_ofNat_of_zero_le ha'.1
        obtain ⟨b, rfl⟩ := Int.eq_ofNat_of_zero_le hb'.1
        have hf := ok.far ha'.2 hb'.2
        rw [hp]
        simp only [cond_true, cond_false, Bool.not_true, hl, decide_eq_true (show n ≤ 100 by omega), decide_eq_true (show Brn.farN n ws a b < 10 by omega), Bool.and_self]
        rfl)
theorem c19_run : ∀ args H v H', (c19 args H).val = some (v, H') → CallOK S7 19 args H v H' := c19_ok S7_ok (by
  intro n ws a most r hv
  obtain ⟨hl, hv⟩ := guard_val hv
  have nf : evBody S7 19 [aH n ws, vi a, vi most] [] = evBody S7 19 [aH n ws, vi a, vi most] [] := rfl
  rw [leaf_val hv, nf19, Brn.openErr_eq, hl, show sm [a] = true from rfl]
  unfold Brn.nearV Brn.nearErr
  simp only [Bool.and_self, cond_true, bne0]
  cases hc : Brn.placeErr n ws [a] == 0 with
  | false => simp only [cond_false, Bool.not_false, cond_true, hc]; rfl
  | true =>
    simp only [cond_true]
    by_cases hm : most < 0
    · simp only [decide_eq_true hm, cond_true]; rfl
    · obtain ⟨ok, hp⟩ := place_ok hc
      have hhi := ok.hi
      have ha := hp a (by simp)
      obtain ⟨a, rfl⟩ := Int.eq_ofNat_of_zero_le ha.1
      obtain ⟨m, rfl⟩ := Int.eq_ofNat_of_zero_le (show 0 ≤ most by omega)
      obtain ⟨b1, b2⟩ := ok.ball ha.2 (m := m)
      have e0 : (if (8 : Int) < (m : Int) then (8 : Int) else (m : Int)) = ((min m 8 : Nat) : Int) := by
        split <;> omega
      have e1 : (Brn.ground n ws)[min m 8 + a * 9]? = some ((Brn.ground n ws).getD (min m 8 + a * 9) 0) := get9 (Brn.ground_len n ws) (by omega)
      have hlt := Brn.mk9_lt (Brn.R (Brn.adjB ws) n.toNat m a)
      have e2 : decide (0 ≤ (Brn.ground n ws).getD (min m 8 + a * 9) 0) = true := decide_eq_true (by rw [b1]; omega)
      have e3 : decide ((Brn.ground n ws).getD (min m 8 + a * 9) 0 < 512) = true := decide_eq_true (by rw [b1]; omega)
      simp only [decide_eq_false hm, cond_false, dec_ge, cond_true, decide_eq_true (show (a : Int) < 9 by omega), e0, toNat_cast, decide_eq_true (show ((min m 8 : Nat) : Int) < 9 by omega), e1, oM, e2, e3, Bool.and_self]
      show some (AV.tuple [osW 0 (Brn.bitsOf _).length, vi 0], [some (rI (Brn.bitsL _))]) = _
      rw [show (Brn.bitsOf ((Brn.ground n ws).getD (min m 8 + a * 9) 0).toNat).length = (Brn.bitsL ((Brn.ground n ws).getD (min m 8 + a * 9) 0)).length by simp [Brn.bitsL], b2]
      rfl)
theorem c20_run : ∀ args H v H', (c20 args H).val = some (v, H') → CallOK T9 20 args H v H' := c20_ok T9_ok (by
  intro n ws a most r hv
  obtain ⟨hl, hv⟩ := guard_val hv
  rw [nf20, hl]
  simp only [cond_true, bne0]
  cases hc : Brn.chk n ws == 0 with
  | false =>
    have hp : Brn.placeErr n ws [a] = Brn.chk n ws := by unfold Brn.placeErr; rw [hc]; rfl
    unfold Brn.nearV Brn.nearErr at hv
    rw [hp, hc] at hv
    simp only [cond_false, hc, Bool.false_and] at hv
    rw [leaf_val (show (Tree.leaf _).val = some r from hv)]
    rfl
  | true =>
    obtain ⟨h1, h9⟩ := chk_ok hc
    rw [wrapi (x := n - 1) (by omega) (by omega)]
    have hp : Brn.placeErr n ws [a] = bif Brn.inR a 0 (n - 1) then 0 else 2 := by unfold Brn.placeErr; rw [hc]; simp
    unfold Brn.nearV Brn.nearErr at hv
    rw [hp] at hv
    cases ha : Brn.inR a 0 (n - 1) with
    | false =>
      rw [ha] at hv
      rw [leaf_val (show (Tree.leaf _).val = some r from hv)]
      rfl
    | true =>
      rw [ha] at hv
      by_cases hm : most < 0
      · rw [decide_eq_true hm] at hv ⊢
        rw [leaf_val (show (Tree.leaf _).val = some r from hv)]
        rfl
      · rw [decide_eq_false hm] at hv ⊢
        simp only [cond_true, cond_false, Bool.not_true, show ((0 : Int) == 0) = true from rfl, Bool.true_and] at hv ⊢
        rw [decide_eq_true (show n ≤ 100 by omega)]
        simp only [Bool.and_self, cond_true]
        by_cases hz : 0 < min most n
        · rw [decide_eq_false (show ¬ min most n ≤ 0 by omega)] at hv
          rw [decide_eq_true hz, leaf_val (show (Tree.leaf _).val = some r from hv)]
          rfl
        · rw [decide_eq_true (show min most n ≤ 0 by omega)] at hv
          rw [decide_eq_false hz, leaf_val (show (Tree.leaf _).val = some r from hv)]
          rfl)
theorem c21_run : ∀ args H v H', (c21 args H).val = some (v, H') → CallOK S11 21 args H v H' := c21_ok S11_ok (by
  intro n ws fs r hv
  obtain ⟨hl, hv⟩ := guard_val hv
  rw [leaf_val hv, nf21, cond_t hl, Brn.laidP_eq]
  rw [Bool.and_eq_true] at hl
  unfold Brn.burntV
  simp only [bne0]
  cases hc : Brn.laidErr n ws fs == 0 with
  | false => rfl
  | true =>
    obtain ⟨ok, hf, h0, h9⟩ := laid_ok hc
    have hhi := ok.hi
    have e1 : (fs.all fun p => decide (0 ≤ p) && decide (p < 9)) = true := List.all_eq_true.2 fun p hp => by
      have := hf p hp
      rw [decide_eq_true (by omega), decide_eq_true (by omega)]; rfl
    have e2 : ((List.range fs.length).all fun d => decide (0 ≤ Brn.onP (Brn.ground n ws) fs d) && decide (Brn.onP (Brn.ground n ws) fs d < 512)) = true := List.all_eq_true.2 fun d hd => by
      have := Brn.on_range ok hf h9 (List.mem_range.1 hd)
      rw [decide_eq_true this.1, decide_eq_true this.2]; rfl
    simp only [cond_true, hl.2, decide_true, decide_eq_true (Brn.ground_len n ws), decide_eq_true h9, e1, e2, Bool.and_self, Brn.burnt_eq ok hf h9, eq0 hc])
theorem c22_run : ∀ args H v H', (c22 args H).val = some (v, H') → CallOK T11 22 args H v H' := c22_ok T11_ok (by
  intro n ws fs r hv
  obtain ⟨hl, hv⟩ := guard_val hv
  rw [leaf_val hv, nf22, cond_t hl]
  unfold Brn.burntV
  simp only [bne0]
  cases hc : Brn.laidErr n ws fs == 0 with
  | false => rfl
  | true =>
    obtain ⟨ok, hf, h0, h9⟩ := laid_ok hc
    have hhi := ok.hi
    simp only [Bool.not_true, cond_false, hl, decide_eq_true (show n ≤ 100 by omega), Bool.and_self, cond_true, eq0 hc])
theorem c27_run : ∀ args H v H', (c27 args H).val = some (v, H') → CallOK S10 27 args H v H' := c27_ok S10_ok (by
  intro n ws fs r hv
  obtain ⟨hl, hv⟩ := guard_val hv
  rw [leaf_val hv, nf27, cond_t hl, Brn.laidP_eq]
  unfold Brn.enoughV
  simp only [bne0]
  cases hc : Brn.laidErr n ws fs == 0 with
  | false => rfl
  | true =>
    obtain ⟨ok, hf, h0, h9⟩ := laid_ok hc
    have hhi := ok.hi
    have hlo := ok.lo
    have e1 : (fs.all fun p => decide (0 ≤ p) && decide (p < 9)) = true := List.all_eq_true.2 fun p hp => by
      have := hf p hp
      rw [decide_eq_true (by omega), decide_eq_true (by omega)]; rfl
    rw [wrapi (x := (fs.length : Int) - 1) (by omega) (by omega)]
    have e2 : ((fs.length : Int) - 1).toNat = fs.length - 1 := by omega
    simp only [cond_true, decide_eq_true (Brn.ground_len n ws), decide_eq_true (show (0 : Int) ≤ (fs.length : Int) - 1 by omega), decide_eq_true (show (fs.length : Int) - 1 < (fs.length : Int) by omega), decide_eq_true h9, e1, e2, decide_eq_true (show 0 ≤ n by omega), decide_eq_true hhi, Bool.and_self, Brn.enough_eq ok hf h9 h0]
    cases decide (((fs.foldl (Brn.dayNext n ws) []).length : Int) = n) <;> rfl)
theorem c28_run : ∀ args H v H', (c28 args H).val = some (v, H') → CallOK T12 28 args H v H' := c28_ok T12_ok (by
  intro n ws fs r hv
  obtain ⟨hl, hv⟩ := guard_val hv
  rw [leaf_val hv, nf28, cond_t hl]
  unfold Brn.enoughV
  cases hc : Brn.laidErr n ws fs == 0 with
  | false => rfl
  | true =>
    obtain ⟨ok, hf, h0, h9⟩ := laid_ok hc
    have hhi := ok.hi
    simp only [cond_true, hl, decide_eq_true ok.lo, decide_eq_true (show n ≤ 100 by omega), decide_eq_true h0, Bool.and_self]
    cases decide (((fs.foldl (Brn.dayNext n ws) []).length : Int) = n) with
    | false => rfl
    | true => simp only [Bool.not_true, cond_false, cond_true, eq0 hc])
theorem c15_run : ∀ args H v H', (c15 args H).val = some (v, H') → CallOK S11 15 args H v H' := c15_ok S11_ok (by
  intro n ws fs r hv
  rw [leaf_val hv, nf15]
  unfold Brn.large
  by_cases h : 60 < ws.length
  · simp only [decide_eq_true h, decide_eq_true (show ((ws.length : Int) > 60) by omega), cond_true, Bool.true_or]
  · simp only [decide_eq_false h, decide_eq_false (show ¬ ((ws.length : Int) > 60) by omega), cond_false, Bool.false_or]
    rw [show decide ((fs.length : Int) > 60) = decide (60 < fs.length) by rw [decide_eq_decide]; omega])
theorem zip_any {α : Type} [DecidableEq α] : ∀ {a b : List α}, a.length = b.length → ((a.zip b).any fun x => !decide (x.1 = x.2)) = !decide (a = b)
  | [], [], _ => rfl
  | [], _ :: _, h => by cases h
  | _ :: _, [], h => by cases h
  | x :: a, y :: b, h => by
    have := zip_any (a := a) (b := b) (by simpa using h)
    rw [List.zip_cons_cons, List.any_cons, this]
    by_cases hx : x = y <;> simp [hx]
theorem zip_get {α : Type} {a b : List α} {i : Nat} {x : α × α} (h : (a.zip b)[i]? = some x) : a[i]? = some x.1 ∧ b[i]? = some x.2 := by
  rw [List.getElem?_zip_eq_some] at h
  exact h
theorem l23_4_run : ∀ base kv H o kv' H', (l23_4 base kv H).val = some (o, kv', H') → LoopOK S11 23 4 base kv H o kv' H' := l23_4_ok S11_ok (by kernel_rfl) (by
  intro a b r hv
  obtain ⟨hl, hv⟩ := guard_val hv
  simp only [Bool.and_eq_true, decide_eq_true_eq] at hl
  obtain ⟨hs, hab⟩ := hl
  have hsl := sm_le hs
  have hz : (a.zip b).length = a.length := by rw [List.length_zip]; omega
  obtain ⟨mm, hm⟩ := scan_of (T := S11) (fid := 23) (lid := 4) (base := 0) (c := lpc S11 23 4) (a.zip b) (fun x => x.1 != x.2) (fun i => [lI a, lI b, vb false, vi i]) []
    (fun i => (.ret, [lI a, lI b, vb false, vi i], [])) (.ext 0, [lI a, lI b, vb false, vi a.length], [])
    (fun i x hx hlt again => by
      obtain ⟨x1, x2⟩ := zip_get hx
      rw [nl23f]
      rw [hz] at hlt
      simp only [dec_lt hlt, dec_lt (show i < b.length by omega), dec_ge, cond_true, toNat_cast, x1, x2, oM]
      rw [wrap_succ (by omega)])
    (fun again => by
      rw [nl23f, hz]
      simp only [dec_ll, cond_false])
  refine ⟨mm, hm.trans ?_⟩
  have e : ((a.zip b).any fun x => x.1 != x.2) = !decide (a = b) := by
    rw [← zip_any hab]
    rfl
  rw [e]
  rcases br_val hv with ⟨h, hv⟩ | ⟨h, hv⟩ <;> rw [leaf_val hv, h] <;> rfl)
theorem S12_ok : TabOK S12 := by
  have h := S11_ok
  have h := h.addCall (g := 17) (r := c17) fun a H v H' hv => by refine CallOK.tab ?_ ?_ (c17_run a H v H' hv) <;> rfl
  have h := h.addCall (g := 18) (r := c18) fun a H v H' hv => by refine CallOK.tab ?_ ?_ (c18_run a H v H' hv) <;> rfl
  have h := h.addCall (g := 19) (r := c19) fun a H v H' hv => by refine CallOK.tab ?_ ?_ (c19_run a H v H' hv) <;> rfl
  have h := h.addCall (g := 20) (r := c20) fun a H v H' hv => by refine CallOK.tab ?_ ?_ (c20_run a H v H' hv) <;> rfl
  have h := h.addCall (g := 21) (r := c21) fun a H v H' hv => by refine CallOK.tab ?_ ?_ (c21_run a H v H' hv) <;> rfl
  have h := h.addCall (g := 22) (r := c22) fun a H v H' hv => by refine CallOK.tab ?_ ?_ (c22_run a H v H' hv) <;> rfl
  have h := h.addCall (g := 27) (r := c27) fun a H v H' hv => by refine CallOK.tab ?_ ?_ (c27_run a H v H' hv) <;> rfl
  have h := h.addCall (g := 28) (r := c28) fun a H v H' hv => by refine CallOK.tab ?_ ?_ (c28_run a H v H' hv) <;> rfl
  have h := h.addCall (g := 15) (r := c15) fun a H v H' hv => by refine CallOK.tab ?_ ?_ (c15_run a H v H' hv) <;> rfl
  have h := h.addLoop (g := 23) (lid := 4) (r := l23_4) fun b k H o k' H' hv => by refine LoopOK.tab ?_ ?_ ?_ ?_ (l23_4_run b k H o k' H' hv) <;> rfl
  exact h
theorem c23_run : ∀ args H v H', (c23 args H).val = some (v, H') → CallOK S12 23 args H v H' := c23_ok S12_ok (by
  intro a b r hv
  obtain ⟨hl, hv⟩ := guard_val hv
  rw [leaf_val hv, nf23]
  by_cases h : a.length = b.length
  · have e1 : ((a.length : Int) != (b.length : Int)) = false := by simp [h]
    simp only [e1, cond_false, hl, decide_eq_true h, Bool.and_self, cond_true]
    cases decide (a = b) <;> rfl
  · have e1 : ((a.length : Int) != (b.length : Int)) = true := by simp; omega
    have e2 : ¬ a = b := fun e => h (by rw [e])
    simp only [e1, cond_true, decide_eq_false e2])
theorem S13_ok : TabOK S13 := by
  have h := S12_ok
  have h := h.addCall (g := 23) (r := c23) fun a H v H' hv => by refine CallOK.tab ?_ ?_ (c23_run a H v H' hv) <;> rfl
  exact h
theorem l24_4_run : ∀ base kv H o kv' H', (l24_4 base kv H).val = some (o, kv', H') → LoopOK S13 24 4 base kv H o kv' H' := l24_4_ok S13_ok (by kernel_rfl) (by
  intro a b r hv
  obtain ⟨hl, hv⟩ := guard_val hv
  simp only [Bool.and_eq_true, decide_eq_true_eq] at hl
  obtain ⟨⟨hs, hab⟩, hall⟩ := hl
  have hsl := sm_le hs
  have hz : (a.zip b).length = a.length := by rw [List.length_zip]; omega
  obtain ⟨mm, hm⟩ := scan_of (T := S13) (fid := 24) (lid := 4) (base := 0) (c := lpc S13 24 4) (a.zip b) (fun x => !decide (x.1 = x.2)) (fun i => [lL a, lL b, vb false, vi i]) []
    (fun i => (.ret, [lL a, lL b, vb false, vi i], [])) (.ext 0, [lL a, lL b, vb false, vi a.length], [])
    (fun i x hx hlt again => by
      obtain ⟨x1, x2⟩ := zip_get hx
      rw [nl24]
      rw [hz] at hlt
      have hsx := List.all_eq_true.1 hall x.1 (List.mem_of_getElem? x1)
      simp only [dec_lt hlt, dec_lt (show i < b.length by omega), dec_ge, cond_true, toNat_cast, x1, x2, oM, hsx]
      rw [wrap_succ (by omega)])
    (fun again => by
      rw [nl24, hz]
      simp only [dec_ll, cond_false])
  refine ⟨mm, hm.trans ?_⟩
  rw [zip_any hab]
  rcases br_val hv with ⟨h, hv⟩ | ⟨h, hv⟩ <;> rw [leaf_val hv, h] <;> rfl)
theorem S14_ok : TabOK S14 := by
  have h := S13_ok
  have h := h.addLoop (g := 24) (lid := 4) (r := l24_4) fun b k H o k' H' hv => by refine LoopOK.tab ?_ ?_ ?_ ?_ (l24_4_run b k H o k' H' hv) <;> rfl
  exact h
theorem c24_run : ∀ args H v H', (c24 args H).val = some (v, H') → CallOK S14 24 args H v H' := c24_ok S14_ok (by
  intro a b r hv
  obtain ⟨hl, hv⟩ := guard_val hv
  rw [Bool.and_eq_true] at hl
  rw [leaf_val hv, nf24]
  by_cases h : a.length = b.length
  · have e1 : ((a.length : Int) != (b.length : Int)) = false := by simp [h]
    simp only [e1, cond_false, hl.1, hl.2, decide_eq_true h, Bool.and_self, cond_true]
    cases decide (a = b) <;> rfl
  · have e1 : ((a.length : Int) != (b.length : Int)) = true := by simp; omega
    have e2 : ¬ a = b := fun e => h (by rw [e])
    simp only [e1, cond_true, decide_eq_false e2])
end Go.Ev.Burn
