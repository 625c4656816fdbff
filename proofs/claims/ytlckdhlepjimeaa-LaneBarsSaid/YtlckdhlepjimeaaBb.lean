/- Corners that bar the carts: the reference's search; the program's sets: tables and normal forms. -/
import Derived.Test.YtlckdhlepjimeaaBa
import Derived.Test.YtlckdhlepjimeaaRs
set_option linter.unusedVariables false
set_option linter.unusedSimpArgs false
namespace Lan
def frm (l : List Int) : Int := bif decide (l.length = 0) then 0 else lastI l + 1
def brd (a b : Int) (sh ya ti : List Int) : Nat → List Int → Option (Nat × List Int)
  | 0, l => bif barB a b sh ya ti l then some (0, l) else none
  | d + 1, l => (List.range' (frm l).toNat ((a * b).toNat - (frm l).toNat)).findSome? fun (n : Nat) => (brd a b sh ya ti d (l ++ [(n : Int)])).map fun r => (n, r.2)
def brN (o : Option (Nat × List Int)) : Nat := (o.map (·.1)).getD 0
def brL (o : Option (Nat × List Int)) : List Int := (o.map (·.2)).getD []
end Lan
namespace Go.Ev.Lane
open Go Go.Ev
set_option maxRecDepth 1000000
set_option maxHeartbeats 0
set_option linter.unusedVariables false
def c92t (d : Nat) (sh ya ti l : List Int) (a b many : Int) : Tree (AV × Hp) := .br (Lan.barG a b sh ya ti && decide ((l.length : Int) ≤ many) && decide (many ≤ (l.length : Int) + (d : Int)) && decide (many ≤ 3) && (l.all fun x => Lan.onP a b x)) (.br (decide ((l.length : Int) = many)) (.leaf (.tuple [lI l, vb (Lan.barB a b sh ya ti l)], [])) (.br (Lan.brd a b sh ya ti (many - (l.length : Int)).toNat l).isSome (.leaf (.tuple [lI (Lan.brL (Lan.brd a b sh ya ti (many - (l.length : Int)).toNat l)), vb true], [])) (.leaf (.tuple [osW 0 0, vb false], [some (rowI [] 0)])))) .fail
def c92 (d : Nat) (args : List AV) (H : Hp) : Tree (AV × Hp) := match args, H with
  | [(.agg [.sc (.int .i64 a), .sc (.int .i64 b), .sl (.int .i64) sh false] false), (.agg [.sl (.int .i64) ya false, .sl (.int .i64) ti false] false), (.sl (.int .i64) l false), (.sc (.int .i64 many))], [] => c92t d sh ya ti l a b many
  | _, _ => .fail
theorem c92_ok (d : Nat) {T : Tab} (hT : TabOK T) (h : ∀ (sh ya ti l : List Int) (a b many : Int) (r : AV × Hp), (c92t d sh ya ti l a b many).val = some r → evBody T 92 [aP a b sh, aX ya ti, lI l, vi many] [] = some r) : ∀ args H v H', (c92 d args H).val = some (v, H') → CallOK T 92 args H v H' := by
  intro args H v H' hv
  unfold c92 at hv
  split at hv
  · exact evBody_sound hT (h _ _ _ _ _ _ _ _ hv)
  · cases hv
noncomputable def V0b (d : Nat) : Tab := Z8.addCall 92 (c92 d)
theorem nl92 (d : Nat) (again : Ag) (sh ya ti l : List Int) (a b many n : Int) : lpStep (V0b d) 92 7 0 (lpc (V0b d) 92 7) again [lI l, vi many, ps 0, ps 1, osW 2 0, vb false, vi n] [some (rP a b sh 29), some (rZ ya ti 30), some (rowI [] 0)] = (bif decide (n < IntKind.i64.wrap (a * b)) then bif bif decide (0 < l.length) then true else ([] : List Int).isEmpty then bif room (0 + l.length) 8 then bif room (0 + l.length + 1) 8 then bif Lan.barG a b sh ya ti && decide ((↑([] ++ l ++ [n]).length : Int) ≤ many) && decide (many ≤ (↑([] ++ l ++ [n]).length : Int) + (↑d : Int)) && decide (many ≤ 3) && ([] ++ l ++ [n]).all fun x => Lan.onP a b x then bif decide ((↑([] ++ l ++ [n]).length : Int) = many) then bif Lan.barB a b sh ya ti ([] ++ l ++ [n]) then some (.ret, [.sl (.int .i64) l false, vi many, .ps 0 0 0 0, .ps 1 0 0 0, .sl (.int .i64) ([] ++ l ++ [n]) false, vb true, vi n], [some ⟨[vi a, vi b, .sl (.int .i64) sh false], true, 29, false, false, none⟩, some ⟨[.sl (.int .i64) ya false, .sl (.int .i64) ti false], true, 30, false, false, none⟩]) else again [.sl (.int .i64) l false, vi many, .ps 0 0 0 0, .ps 1 0 0 0, osW 2 0, vb false, vi (IntKind.i64.wrap (n + 1))] [some ⟨[vi a, vi b, .sl (.int .i64) sh false], true, 29, false, false, none⟩, some ⟨[.sl (.int .i64) ya false, .sl (.int .i64) ti false], true, 30, false, false, none⟩, some ⟨[.run (.int .i64) []], false, 0, false, false, none⟩] else bif (Lan.brd a b sh ya ti (many - (↑([] ++ l ++ [n]).length : Int)).toNat ([] ++ l ++ [n])).isSome then some (.ret, [.sl (.int .i64) l false, vi many, .ps 0 0 0 0, .ps 1 0 0 0, .sl (.int .i64) (Lan.brL (Lan.brd a b sh ya ti (many - (↑([] ++ l ++ [n]).length : Int)).toNat ([] ++ l ++ [n]))) false, vb true, vi n], [some ⟨[vi a, vi b, .sl (.int .i64) sh false], true, 29, false, false, none⟩, some ⟨[.sl (.int .i64) ya false, .sl (.int .i64) ti false], true, 30, false, false, none⟩]) else again [.sl (.int .i64) l false, vi many, .ps 0 0 0 0, .ps 1 0 0 0, osW 2 0, vb false, vi (IntKind.i64.wrap (n + 1))] [some ⟨[vi a, vi b, .sl (.int .i64) sh false], true, 29, false, false, none⟩, some ⟨[.sl (.int .i64) ya false, .sl (.int .i64) ti false], true, 30, false, false, none⟩, some ⟨[.run (.int .i64) []], false, 0, false, false, none⟩] else none else none else none else none else some (.ext 0, [.sl (.int .i64) l false, vi many, .ps 0 0 0 0, .ps 1 0 0 0, osW 2 0, vb false, vi n], [some ⟨[vi a, vi b, .sl (.int .i64) sh false], true, 29, false, false, none⟩, some ⟨[.sl (.int .i64) ya false, .sl (.int .i64) ti false], true, 30, false, false, none⟩, some ⟨[.run (.int .i64) []], false, 0, false, false, none⟩])) := by kernel_rfl
def l92_7t (d : Nat) (sh ya ti l : List Int) (a b many n : Int) : Tree (Out × List AV × Hp) := .br (Lan.barG a b sh ya ti && decide ((l.length : Int) < many) && decide (many ≤ (l.length : Int) + (d : Int) + 1) && decide (many ≤ 3) && (l.all fun x => Lan.onP a b x) && decide (n = Lan.frm l)) (.br (Lan.brd a b sh ya ti (many - (l.length : Int)).toNat l).isSome (.leaf (.ret, [lI l, vi many, ps 0, ps 1, lI (Lan.brL (Lan.brd a b sh ya ti (many - (l.length : Int)).toNat l)), vb true, vi (Lan.brN (Lan.brd a b sh ya ti (many - (l.length : Int)).toNat l))], [some (rP a b sh 29), some (rZ ya ti 30)])) (.leaf (.ext 0, [lI l, vi many, ps 0, ps 1, osW 2 0, vb false, vi (a * b)], [some (rP a b sh 29), some (rZ ya ti 30), some (rowI [] 0)]))) .fail
def l92_7 (d : Nat) (base : Nat) (kv : List AV) (H : Hp) : Tree (Out × List AV × Hp) := match Nat.beq base 0, kv, H with
  | true, [(.sl (.int .i64) l false), (.sc (.int .i64 many)), (.ps 0 0 0 0), (.ps 1 0 0 0), (.os 2 0 0 0 true false true), (.sc (.bool false)), (.sc (.int .i64 n))], [some ⟨[.sc (.int .i64 a), .sc (.int .i64 b), .sl (.int .i64) sh false], true, 29, false, false, none⟩, some ⟨[.sl (.int .i64) ya false, .sl (.int .i64) ti false], true, 30, false, false, none⟩, some ⟨[.run (.int .i64) []], false, 0, false, false, none⟩] => l92_7t d sh ya ti l a b many n
  | _, _, _ => .fail
theorem l92_7_ok (d : Nat) {T : Tab} (hT : TabOK T) (hlo : loopOf T.fn 92 7 = some (lpc T 92 7)) (h : ∀ (sh ya ti l : List Int) (a b many n : Int) (r : Out × List AV × Hp), (l92_7t d sh ya ti l a b many n).val = some r → ∃ mm, lpRun T 92 7 0 (lpc T 92 7) mm [lI l, vi many, ps 0, ps 1, osW 2 0, vb false, vi n] [some (rP a b sh 29), some (rZ ya ti 30), some (rowI [] 0)] = some r) : ∀ base kv H o kv' H', (l92_7 d base kv H).val = some (o, kv', H') → LoopOK T 92 7 base kv H o kv' H' := by
  intro base kv H o kv' H' hv
  unfold l92_7 at hv
  split at hv
  · rename_i hb
    obtain rfl := Nat.eq_of_beq_eq_true hb
    exact loop_ok hT hlo (h _ _ _ _ _ _ _ _ _ hv)
  · cases hv
noncomputable def V1b (d : Nat) : Tab := (V0b d).addLoop 92 7 (l92_7 d)
theorem nf92 (d : Nat) (sh ya ti l : List Int) (a b many : Int) : evBody (V1b d) 92 [aP a b sh, aX ya ti, lI l, vi many] [] = (bif (↑l.length : Int) == many then bif Lan.barG a b sh ya ti && sm l then some (.tuple [.sl (.int .i64) l false, vb (Lan.barB a b sh ya ti l)], []) else none else bif decide ((↑l.length : Int) > 0) then bif decide (0 ≤ IntKind.i64.wrap ((↑l.length : Int) - 1)) then bif decide (IntKind.i64.wrap ((↑l.length : Int) - 1) < (↑l.length : Int)) then oM l[(IntKind.i64.wrap ((↑l.length : Int) - 1)).toNat]? fun x => bif (Lan.barG a b sh ya ti && decide ((↑l.length : Int) < many) && decide (many ≤ (↑l.length : Int) + (↑d : Int) + 1) && decide (many ≤ 3) && l.all fun x => Lan.onP a b x) && decide (IntKind.i64.wrap (x + 1) = Lan.frm l) then bif (Lan.brd a b sh ya ti (many - (↑l.length : Int)).toNat l).isSome then some (.tuple [.sl (.int .i64) (Lan.brL (Lan.brd a b sh ya ti (many - (↑l.length : Int)).toNat l)) false, vb true], []) else some (.tuple [osW 0 0, vb false], [some ⟨[.run (.int .i64) []], false, 0, false, false, none⟩]) else none else none else none else bif (Lan.barG a b sh ya ti && decide ((↑l.length : Int) < many) && decide (many ≤ (↑l.length : Int) + (↑d : Int) + 1) && decide (many ≤ 3) && l.all fun x => Lan.onP a b x) && decide (0 = Lan.frm l) then bif (Lan.brd a b sh ya ti (many - (↑l.length : Int)).toNat l).isSome then some (.tuple [.sl (.int .i64) (Lan.brL (Lan.brd a b sh ya ti (many - (↑l.length : Int)).toNat l)) false, vb true], []) else some (.tuple [osW 0 0, vb false], [some ⟨[.run (.int .i64) []], false, 0, false, false, none⟩]) else none) := by kernel_rfl
noncomputable def Z10 : Tab := V0b 2
theorem nl38 (again : Ag) (sh ya ti : List Int) (a b many : Int) : lpStep Z10 38 5 0 (lpc Z10 38 5) again [ps 0, ps 1, osW 2 0, vi 0, vi many] [some (rP a b sh 29), some (rZ ya ti 30), some (rowI [] 0)] = (bif decide (many < (↑ya.length : Int)) then bif Lan.barG a b sh ya ti && decide ((↑0 : Int) ≤ many) && decide (many ≤ (↑0 : Int) + (↑2 : Int)) && decide (many ≤ 3) && [].all fun x => Lan.onP a b x then bif decide ((↑0 : Int) = many) then bif Lan.barB a b sh ya ti [] then some (.ret, [.ps 0 0 0 0, .ps 1 0 0 0, .sl (.int .i64) [] false, vi 0, vi many], [some ⟨[vi a, vi b, .sl (.int .i64) sh false], true, 29, false, false, none⟩, some ⟨[.sl (.int .i64) ya false, .sl (.int .i64) ti false], true, 30, false, false, none⟩]) else again [.ps 0 0 0 0, .ps 1 0 0 0, osW 2 0, vi 0, vi (IntKind.i64.wrap (many + 1))] [some ⟨[vi a, vi b, .sl (.int .i64) sh false], true, 29, false, false, none⟩, some ⟨[.sl (.int .i64) ya false, .sl (.int .i64) ti false], true, 30, false, false, none⟩, some ⟨[.run (.int .i64) []], false, 0, false, false, none⟩] else bif (Lan.brd a b sh ya ti (many - (↑0 : Int)).toNat []).isSome then some (.ret, [.ps 0 0 0 0, .ps 1 0 0 0, .sl (.int .i64) (Lan.brL (Lan.brd a b sh ya ti (many - (↑0 : Int)).toNat [])) false, vi 0, vi many], [some ⟨[vi a, vi b, .sl (.int .i64) sh false], true, 29, false, false, none⟩, some ⟨[.sl (.int .i64) ya false, .sl (.int .i64) ti false], true, 30, false, false, none⟩]) else again [.ps 0 0 0 0, .ps 1 0 0 0, osW 2 0, vi 0, vi (IntKind.i64.wrap (many + 1))] [some ⟨[vi a, vi b, .sl (.int .i64) sh false], true, 29, false, false, none⟩, some ⟨[.sl (.int .i64) ya false, .sl (.int .i64) ti false], true, 30, false, false, none⟩, some ⟨[.run (.int .i64) []], false, 0, false, false, none⟩] else none else some (.ext 0, [.ps 0 0 0 0, .ps 1 0 0 0, osW 2 0, vi 0, vi many], [some ⟨[vi a, vi b, .sl (.int .i64) sh false], true, 29, false, false, none⟩, some ⟨[.sl (.int .i64) ya false, .sl (.int .i64) ti false], true, 30, false, false, none⟩, some ⟨[.run (.int .i64) []], false, 0, false, false, none⟩])) := by kernel_rfl
theorem nl91 (again : Ag) (sh ya ti : List Int) (a b s m q i : Int) : lpStep Y6 91 4 0 (lpc Y6 91 4) again [vS s, ps 0, ps 1, vS m, vi q, vi i] [some (rP a b sh 24), some (rZ ya ti 26)] = (bif decide (i < q) then bif decide (0 ≤ i) then bif IntKind.u16.wrap (↑(BitVec.ofInt 16 (m.fdiv (2 ^ Min.min i.toNat 16)) &&& BitVec.ofInt 16 1).toNat : Int) == 1 then bif Lan.side a b && decide (0 ≤ i) && decide (i < 16) && decide (0 ≤ s) && decide (s < 65536) then bif sm (Lan.stP a b i s.toNat) && Lan.in16 (Lan.stP a b i s.toNat) then again [.sc (.int .u16 s), .ps 0 0 0 0, .ps 1 0 0 0, .sc (.int .u16 (IntKind.u16.wrap (↑(BitVec.ofInt 16 m ||| BitVec.ofInt 16 (↑(Lan.ofN (Lan.stP a b i s.toNat)) : Int)).toNat : Int))), vi q, vi (IntKind.i64.wrap (i + 1))] [some ⟨[vi a, vi b, .sl (.int .i64) sh false], true, 24, false, false, none⟩, some ⟨[.sl (.int .i64) ya false, .sl (.int .i64) ti false], true, 26, false, false, none⟩] else none else none else again [.sc (.int .u16 s), .ps 0 0 0 0, .ps 1 0 0 0, .sc (.int .u16 m), vi q, vi (IntKind.i64.wrap (i + 1))] [some ⟨[vi a, vi b, .sl (.int .i64) sh false], true, 24, false, false, none⟩, some ⟨[.sl (.int .i64) ya false, .sl (.int .i64) ti false], true, 26, false, false, none⟩] else none else some (.ext 0, [.sc (.int .u16 s), .ps 0 0 0 0, .ps 1 0 0 0, .sc (.int .u16 m), vi q, vi i], [some ⟨[vi a, vi b, .sl (.int .i64) sh false], true, 24, false, false, none⟩, some ⟨[.sl (.int .i64) ya false, .sl (.int .i64) ti false], true, 26, false, false, none⟩])) := by kernel_rfl
def _root_.Lan.barA (a b : Int) (sh ya ti : List Int) : Option (Nat × List Int) := (List.range ya.length).findSome? fun (m : Nat) => (Lan.brd a b sh ya ti m []).map fun r => (m, r.2)
def l38_5t (sh ya ti : List Int) (a b : Int) : Tree (Out × List AV × Hp) := .br (Lan.barG a b sh ya ti) (.br (Lan.barA a b sh ya ti).isSome (.leaf (.ret, [ps 0, ps 1, lI (Lan.brL (Lan.barA a b sh ya ti)), vi 0, vi (Lan.brN (Lan.barA a b sh ya ti))], [some (rP a b sh 29), some (rZ ya ti 30)])) (.leaf (.ext 0, [ps 0, ps 1, osW 2 0, vi 0, vi ya.length], [some (rP a b sh 29), some (rZ ya ti 30), some (rowI [] 0)]))) .fail
def l38_5 (base : Nat) (kv : List AV) (H : Hp) : Tree (Out × List AV × Hp) := match Nat.beq base 0, kv, H with
  | true, [(.ps 0 0 0 0), (.ps 1 0 0 0), (.os 2 0 0 0 true false true), (.sc (.int .i64 0)), (.sc (.int .i64 0))], [some ⟨[.sc (.int .i64 a), .sc (.int .i64 b), .sl (.int .i64) sh false], true, 29, false, false, none⟩, some ⟨[.sl (.int .i64) ya false, .sl (.int .i64) ti false], true, 30, false, false, none⟩, some ⟨[.run (.int .i64) []], false, 0, false, false, none⟩] => l38_5t sh ya ti a b
  | _, _, _ => .fail
theorem l38_5_ok {T : Tab} (hT : TabOK T) (hlo : loopOf T.fn 38 5 = some (lpc T 38 5)) (h : ∀ (sh ya ti : List Int) (a b : Int) (r : Out × List AV × Hp), (l38_5t sh ya ti a b).val = some r → ∃ mm, lpRun T 38 5 0 (lpc T 38 5) mm [ps 0, ps 1, osW 2 0, vi 0, vi 0] [some (rP a b sh 29), some (rZ ya ti 30), some (rowI [] 0)] = some r) : ∀ base kv H o kv' H', (l38_5 base kv H).val = some (o, kv', H') → LoopOK T 38 5 base kv H o kv' H' := by
  intro base kv H o kv' H' hv
  unfold l38_5 at hv
  split at hv
  · rename_i hb
    obtain rfl := Nat.eq_of_beq_eq_true hb
    exact loop_ok hT hlo (h _ _ _ _ _ _ hv)
  · cases hv
noncomputable def Z11 : Tab := (Z10).addLoop 38 5 l38_5
theorem nf38 (sh ya ti : List Int) (a b : Int) : evBody Z11 38 [aP a b sh, aX ya ti] [] = (bif sm sh && sm ya && sm ti then bif Lan.chk a b sh ya ti != 0 then some (.tuple [osW 0 0, vi (Lan.chk a b sh ya ti)], [some ⟨[.run (.int .i64) []], false, 0, false, false, none⟩]) else bif Lan.barG a b sh ya ti then bif (Lan.barA a b sh ya ti).isSome then some (.tuple [.sl (.int .i64) (Lan.brL (Lan.barA a b sh ya ti)) false, vi 0], []) else some (.tuple [osW 0 0, vi 13], [some ⟨[.run (.int .i64) []], false, 0, false, false, none⟩]) else none else none) := by kernel_rfl
def c38t (sh ya ti : List Int) (a b : Int) : Tree (AV × Hp) := .br (sm sh && sm ya && sm ti) (.br (Lan.chk a b sh ya ti == 0) (.br (Lan.barA a b sh ya ti).isSome (.leaf (.tuple [lI (Lan.brL (Lan.barA a b sh ya ti)), vi 0], [])) (.leaf (.tuple [osW 0 0, vi 13], [some (rowI [] 0)]))) (.leaf (.tuple [osW 0 0, vi (Lan.chk a b sh ya ti)], [some (rowI [] 0)]))) .fail
def c38 (args : List AV) (H : Hp) : Tree (AV × Hp) := match args, H with
  | [(.agg [.sc (.int .i64 a), .sc (.int .i64 b), .sl (.int .i64) sh false] false), (.agg [.sl (.int .i64) ya false, .sl (.int .i64) ti false] false)], [] => c38t sh ya ti a b
  | _, _ => .fail
theorem c38_ok {T : Tab} (hT : TabOK T) (h : ∀ (sh ya ti : List Int) (a b : Int) (r : AV × Hp), (c38t sh ya ti a b).val = some r → evBody T 38 [aP a b sh, aX ya ti] [] = some r) : ∀ args H v H', (c38 args H).val = some (v, H') → CallOK T 38 args H v H' := by
  intro args H v H' hv
  unfold c38 at hv
  split at hv
  · exact evBody_sound hT (h _ _ _ _ _ _ hv)
  · cases hv
theorem nf40 (sh ya ti l : List Int) (a b : Int) : evBody Z8 40 [aP a b sh, aX ya ti, lI l] [] = (bif sm sh && sm ya && sm ti then bif Lan.chk a b sh ya ti == 0 then bif sm l && Lan.side a b then bif Lan.ascE a b l == 0 then bif Lan.barG a b sh ya ti && sm l then bif !Lan.barB a b sh ya ti l then some (vi 14, []) else some (vi (Lan.ascE a b l), []) else none else some (vi (Lan.ascE a b l), []) else none else bif Lan.chk a b sh ya ti == 0 then bif Lan.barG a b sh ya ti && sm l then bif !Lan.barB a b sh ya ti l then some (vi 14, []) else some (vi (Lan.chk a b sh ya ti), []) else none else some (vi (Lan.chk a b sh ya ti), []) else none) := by kernel_rfl
def _root_.Lan.prvE (a b : Int) (sh ya ti l : List Int) : Int := bif Lan.chk a b sh ya ti != 0 then Lan.chk a b sh ya ti else bif Lan.ascE a b l != 0 then Lan.ascE a b l else bif Lan.barB a b sh ya ti l then 0 else 14
def c40t (sh ya ti l : List Int) (a b : Int) : Tree (AV × Hp) := .br (sm sh && sm ya && sm ti && sm l) (.leaf (vi (Lan.prvE a b sh ya ti l), [])) .fail
def c40 (args : List AV) (H : Hp) : Tree (AV × Hp) := match args, H with
  | [(.agg [.sc (.int .i64 a), .sc (.int .i64 b), .sl (.int .i64) sh false] false), (.agg [.sl (.int .i64) ya false, .sl (.int .i64) ti false] false), (.sl (.int .i64) l false)], [] => c40t sh ya ti l a b
  | _, _ => .fail
theorem c40_ok {T : Tab} (hT : TabOK T) (h : ∀ (sh ya ti l : List Int) (a b : Int) (r : AV × Hp), (c40t sh ya ti l a b).val = some r → evBody T 40 [aP a b sh, aX ya ti, lI l] [] = some r) : ∀ args H v H', (c40 args H).val = some (v, H') → CallOK T 40 args H v H' := by
  intro args H v H' hv
  unfold c40 at hv
  split at hv
  · exact evBody_sound hT (h _ _ _ _ _ _ _ hv)
  · cases hv
def _root_.Lan.lmet (a b : Int) (s m : Nat) (i : Nat) : Nat := (List.range i).foldl (fun m n => bif m.testBit n then m ||| Lan.ofN (Lan.stP a b n s) else m) m
def l91_4t (sh ya ti : List Int) (a b s m q : Int) : Tree (Out × List AV × Hp) := .br (Lan.side a b && decide (q = a * b) && decide (0 ≤ s) && decide (s < 65536) && decide (0 ≤ m) && decide (m < 65536)) (.leaf (.ext 0, [vS s, ps 0, ps 1, vS (Lan.lmet a b s.toNat m.toNat (a * b).toNat), vi q, vi q], [some (rP a b sh 24), some (rZ ya ti 26)])) .fail
def l91_4 (base : Nat) (kv : List AV) (H : Hp) : Tree (Out × List AV × Hp) := match Nat.beq base 0, kv, H with
  | true, [(.sc (.int .u16 s)), (.ps 0 0 0 0), (.ps 1 0 0 0), (.sc (.int .u16 m)), (.sc (.int .i64 q)), (.sc (.int .i64 0))], [some ⟨[.sc (.int .i64 a), .sc (.int .i64 b), .sl (.int .i64) sh false], true, 24, false, false, none⟩, some ⟨[.sl (.int .i64) ya false, .sl (.int .i64) ti false], true, 26, false, false, none⟩] => l91_4t sh ya ti a b s m q
  | _, _, _ => .fail
theorem l91_4_ok {T : Tab} (hT : TabOK T) (hlo : loopOf T.fn 91 4 = some (lpc T 91 4)) (h : ∀ (sh ya ti : List Int) (a b s m q : Int) (r : Out × List AV × Hp), (l91_4t sh ya ti a b s m q).val = some r → ∃ mm, lpRun T 91 4 0 (lpc T 91 4) mm [vS s, ps 0, ps 1, vS m, vi q, vi 0] [some (rP a b sh 24), some (rZ ya ti 26)] = some r) : ∀ base kv H o kv' H', (l91_4 base kv H).val = some (o, kv', H') → LoopOK T 91 4 base kv H o kv' H' := by
  intro base kv H o kv' H' hv
  unfold l91_4 at hv
  split at hv
  · rename_i hb
    obtain rfl := Nat.eq_of_beq_eq_true hb
    exact loop_ok hT hlo (h _ _ _ _ _ _ _ _ _ hv)
  · cases hv
noncomputable def Z12 : Tab := (Y6).addLoop 91 4 l91_4
theorem nf91 (sh ya ti : List Int) (a b s : Int) : evBody Z12 91 [aP a b sh, aX ya ti, vS s] [] = (bif sm sh && Lan.in16 sh then bif sm ya && Lan.in16 ya then bif Lan.side a b && decide (IntKind.i64.wrap (a * b) = a * b) && decide (0 ≤ IntKind.u16.wrap (↑(BitVec.ofInt 16 s ||| BitVec.ofInt 16 (↑(Lan.ofN sh) : Int)).toNat : Int)) && decide (IntKind.u16.wrap (↑(BitVec.ofInt 16 s ||| BitVec.ofInt 16 (↑(Lan.ofN sh) : Int)).toNat : Int) < 65536) && decide (0 ≤ IntKind.u16.wrap (↑(BitVec.ofInt 16 (↑(Lan.ofN ya) : Int) &&& ~~~BitVec.ofInt 16 (IntKind.u16.wrap (↑(BitVec.ofInt 16 s ||| BitVec.ofInt 16 (↑(Lan.ofN sh) : Int)).toNat : Int))).toNat : Int)) && decide (IntKind.u16.wrap (↑(BitVec.ofInt 16 (↑(Lan.ofN ya) : Int) &&& ~~~BitVec.ofInt 16 (IntKind.u16.wrap (↑(BitVec.ofInt 16 s ||| BitVec.ofInt 16 (↑(Lan.ofN sh) : Int)).toNat : Int))).toNat : Int) < 65536) then bif sm ti && Lan.in16 ti then some (.sc (.bool (IntKind.u16.wrap (↑(BitVec.ofInt 16 (↑(Lan.lmet a b (IntKind.u16.wrap (↑(BitVec.ofInt 16 s ||| BitVec.ofInt 16 (↑(Lan.ofN sh) : Int)).toNat : Int)).toNat (IntKind.u16.wrap (↑(BitVec.ofInt 16 (↑(Lan.ofN ya) : Int) &&& ~~~BitVec.ofInt 16 (IntKind.u16.wrap (↑(BitVec.ofInt 16 s ||| BitVec.ofInt 16 (↑(Lan.ofN sh) : Int)).toNat : Int))).toNat : Int)).toNat (a * b).toNat) : Int) &&& BitVec.ofInt 16 (↑(Lan.ofN ti) : Int)).toNat : Int) != 0)), []) else none else none else none else none) := by kernel_rfl
def _root_.Lan.leadB (a b : Int) (sh ya ti : List Int) (s : Nat) : Bool := Lan.lmet a b (s ||| Lan.ofN sh) (Lan.ofN ya &&& (65535 ^^^ (s ||| Lan.ofN sh))) (a * b).toNat &&& Lan.ofN ti != 0
def _root_.Lan.ledG (a b : Int) (sh ya ti : List Int) : Bool := Lan.side a b && sm sh && sm ya && sm ti && Lan.in16 sh && Lan.in16 ya && Lan.in16 ti
def c91t (sh ya ti : List Int) (a b s : Int) : Tree (AV × Hp) := .br (Lan.ledG a b sh ya ti && decide (0 ≤ s) && decide (s < 65536)) (.leaf (vb (Lan.leadB a b sh ya ti s.toNat), [])) .fail
def c91 (args : List AV) (H : Hp) : Tree (AV × Hp) := match args, H with
  | [(.agg [.sc (.int .i64 a), .sc (.int .i64 b), .sl (.int .i64) sh false] false), (.agg [.sl (.int .i64) ya false, .sl (.int .i64) ti false] false), (.sc (.int .u16 s))], [] => c91t sh ya ti a b s
  | _, _ => .fail
theorem c91_ok {T : Tab} (hT : TabOK T) (h : ∀ (sh ya ti : List Int) (a b s : Int) (r : AV × Hp), (c91t sh ya ti a b s).val = some r → evBody T 91 [aP a b sh, aX ya ti, vS s] [] = some r) : ∀ args H v H', (c91 args H).val = some (v, H') → CallOK T 91 args H v H' := by
  intro args H v H' hv
  unfold c91 at hv
  split at hv
  · exact evBody_sound hT (h _ _ _ _ _ _ _ hv)
  · cases hv
noncomputable def Z13 : Tab := (Y6).addCall 91 c91
theorem nf39 (sh ya ti l : List Int) (a b : Int) : evBody Z13 39 [aP a b sh, aX ya ti, lI l] [] = (bif sm sh && sm ya && sm ti then bif Lan.chk a b sh ya ti != 0 then some (vi (Lan.chk a b sh ya ti), []) else bif sm l && Lan.side a b then bif Lan.ascE a b l != 0 then some (vi (Lan.ascE a b l), []) else bif decide ((↑l.length : Int) ≥ (↑ya.length : Int)) then some (vi 14, []) else bif sm l && Lan.in16 l then bif Lan.ledG a b sh ya ti && decide (0 ≤ (↑(Lan.ofN l) : Int)) && decide ((↑(Lan.ofN l) : Int) < 65536) then bif Lan.leadB a b sh ya ti (↑(Lan.ofN l) : Int).toNat then some (vi 14, []) else some (vi 0, []) else none else none else none else none) := by kernel_rfl
def _root_.Lan.prvP (a b : Int) (sh ya ti l : List Int) : Int := bif Lan.chk a b sh ya ti != 0 then Lan.chk a b sh ya ti else bif Lan.ascE a b l != 0 then Lan.ascE a b l else bif decide (ya.length ≤ l.length) || Lan.leadB a b sh ya ti (Lan.ofN l) then 14 else 0
def c39t (sh ya ti l : List Int) (a b : Int) : Tree (AV × Hp) := .br (sm sh && sm ya && sm ti && sm l) (.leaf (vi (Lan.prvP a b sh ya ti l), [])) .fail
def c39 (args : List AV) (H : Hp) : Tree (AV × Hp) := match args, H with
  | [(.agg [.sc (.int .i64 a), .sc (.int .i64 b), .sl (.int .i64) sh false] false), (.agg [.sl (.int .i64) ya false, .sl (.int .i64) ti false] false), (.sl (.int .i64) l false)], [] => c39t sh ya ti l a b
  | _, _ => .fail
theorem c39_ok {T : Tab} (hT : TabOK T) (h : ∀ (sh ya ti l : List Int) (a b : Int) (r : AV × Hp), (c39t sh ya ti l a b).val = some r → evBody T 39 [aP a b sh, aX ya ti, lI l] [] = some r) : ∀ args H v H', (c39 args H).val = some (v, H') → CallOK T 39 args H v H' := by
  intro args H v H' hv
  unfold c39 at hv
  split at hv
  · exact evBody_sound hT (h _ _ _ _ _ _ _ hv)
  · cases hv
noncomputable def ZE : Tab := { Z13 with il := false, nest := true }
abbrev nSl : AV := .sc (.slice none 0 0)
theorem nl37_13a (again : Ag) (sh ya ti : List Int) (a b n m q i : Int) : lpStep ZE 37 13 0 (lpc ZE 37 13) again [ps 0, ps 1, nSl, nSl, vi n, vi m, vi q, vi i] [some (rP a b sh 24), some (rZ ya ti 26)] = (bif decide (m < IntKind.i64.wrap (a * b)) then bif decide (0 ≤ n) then bif decide (0 ≤ m) then bif Lan.ledG a b sh ya ti && decide (0 ≤ IntKind.u16.wrap (↑(BitVec.ofInt 16 (IntKind.u16.wrap (1 * 2 ^ Min.min n.toNat 16)) ||| BitVec.ofInt 16 (IntKind.u16.wrap (1 * 2 ^ Min.min m.toNat 16))).toNat : Int)) && decide (IntKind.u16.wrap (↑(BitVec.ofInt 16 (IntKind.u16.wrap (1 * 2 ^ Min.min n.toNat 16)) ||| BitVec.ofInt 16 (IntKind.u16.wrap (1 * 2 ^ Min.min m.toNat 16))).toNat : Int) < 65536) then bif !Lan.leadB a b sh ya ti (IntKind.u16.wrap (↑(BitVec.ofInt 16 (IntKind.u16.wrap (1 * 2 ^ Min.min n.toNat 16)) ||| BitVec.ofInt 16 (IntKind.u16.wrap (1 * 2 ^ Min.min m.toNat 16))).toNat : Int)).toNat then again [.ps 0 0 0 0, .ps 1 0 0 0, .sc (.slice none 0 0), .os 2 0 0 2 true true true, vi n, vi (IntKind.i64.wrap (m + 1)), vi q, vi i] [some ⟨[vi a, vi b, .sl (.int .i64) sh false], true, 24, false, false, none⟩, some ⟨[.sl (.int .i64) ya false, .sl (.int .i64) ti false], true, 26, false, false, none⟩, some ⟨[.run (.int .i64) [n, m]], false, 3, false, false, none⟩] else again [.ps 0 0 0 0, .ps 1 0 0 0, .sc (.slice none 0 0), .sc (.slice none 0 0), vi n, vi (IntKind.i64.wrap (m + 1)), vi q, vi i] [some ⟨[vi a, vi b, .sl (.int .i64) sh false], true, 24, false, false, none⟩, some ⟨[.sl (.int .i64) ya false, .sl (.int .i64) ti false], true, 26, false, false, none⟩] else none else none else none else some (.ext 2, [.ps 0 0 0 0, .ps 1 0 0 0, .sc (.slice none 0 0), .sc (.slice none 0 0), vi n, vi m, vi q, vi i], [some ⟨[vi a, vi b, .sl (.int .i64) sh false], true, 24, false, false, none⟩, some ⟨[.sl (.int .i64) ya false, .sl (.int .i64) ti false], true, 26, false, false, none⟩])) := by kernel_rfl
theorem nl37_13b (again : Ag) (sh ya ti : List Int) (a b x n m q i : Int) : lpStep ZE 37 13 0 (lpc ZE 37 13) again [ps 0, ps 1, osT 2 1, nSl, vi n, vi m, vi q, vi i] [some (rP a b sh 24), some (rZ ya ti 26), some (rowI [x] 3)] = (bif decide (m < IntKind.i64.wrap (a * b)) then bif decide (0 ≤ n) then bif decide (0 ≤ m) then bif Lan.ledG a b sh ya ti && decide (0 ≤ IntKind.u16.wrap (↑(BitVec.ofInt 16 (IntKind.u16.wrap (1 * 2 ^ Min.min n.toNat 16)) ||| BitVec.ofInt 16 (IntKind.u16.wrap (1 * 2 ^ Min.min m.toNat 16))).toNat : Int)) && decide (IntKind.u16.wrap (↑(BitVec.ofInt 16 (IntKind.u16.wrap (1 * 2 ^ Min.min n.toNat 16)) ||| BitVec.ofInt 16 (IntKind.u16.wrap (1 * 2 ^ Min.min m.toNat 16))).toNat : Int) < 65536) then bif !Lan.leadB a b sh ya ti (IntKind.u16.wrap (↑(BitVec.ofInt 16 (IntKind.u16.wrap (1 * 2 ^ Min.min n.toNat 16)) ||| BitVec.ofInt 16 (IntKind.u16.wrap (1 * 2 ^ Min.min m.toNat 16))).toNat : Int)).toNat then again [.ps 0 0 0 0, .ps 1 0 0 0, .os 2 0 0 1 true true true, .os 3 0 0 2 true true true, vi n, vi (IntKind.i64.wrap (m + 1)), vi q, vi i] [some ⟨[vi a, vi b, .sl (.int .i64) sh false], true, 24, false, false, none⟩, some ⟨[.sl (.int .i64) ya false, .sl (.int .i64) ti false], true, 26, false, false, none⟩, some ⟨[.run (.int .i64) [x]], false, 3, false, false, none⟩, some ⟨[.run (.int .i64) [n, m]], false, 3, false, false, none⟩] else again [.ps 0 0 0 0, .ps 1 0 0 0, .os 2 0 0 1 true true true, .sc (.slice none 0 0), vi n, vi (IntKind.i64.wrap (m + 1)), vi q, vi i] [some ⟨[vi a, vi b, .sl (.int .i64) sh false], true, 24, false, false, none⟩, some ⟨[.sl (.int .i64) ya false, .sl (.int .i64) ti false], true, 26, false, false, none⟩, some ⟨[.run (.int .i64) [x]], false, 3, false, false, none⟩] else none else none else none else some (.ext 2, [.ps 0 0 0 0, .ps 1 0 0 0, .os 2 0 0 1 true true true, .sc (.slice none 0 0), vi n, vi m, vi q, vi i], [some ⟨[vi a, vi b, .sl (.int .i64) sh false], true, 24, false, false, none⟩, some ⟨[.sl (.int .i64) ya false, .sl (.int .i64) ti false], true, 26, false, false, none⟩, some ⟨[.run (.int .i64) [x]], false, 3, false, false, none⟩])) := by kernel_rfl
theorem nl37_13c (again : Ag) (sh ya ti : List Int) (a b x y n m q i : Int) : lpStep ZE 37 13 0 (lpc ZE 37 13) again [ps 0, ps 1, nSl, osT 2 2, vi n, vi m, vi q, vi i] [some (rP a b sh 24), some (rZ ya ti 26), some (rowI [x, y] 3)] = (bif decide (m < IntKind.i64.wrap (a * b)) then some (.ext 2, [.ps 0 0 0 0, .ps 1 0 0 0, .sc (.slice none 0 0), .os 2 0 0 2 true true true, vi n, vi m, vi q, vi i], [some ⟨[vi a, vi b, .sl (.int .i64) sh false], true, 24, false, false, none⟩, some ⟨[.sl (.int .i64) ya false, .sl (.int .i64) ti false], true, 26, false, false, none⟩, some ⟨[.run (.int .i64) [x, y]], false, 3, false, false, none⟩]) else some (.ext 2, [.ps 0 0 0 0, .ps 1 0 0 0, .sc (.slice none 0 0), .os 2 0 0 2 true true true, vi n, vi m, vi q, vi i], [some ⟨[vi a, vi b, .sl (.int .i64) sh false], true, 24, false, false, none⟩, some ⟨[.sl (.int .i64) ya false, .sl (.int .i64) ti false], true, 26, false, false, none⟩, some ⟨[.run (.int .i64) [x, y]], false, 3, false, false, none⟩])) := by kernel_rfl
theorem nl37_13d (again : Ag) (sh ya ti : List Int) (a b z x y n m q i : Int) : lpStep ZE 37 13 0 (lpc ZE 37 13) again [ps 0, ps 1, osT 2 1, osT 3 2, vi n, vi m, vi q, vi i] [some (rP a b sh 24), some (rZ ya ti 26), some (rowI [z] 3), some (rowI [x, y] 3)] = (bif decide (m < IntKind.i64.wrap (a * b)) then some (.ext 2, [.ps 0 0 0 0, .ps 1 0 0 0, .os 2 0 0 1 true true true, .os 3 0 0 2 true true true, vi n, vi m, vi q, vi i], [some ⟨[vi a, vi b, .sl (.int .i64) sh false], true, 24, false, false, none⟩, some ⟨[.sl (.int .i64) ya false, .sl (.int .i64) ti false], true, 26, false, false, none⟩, some ⟨[.run (.int .i64) [z]], false, 3, false, false, none⟩, some ⟨[.run (.int .i64) [x, y]], false, 3, false, false, none⟩]) else some (.ext 2, [.ps 0 0 0 0, .ps 1 0 0 0, .os 2 0 0 1 true true true, .os 3 0 0 2 true true true, vi n, vi m, vi q, vi i], [some ⟨[vi a, vi b, .sl (.int .i64) sh false], true, 24, false, false, none⟩, some ⟨[.sl (.int .i64) ya false, .sl (.int .i64) ti false], true, 26, false, false, none⟩, some ⟨[.run (.int .i64) [z]], false, 3, false, false, none⟩, some ⟨[.run (.int .i64) [x, y]], false, 3, false, false, none⟩])) := by kernel_rfl
def _root_.Lan.sk2 (a b : Int) (sh ya ti : List Int) (n : Nat) : Option Nat := (List.range' (n + 1) ((a * b).toNat - (n + 1))).find? fun m => !Lan.leadB a b sh ya ti (2 ^ n ||| 2 ^ m)
def _root_.Lan.sk1 (a b : Int) (sh ya ti : List Int) (n : Nat) : Bool := !Lan.leadB a b sh ya ti (2 ^ n)
abbrev _root_.Lan.g0 (o : Option Nat) : Nat := o.getD 0
def l37_13at (sh ya ti : List Int) (a b n m q i : Int) : Tree (Out × List AV × Hp) := .br (Lan.ledG a b sh ya ti && decide (0 ≤ n) && decide (n < a * b) && decide (m = n + 1)) (.br (Lan.sk2 a b sh ya ti n.toNat).isSome (.leaf (.ext 2, [ps 0, ps 1, nSl, osT 2 2, vi n, vi ((Lan.sk2 a b sh ya ti n.toNat).getD 0 + 1 : Nat), vi q, vi i], [some (rP a b sh 24), some (rZ ya ti 26), some (rowI [n, (((Lan.sk2 a b sh ya ti n.toNat).getD 0 : Nat) : Int)] 3)])) (.leaf (.ext 2, [ps 0, ps 1, nSl, nSl, vi n, vi (a * b), vi q, vi i], [some (rP a b sh 24), some (rZ ya ti 26)]))) .fail
def l37_13a (base : Nat) (kv : List AV) (H : Hp) : Tree (Out × List AV × Hp) := match Nat.beq base 0, kv, H with
  | true, [(.ps 0 0 0 0), (.ps 1 0 0 0), (.sc (.slice none 0 0)), (.sc (.slice none 0 0)), (.sc (.int .i64 n)), (.sc (.int .i64 m)), (.sc (.int .i64 q)), (.sc (.int .i64 i))], [some ⟨[.sc (.int .i64 a), .sc (.int .i64 b), .sl (.int .i64) sh false], true, 24, false, false, none⟩, some ⟨[.sl (.int .i64) ya false, .sl (.int .i64) ti false], true, 26, false, false, none⟩] => l37_13at sh ya ti a b n m q i
  | _, _, _ => .fail
theorem l37_13a_ok {T : Tab} (hT : TabOK T) (hlo : loopOf T.fn 37 13 = some (lpc T 37 13)) (h : ∀ (sh ya ti : List Int) (a b n m q i : Int) (r : Out × List AV × Hp), (l37_13at sh ya ti a b n m q i).val = some r → ∃ mm, lpRun T 37 13 0 (lpc T 37 13) mm [ps 0, ps 1, nSl, nSl, vi n, vi m, vi q, vi i] [some (rP a b sh 24), some (rZ ya ti 26)] = some r) : ∀ base kv H o kv' H', (l37_13a base kv H).val = some (o, kv', H') → LoopOK T 37 13 base kv H o kv' H' := by
  intro base kv H o kv' H' hv
  unfold l37_13a at hv
  split at hv
  · rename_i hb
    obtain rfl := Nat.eq_of_beq_eq_true hb
    exact loop_ok hT hlo (h _ _ _ _ _ _ _ _ _ _ hv)
  · cases hv
def l37_13bt (sh ya ti : List Int) (a b x n m q i : Int) : Tree (Out × List AV × Hp) := .br (Lan.ledG a b sh ya ti && decide (0 ≤ n) && decide (n < a * b) && decide (m = n + 1)) (.br (Lan.sk2 a b sh ya ti n.toNat).isSome (.leaf (.ext 2, [ps 0, ps 1, osT 2 1, osT 3 2, vi n, vi ((Lan.sk2 a b sh ya ti n.toNat).getD 0 + 1 : Nat), vi q, vi i], [some (rP a b sh 24), some (rZ ya ti 26), some (rowI [x] 3), some (rowI [n, (((Lan.sk2 a b sh ya ti n.toNat).getD 0 : Nat) : Int)] 3)])) (.leaf (.ext 2, [ps 0, ps 1, osT 2 1, nSl, vi n, vi (a * b), vi q, vi i], [some (rP a b sh 24), some (rZ ya ti 26), some (rowI [x] 3)]))) .fail
def l37_13b (base : Nat) (kv : List AV) (H : Hp) : Tree (Out × List AV × Hp) := match Nat.beq base 0, kv, H with
  | true, [(.ps 0 0 0 0), (.ps 1 0 0 0), (.os 2 0 0 1 true true true), (.sc (.slice none 0 0)), (.sc (.int .i64 n)), (.sc (.int .i64 m)), (.sc (.int .i64 q)), (.sc (.int .i64 i))], [some ⟨[.sc (.int .i64 a), .sc (.int .i64 b), .sl (.int .i64) sh false], true, 24, false, false, none⟩, some ⟨[.sl (.int .i64) ya false, .sl (.int .i64) ti false], true, 26, false, false, none⟩, some ⟨[.run (.int .i64) [x]], false, 3, false, false, none⟩] => l37_13bt sh ya ti a b x n m q i
  | _, _, _ => .fail
theorem l37_13b_ok {T : Tab} (hT : TabOK T) (hlo : loopOf T.fn 37 13 = some (lpc T 37 13)) (h : ∀ (sh ya ti : List Int) (a b x n m q i : Int) (r : Out × List AV × Hp), (l37_13bt sh ya ti a b x n m q i).val = some r → ∃ mm, lpRun T 37 13 0 (lpc T 37 13) mm [ps 0, ps 1, osT 2 1, nSl, vi n, vi m, vi q, vi i] [some (rP a b sh 24), some (rZ ya ti 26), some (rowI [x] 3)] = some r) : ∀ base kv H o kv' H', (l37_13b base kv H).val = some (o, kv', H') → LoopOK T 37 13 base kv H o kv' H' := by
  intro base kv H o kv' H' hv
  unfold l37_13b at hv
  split at hv
  · rename_i hb
    obtain rfl := Nat.eq_of_beq_eq_true hb
    exact loop_ok hT hlo (h _ _ _ _ _ _ _ _ _ _ _ hv)
  · cases hv
def l37_13ct (sh ya ti : List Int) (a b x y n m q i : Int) : Tree (Out × List AV × Hp) := (.leaf (.ext 2, [ps 0, ps 1, nSl, osT 2 2, vi n, vi m, vi q, vi i], [some (rP a b sh 24), some (rZ ya ti 26), some (rowI [x, y] 3)]))
def l37_13c (base : Nat) (kv : List AV) (H : Hp) : Tree (Out × List AV × Hp) := match Nat.beq base 0, kv, H with
  | true, [(.ps 0 0 0 0), (.ps 1 0 0 0), (.sc (.slice none 0 0)), (.os 2 0 0 2 true true true), (.sc (.int .i64 n)), (.sc (.int .i64 m)), (.sc (.int .i64 q)), (.sc (.int .i64 i))], [some ⟨[.sc (.int .i64 a), .sc (.int .i64 b), .sl (.int .i64) sh false], true, 24, false, false, none⟩, some ⟨[.sl (.int .i64) ya false, .sl (.int .i64) ti false], true, 26, false, false, none⟩, some ⟨[.run (.int .i64) [x, y]], false, 3, false, false, none⟩] => l37_13ct sh ya ti a b x y n m q i
  | _, _, _ => .fail
theorem l37_13c_ok {T : Tab} (hT : TabOK T) (hlo : loopOf T.fn 37 13 = some (lpc T 37 13)) (h : ∀ (sh ya ti : List Int) (a b x y n m q i : Int) (r : Out × List AV × Hp), (l37_13ct sh ya ti a b x y n m q i).val = some r → ∃ mm, lpRun T 37 13 0 (lpc T 37 13) mm [ps 0, ps 1, nSl, osT 2 2, vi n, vi m, vi q, vi i] [some (rP a b sh 24), some (rZ ya ti 26), some (rowI [x, y] 3)] = some r) : ∀ base kv H o kv' H', (l37_13c base kv H).val = some (o, kv', H') → LoopOK T 37 13 base kv H o kv' H' := by
  intro base kv H o kv' H' hv
  unfold l37_13c at hv
  split at hv
  · rename_i hb
    obtain rfl := Nat.eq_of_beq_eq_true hb
    exact loop_ok hT hlo (h _ _ _ _ _ _ _ _ _ _ _ _ hv)
  · cases hv
def l37_13dt (sh ya ti : List Int) (a b z x y n m q i : Int) : Tree (Out × List AV × Hp) := (.leaf (.ext 2, [ps 0, ps 1, osT 2 1, osT 3 2, vi n, vi m, vi q, vi i], [some (rP a b sh 24), some (rZ ya ti 26), some (rowI [z] 3), some (rowI [x, y] 3)]))
def l37_13d (base : Nat) (kv : List AV) (H : Hp) : Tree (Out × List AV × Hp) := match Nat.beq base 0, kv, H with
  | true, [(.ps 0 0 0 0), (.ps 1 0 0 0), (.os 2 0 0 1 true true true), (.os 3 0 0 2 true true true), (.sc (.int .i64 n)), (.sc (.int .i64 m)), (.sc (.int .i64 q)), (.sc (.int .i64 i))], [some ⟨[.sc (.int .i64 a), .sc (.int .i64 b), .sl (.int .i64) sh false], true, 24, false, false, none⟩, some ⟨[.sl (.int .i64) ya false, .sl (.int .i64) ti false], true, 26, false, false, none⟩, some ⟨[.run (.int .i64) [z]], false, 3, false, false, none⟩, some ⟨[.run (.int .i64) [x, y]], false, 3, false, false, none⟩] => l37_13dt sh ya ti a b z x y n m q i
  | _, _, _ => .fail
theorem l37_13d_ok {T : Tab} (hT : TabOK T) (hlo : loopOf T.fn 37 13 = some (lpc T 37 13)) (h : ∀ (sh ya ti : List Int) (a b z x y n m q i : Int) (r : Out × List AV × Hp), (l37_13dt sh ya ti a b z x y n m q i).val = some r → ∃ mm, lpRun T 37 13 0 (lpc T 37 13) mm [ps 0, ps 1, osT 2 1, osT 3 2, vi n, vi m, vi q, vi i] [some (rP a b sh 24), some (rZ ya ti 26), some (rowI [z] 3), some (rowI [x, y] 3)] = some r) : ∀ base kv H o kv' H', (l37_13d base kv H).val = some (o, kv', H') → LoopOK T 37 13 base kv H o kv' H' := by
  intro base kv H o kv' H' hv
  unfold l37_13d at hv
  split at hv
  · rename_i hb
    obtain rfl := Nat.eq_of_beq_eq_true hb
    exact loop_ok hT hlo (h _ _ _ _ _ _ _ _ _ _ _ _ _ hv)
  · cases hv
def l37_13 (base : Nat) (kv : List AV) (H : Hp) : Tree (Out × List AV × Hp) := match kv with
  | _ :: _ :: .sc _ :: .sc _ :: _ => l37_13a base kv H
  | _ :: _ :: .os _ _ _ _ _ _ _ :: .sc _ :: _ => l37_13b base kv H
  | _ :: _ :: .sc _ :: .os _ _ _ _ _ _ _ :: _ => l37_13c base kv H
  | _ => l37_13d base kv H
noncomputable def ZF : Tab := ZE.addLoop 37 13 l37_13
theorem nl37_8a (again : Ag) (sh ya ti : List Int) (a b q i : Int) : lpStep ZF 37 8 0 (lpc ZF 37 8) again [ps 0, ps 1, nSl, nSl, vi q, vi i] [some (rP a b sh 24), some (rZ ya ti 26)] = (bif decide (i < q) then bif decide (0 ≤ i) then bif Lan.ledG a b sh ya ti && decide (0 ≤ IntKind.u16.wrap (1 * 2 ^ Min.min i.toNat 16)) && decide (IntKind.u16.wrap (1 * 2 ^ Min.min i.toNat 16) < 65536) then bif !Lan.leadB a b sh ya ti (IntKind.u16.wrap (1 * 2 ^ Min.min i.toNat 16)).toNat then bif Lan.ledG a b sh ya ti && decide (0 ≤ i) && decide (i < a * b) && decide (IntKind.i64.wrap (i + 1) = i + 1) then bif (Lan.sk2 a b sh ya ti i.toNat).isSome then again [.ps 0 0 0 0, .ps 1 0 0 0, .os 2 0 0 1 true true true, .os 3 0 0 2 true true true, vi q, vi (IntKind.i64.wrap (i + 1))] [some ⟨[vi a, vi b, .sl (.int .i64) sh false], true, 24, false, false, none⟩, some ⟨[.sl (.int .i64) ya false, .sl (.int .i64) ti false], true, 26, false, false, none⟩, some ⟨[.run (.int .i64) [i]], false, 3, false, false, none⟩, some ⟨[.run (.int .i64) [i, (↑((Lan.sk2 a b sh ya ti i.toNat).getD 0) : Int)]], false, 3, false, false, none⟩] else again [.ps 0 0 0 0, .ps 1 0 0 0, .os 2 0 0 1 true true true, .sc (.slice none 0 0), vi q, vi (IntKind.i64.wrap (i + 1))] [some ⟨[vi a, vi b, .sl (.int .i64) sh false], true, 24, false, false, none⟩, some ⟨[.sl (.int .i64) ya false, .sl (.int .i64) ti false], true, 26, false, false, none⟩, some ⟨[.run (.int .i64) [i]], false, 3, false, false, none⟩] else none else bif Lan.ledG a b sh ya ti && decide (0 ≤ i) && decide (i < a * b) && decide (IntKind.i64.wrap (i + 1) = i + 1) then bif (Lan.sk2 a b sh ya ti i.toNat).isSome then again [.ps 0 0 0 0, .ps 1 0 0 0, .sc (.slice none 0 0), .os 2 0 0 2 true true true, vi q, vi (IntKind.i64.wrap (i + 1))] [some ⟨[vi a, vi b, .sl (.int .i64) sh false], true, 24, false, false, none⟩, some ⟨[.sl (.int .i64) ya false, .sl (.int .i64) ti false], true, 26, false, false, none⟩, some ⟨[.run (.int .i64) [i, (↑((Lan.sk2 a b sh ya ti i.toNat).getD 0) : Int)]], false, 3, false, false, none⟩] else again [.ps 0 0 0 0, .ps 1 0 0 0, .sc (.slice none 0 0), .sc (.slice none 0 0), vi q, vi (IntKind.i64.wrap (i + 1))] [some ⟨[vi a, vi b, .sl (.int .i64) sh false], true, 24, false, false, none⟩, some ⟨[.sl (.int .i64) ya false, .sl (.int .i64) ti false], true, 26, false, false, none⟩] else none else none else none else some (.ext 0, [.ps 0 0 0 0, .ps 1 0 0 0, .sc (.slice none 0 0), .sc (.slice none 0 0), vi q, vi i], [some ⟨[vi a, vi b, .sl (.int .i64) sh false], true, 24, false, false, none⟩, some ⟨[.sl (.int .i64) ya false, .sl (.int .i64) ti false], true, 26, false, false, none⟩])) := by kernel_rfl
theorem nl37_8b (again : Ag) (sh ya ti : List Int) (a b x q i : Int) : lpStep ZF 37 8 0 (lpc ZF 37 8) again [ps 0, ps 1, osT 2 1, nSl, vi q, vi i] [some (rP a b sh 24), some (rZ ya ti 26), some (rowI [x] 3)] = (bif decide (i < q) then bif Lan.ledG a b sh ya ti && decide (0 ≤ i) && decide (i < a * b) && decide (IntKind.i64.wrap (i + 1) = i + 1) then bif (Lan.sk2 a b sh ya ti i.toNat).isSome then again [.ps 0 0 0 0, .ps 1 0 0 0, .os 2 0 0 1 true true true, .os 3 0 0 2 true true true, vi q, vi (IntKind.i64.wrap (i + 1))] [some ⟨[vi a, vi b, .sl (.int .i64) sh false], true, 24, false, false, none⟩, some ⟨[.sl (.int .i64) ya false, .sl (.int .i64) ti false], true, 26, false, false, none⟩, some ⟨[.run (.int .i64) [x]], false, 3, false, false, none⟩, some ⟨[.run (.int .i64) [i, (↑((Lan.sk2 a b sh ya ti i.toNat).getD 0) : Int)]], false, 3, false, false, none⟩] else again [.ps 0 0 0 0, .ps 1 0 0 0, .os 2 0 0 1 true true true, .sc (.slice none 0 0), vi q, vi (IntKind.i64.wrap (i + 1))] [some ⟨[vi a, vi b, .sl (.int .i64) sh false], true, 24, false, false, none⟩, some ⟨[.sl (.int .i64) ya false, .sl (.int .i64) ti false], true, 26, false, false, none⟩, some ⟨[.run (.int .i64) [x]], false, 3, false, false, none⟩] else none else some (.ext 0, [.ps 0 0 0 0, .ps 1 0 0 0, .os 2 0 0 1 true true true, .sc (.slice none 0 0), vi q, vi i], [some ⟨[vi a, vi b, .sl (.int .i64) sh false], true, 24, false, false, none⟩, some ⟨[.sl (.int .i64) ya false, .sl (.int .i64) ti false], true, 26, false, false, none⟩, some ⟨[.run (.int .i64) [x]], false, 3, false, false, none⟩])) := by kernel_rfl
theorem nl37_8c (again : Ag) (sh ya ti : List Int) (a b x y q i : Int) : lpStep ZF 37 8 0 (lpc ZF 37 8) again [ps 0, ps 1, nSl, osT 2 2, vi q, vi i] [some (rP a b sh 24), some (rZ ya ti 26), some (rowI [x, y] 3)] = (bif decide (i < q) then bif decide (0 ≤ i) then bif Lan.ledG a b sh ya ti && decide (0 ≤ IntKind.u16.wrap (1 * 2 ^ Min.min i.toNat 16)) && decide (IntKind.u16.wrap (1 * 2 ^ Min.min i.toNat 16) < 65536) then bif !Lan.leadB a b sh ya ti (IntKind.u16.wrap (1 * 2 ^ Min.min i.toNat 16)).toNat then again [.ps 0 0 0 0, .ps 1 0 0 0, .os 2 0 0 1 true true true, .os 3 0 0 2 true true true, vi q, vi (IntKind.i64.wrap (i + 1))] [some ⟨[vi a, vi b, .sl (.int .i64) sh false], true, 24, false, false, none⟩, some ⟨[.sl (.int .i64) ya false, .sl (.int .i64) ti false], true, 26, false, false, none⟩, some ⟨[.run (.int .i64) [i]], false, 3, false, false, none⟩, some ⟨[.run (.int .i64) [x, y]], false, 3, false, false, none⟩] else again [.ps 0 0 0 0, .ps 1 0 0 0, .sc (.slice none 0 0), .os 2 0 0 2 true true true, vi q, vi (IntKind.i64.wrap (i + 1))] [some ⟨[vi a, vi b, .sl (.int .i64) sh false], true, 24, false, false, none⟩, some ⟨[.sl (.int .i64) ya false, .sl (.int .i64) ti false], true, 26, false, false, none⟩, some ⟨[.run (.int .i64) [x, y]], false, 3, false, false, none⟩] else none else none else some (.ext 0, [.ps 0 0 0 0, .ps 1 0 0 0, .sc (.slice none 0 0), .os 2 0 0 2 true true true, vi q, vi i], [some ⟨[vi a, vi b, .sl (.int .i64) sh false], true, 24, false, false, none⟩, some ⟨[.sl (.int .i64) ya false, .sl (.int .i64) ti false], true, 26, false, false, none⟩, some ⟨[.run (.int .i64) [x, y]], false, 3, false, false, none⟩])) := by kernel_rfl
theorem nl37_8d (again : Ag) (sh ya ti : List Int) (a b z x y q i : Int) : lpStep ZF 37 8 0 (lpc ZF 37 8) again [ps 0, ps 1, osT 2 1, osT 3 2, vi q, vi i] [some (rP a b sh 24), some (rZ ya ti 26), some (rowI [z] 3), some (rowI [x, y] 3)] = (bif decide (i < q) then again [.ps 0 0 0 0, .ps 1 0 0 0, .os 2 0 0 1 true true true, .os 3 0 0 2 true true true, vi q, vi (IntKind.i64.wrap (i + 1))] [some ⟨[vi a, vi b, .sl (.int .i64) sh false], true, 24, false, false, none⟩, some ⟨[.sl (.int .i64) ya false, .sl (.int .i64) ti false], true, 26, false, false, none⟩, some ⟨[.run (.int .i64) [z]], false, 3, false, false, none⟩, some ⟨[.run (.int .i64) [x, y]], false, 3, false, false, none⟩] else some (.ext 0, [.ps 0 0 0 0, .ps 1 0 0 0, .os 2 0 0 1 true true true, .os 3 0 0 2 true true true, vi q, vi i], [some ⟨[vi a, vi b, .sl (.int .i64) sh false], true, 24, false, false, none⟩, some ⟨[.sl (.int .i64) ya false, .sl (.int .i64) ti false], true, 26, false, false, none⟩, some ⟨[.run (.int .i64) [z]], false, 3, false, false, none⟩, some ⟨[.run (.int .i64) [x, y]], false, 3, false, false, none⟩])) := by kernel_rfl
def _root_.Lan.o1 (a b : Int) (sh ya ti : List Int) (i : Nat) : Option Nat := (List.range i).find? fun n => Lan.sk1 a b sh ya ti n
def _root_.Lan.o2 (a b : Int) (sh ya ti : List Int) (i : Nat) : Option (Nat × Nat) := (List.range i).findSome? fun n => (Lan.sk2 a b sh ya ti n).map fun m => (n, m)
def _root_.Lan.n1 (a b : Int) (sh ya ti : List Int) : Nat := (Lan.o1 a b sh ya ti (a * b).toNat).getD 0
def _root_.Lan.n2 (a b : Int) (sh ya ti : List Int) : Nat × Nat := (Lan.o2 a b sh ya ti (a * b).toNat).getD (0, 0)
def l37_8t (sh ya ti : List Int) (a b q : Int) : Tree (Out × List AV × Hp) := .br (Lan.ledG a b sh ya ti && decide (q = a * b)) (.br (Lan.o1 a b sh ya ti (a * b).toNat).isSome (.br (Lan.o2 a b sh ya ti (a * b).toNat).isSome (.leaf (.ext 0, [ps 0, ps 1, osT 2 1, osT 3 2, vi q, vi q], [some (rP a b sh 24), some (rZ ya ti 26), some (rowI [(Lan.n1 a b sh ya ti : Nat)] 3), some (rowI [((Lan.n2 a b sh ya ti).1 : Nat), ((Lan.n2 a b sh ya ti).2 : Nat)] 3)])) (.leaf (.ext 0, [ps 0, ps 1, osT 2 1, nSl, vi q, vi q], [some (rP a b sh 24), some (rZ ya ti 26), some (rowI [(Lan.n1 a b sh ya ti : Nat)] 3)]))) (.br (Lan.o2 a b sh ya ti (a * b).toNat).isSome (.leaf (.ext 0, [ps 0, ps 1, nSl, osT 2 2, vi q, vi q], [some (rP a b sh 24), some (rZ ya ti 26), some (rowI [((Lan.n2 a b sh ya ti).1 : Nat), ((Lan.n2 a b sh ya ti).2 : Nat)] 3)])) (.leaf (.ext 0, [ps 0, ps 1, nSl, nSl, vi q, vi q], [some (rP a b sh 24), some (rZ ya ti 26)])))) .fail
def l37_8 (base : Nat) (kv : List AV) (H : Hp) : Tree (Out × List AV × Hp) := match Nat.beq base 0, kv, H with
  | true, [(.ps 0 0 0 0), (.ps 1 0 0 0), (.sc (.slice none 0 0)), (.sc (.slice none 0 0)), (.sc (.int .i64 q)), (.sc (.int .i64 0))], [some ⟨[.sc (.int .i64 a), .sc (.int .i64 b), .sl (.int .i64) sh false], true, 24, false, false, none⟩, some ⟨[.sl (.int .i64) ya false, .sl (.int .i64) ti false], true, 26, false, false, none⟩] => l37_8t sh ya ti a b q
  | _, _, _ => .fail
theorem l37_8_ok {T : Tab} (hT : TabOK T) (hlo : loopOf T.fn 37 8 = some (lpc T 37 8)) (h : ∀ (sh ya ti : List Int) (a b q : Int) (r : Out × List AV × Hp), (l37_8t sh ya ti a b q).val = some r → ∃ mm, lpRun T 37 8 0 (lpc T 37 8) mm [ps 0, ps 1, nSl, nSl, vi q, vi 0] [some (rP a b sh 24), some (rZ ya ti 26)] = some r) : ∀ base kv H o kv' H', (l37_8 base kv H).val = some (o, kv', H') → LoopOK T 37 8 base kv H o kv' H' := by
  intro base kv H o kv' H' hv
  unfold l37_8 at hv
  split at hv
  · rename_i hb
    obtain rfl := Nat.eq_of_beq_eq_true hb
    exact loop_ok hT hlo (h _ _ _ _ _ _ _ hv)
  · cases hv
noncomputable def ZG : Tab := ZE.addLoop 37 8 l37_8
theorem nf37 (sh ya ti : List Int) (a b : Int) : evBody ZG 37 [aP a b sh, aX ya ti] [] = (bif sm sh && sm ya && sm ti then bif Lan.chk a b sh ya ti != 0 then some (.tuple [.sc (.slice none 0 0), vi (Lan.chk a b sh ya ti)], []) else bif Lan.ledG a b sh ya ti && decide (0 ≤ 0) && decide (0 < 65536) then bif !Lan.leadB a b sh ya ti 0 then some (.tuple [.sc (.slice none 0 0), vi 0], []) else bif Lan.ledG a b sh ya ti && decide (IntKind.i64.wrap (a * b) = a * b) then bif (Lan.o1 a b sh ya ti (a * b).toNat).isSome then bif (Lan.o2 a b sh ya ti (a * b).toNat).isSome then bif decide ((↑ya.length : Int) > 1) then some (.tuple [.os 0 0 0 1 true true true, vi 0], [some ⟨[.run (.int .i64) [(↑(Lan.n1 a b sh ya ti) : Int)]], false, 3, false, false, none⟩]) else bif decide ((↑ya.length : Int) > 2) then some (.tuple [.os 0 0 0 2 true true true, vi 0], [some ⟨[.run (.int .i64) [(↑(Lan.n2 a b sh ya ti).fst : Int), (↑(Lan.n2 a b sh ya ti).snd : Int)]], false, 3, false, false, none⟩]) else some (.tuple [.sc (.slice none 0 0), vi 13], []) else bif decide ((↑ya.length : Int) > 1) then some (.tuple [.os 0 0 0 1 true true true, vi 0], [some ⟨[.run (.int .i64) [(↑(Lan.n1 a b sh ya ti) : Int)]], false, 3, false, false, none⟩]) else some (.tuple [.sc (.slice none 0 0), vi 13], []) else bif (Lan.o2 a b sh ya ti (a * b).toNat).isSome then bif decide ((↑ya.length : Int) > 2) then some (.tuple [.os 0 0 0 2 true true true, vi 0], [some ⟨[.run (.int .i64) [(↑(Lan.n2 a b sh ya ti).fst : Int), (↑(Lan.n2 a b sh ya ti).snd : Int)]], false, 3, false, false, none⟩]) else some (.tuple [.sc (.slice none 0 0), vi 13], []) else some (.tuple [.sc (.slice none 0 0), vi 13], []) else none else none else none) := by kernel_rfl
def c37t (sh ya ti : List Int) (a b : Int) : Tree (AV × Hp) := .br (sm sh && sm ya && sm ti) (.br (Lan.chk a b sh ya ti != 0) (.leaf (.tuple [nSl, vi (Lan.chk a b sh ya ti)], [])) (.br (!Lan.leadB a b sh ya ti 0) (.leaf (.tuple [nSl, vi 0], [])) (.br ((Lan.o1 a b sh ya ti (a * b).toNat).isSome && decide (1 < ya.length)) (.leaf (.tuple [osT 0 1, vi 0], [some (rowI [(Lan.n1 a b sh ya ti : Nat)] 3)])) (.br ((Lan.o2 a b sh ya ti (a * b).toNat).isSome && decide (2 < ya.length)) (.leaf (.tuple [osT 0 2, vi 0], [some (rowI [((Lan.n2 a b sh ya ti).1 : Nat), ((Lan.n2 a b sh ya ti).2 : Nat)] 3)])) (.leaf (.tuple [nSl, vi 13], [])))))) .fail
def c37 (args : List AV) (H : Hp) : Tree (AV × Hp) := match args, H with
  | [(.agg [.sc (.int .i64 a), .sc (.int .i64 b), .sl (.int .i64) sh false] false), (.agg [.sl (.int .i64) ya false, .sl (.int .i64) ti false] false)], [] => c37t sh ya ti a b
  | _, _ => .fail
theorem c37_ok {T : Tab} (hT : TabOK T) (h : ∀ (sh ya ti : List Int) (a b : Int) (r : AV × Hp), (c37t sh ya ti a b).val = some r → evBody T 37 [aP a b sh, aX ya ti] [] = some r) : ∀ args H v H', (c37 args H).val = some (v, H') → CallOK T 37 args H v H' := by
  intro args H v H' hv
  unfold c37 at hv
  split at hv
  · exact evBody_sound hT (h _ _ _ _ _ _ hv)
  · cases hv
end Go.Ev.Lane
namespace Go.Ev
open Go
theorem seek_of {T : Tab} {fid lid base : Nat} {c : Code} {α : Type} (g : Nat → Option α) (S : Nat → List AV) (H : Hp) (R : Nat → α → Out × List AV × Hp) (E : Out × List AV × Hp) :
    ∀ (k i : Nat), (∀ j, i ≤ j → j < i + k → ∀ again : List AV → Hp → Option (Out × List AV × Hp), lpStep T fid lid base c again (S j) H = match g j with | some r => some (R j r) | none => again (S (j + 1)) H) →
    (∀ again : List AV → Hp → Option (Out × List AV × Hp), lpStep T fid lid base c again (S (i + k)) H = some E) →
    ∃ m, lpRun T fid lid base c m (S i) H = some (match (List.range' i k).findSome? fun j => (g j).map fun r => (j, r) with | some x => R x.1 x.2 | none => E)
  | 0, i, _, he => ⟨1, he _⟩
  | k + 1, i, h, he => by
    have h0 := h i (Nat.le_refl _) (by omega)
    rw [List.range'_succ, List.findSome?_cons]
    cases hg : g i with
    | some r =>
      refine ⟨1, ?_⟩
      show lpStep T fid lid base c _ (S i) H = _
      rw [h0, hg]
      rfl
    | none =>
      obtain ⟨m, hm⟩ := seek_of g S H R E k (i + 1) (fun j h1 h2 => h j (by omega) (by omega)) (fun again => by rw [show i + 1 + k = i + (k + 1) by omega]; exact he again)
      refine ⟨m + 1, ?_⟩
      show lpStep T fid lid base c _ (S i) H = _
      rw [h0, hg]
      exact hm
end Go.Ev
namespace Go.Ev.Lane
open Go Go.Ev
set_option maxRecDepth 1000000
set_option linter.unusedVariables false
set_option linter.unusedSimpArgs false
theorem brd_range {a b : Int} {sh ya ti l : List Int} (d : Nat) : Lan.brd a b sh ya ti (d + 1) l = (List.range' (Lan.frm l).toNat ((a * b).toNat - (Lan.frm l).toNat)).findSome? fun (n : Nat) => (Lan.brd a b sh ya ti d (l ++ [(n : Int)])).map fun r => (n, r.2) := rfl
theorem frm_on {a b : Int} {l : List Int} (hab : 1 ≤ a * b) (h : (l.all fun x => Lan.onP a b x) = true) : 0 ≤ Lan.frm l ∧ Lan.frm l ≤ a * b := by
  unfold Lan.frm
  cases hz : decide (l.length = 0) with
  | true => rw [cond_true]; omega
  | false =>
    have hne : l ≠ [] := by rintro rfl; cases hz
    have := List.all_eq_true.1 h _ (List.mem_of_getElem? (Lan.last_get hne))
    unfold Lan.onP at this
    simp only [Bool.and_eq_true, decide_eq_true_eq] at this
    rw [cond_false]; omega
theorem opt_none {α : Type} {o : Option α} (h : o.isSome = false) : o = none := by cases o with
  | none => rfl
  | some x => cases h
theorem opt_some {α : Type} {o : Option α} (h : o.isSome = true) : ∃ x, o = some x := Option.isSome_iff_exists.1 h
theorem l92_7_run (d : Nat) (hT : TabOK (V0b d)) : ∀ base kv H o kv' H', (l92_7 d base kv H).val = some (o, kv', H') → LoopOK (V0b d) 92 7 base kv H o kv' H' := l92_7_ok d hT (by kernel_rfl) (by
  intro sh ya ti l a b many n r hv
  obtain ⟨hl, hv2⟩ := guard_val hv
  simp only [Bool.and_eq_true, decide_eq_true_eq] at hl
  obtain ⟨⟨⟨⟨⟨hG, hlt⟩, hmd⟩, hm3⟩, hall⟩, rfl⟩ := hl
  obtain ⟨hs, hsh, ht, hya, hy⟩ := barG_ok hG
  obtain ⟨e1, e2, e3⟩ := Lan.wrong_wrap hs
  obtain ⟨f0, f1⟩ := frm_on e2 hall
  obtain ⟨fr, hfr⟩ := Int.eq_ofNat_of_zero_le f0
  obtain ⟨N, hN⟩ := Int.eq_ofNat_of_zero_le (show 0 ≤ a * b by omega)
  obtain ⟨k, hk⟩ : ∃ k : Nat, many = (l.length : Int) + 1 + k := ⟨(many - l.length - 1).toNat, by omega⟩
  have hb : (many - (l.length : Int)).toNat = k + 1 := by omega
  rw [hb] at hv2
  rw [hfr]
  have hfi : (Lan.frm l).toNat = fr := by omega
  obtain ⟨mm, hm⟩ := seek_of (T := V0b d) (fid := 92) (lid := 7) (base := 0) (c := lpc (V0b d) 92 7) (fun j => (Lan.brd a b sh ya ti k (l ++ [(j : Int)])).map (·.2))
    (fun j => [lI l, vi many, ps 0, ps 1, osW 2 0, vb false, vi (j : Nat)]) [some (rP a b sh 29), some (rZ ya ti 30), some (rowI [] 0)]
    (fun j x => (.ret, [lI l, vi many, ps 0, ps 1, lI x, vb true, vi (j : Nat)], [some (rP a b sh 29), some (rZ ya ti 30)]))
    (.ext 0, [lI l, vi many, ps 0, ps 1, osW 2 0, vb false, vi (a * b)], [some (rP a b sh 29), some (rZ ya ti 30), some (rowI [] 0)]) (N - fr) fr
    (fun j h1 h2 again => by
      have hj : Lan.onP a b (j : Int) = true := by unfold Lan.onP; rw [decide_eq_true (by omega), decide_eq_true (by omega)]; rfl
      have hall2 : ((l ++ [(j : Int)]).all fun x => Lan.onP a b x) = true := by rw [List.all_append, hall, List.all_cons, hj]; rfl
      have c1 : (bif decide (0 < l.length) then true else ([] : List Int).isEmpty) = true := by cases decide (0 < l.length) <;> rfl
      refine (nl92 ..).trans ?_
      rw [e1, decide_eq_true (show (j : Int) < a * b by omega), room_ok (by omega) (by omega), room_ok (by omega) (by omega), wrap_succ (by omega)]
      simp only [cond_true, c1, List.nil_append, List.length_append, List.length_singleton, hG, hall2, Bool.true_and, Bool.and_true, decide_eq_true (show ((l.length + 1 : Nat) : Int) ≤ many by omega), decide_eq_true (show many ≤ ((l.length + 1 : Nat) : Int) + (d : Int) by omega), decide_eq_true hm3]
      rw [show (many - ((l.length + 1 : Nat) : Int)).toNat = k by omega]
      by_cases hz : k = 0
      · subst hz
        rw [decide_eq_true (show ((l.length + 1 : Nat) : Int) = many by omega), cond_true]
        unfold Lan.brd
        cases Lan.barB a b sh ya ti (l ++ [(j : Int)]) <;> rfl
      · rw [decide_eq_false (show ¬ ((l.length + 1 : Nat) : Int) = many by omega), cond_false]
        cases Lan.brd a b sh ya ti k (l ++ [(j : Int)]) <;> rfl)
    (fun again => by
      refine (nl92 ..).trans ?_
      rw [e1, decide_eq_false (show ¬ ((fr + (N - fr) : Nat) : Int) < a * b by omega), show ((fr + (N - fr) : Nat) : Int) = a * b by omega]
      rfl)
  refine ⟨mm, hm.trans ?_⟩
  have e : Lan.brd a b sh ya ti (k + 1) l = (List.range' fr (N - fr)).findSome? fun (j : Nat) => ((Lan.brd a b sh ya ti k (l ++ [(j : Int)])).map (·.2)).map fun r => (j, r) := by
    rw [brd_range, hfi, show (a * b).toNat - fr = N - fr by omega]
    congr 1
    funext j
    rw [Option.map_map]
    rfl
  rw [e] at hv2
  rcases br_val hv2 with ⟨h, hv3⟩ | ⟨h, hv3⟩
  · obtain ⟨x, hx⟩ := opt_some h
    rw [leaf_val hv3, hx]; rfl
  · rw [leaf_val hv3, opt_none h])
theorem c92_run (d : Nat) (hT : TabOK (V1b d)) : ∀ args H v H', (c92 (d + 1) args H).val = some (v, H') → CallOK (V1b d) 92 args H v H' := c92_ok (d + 1) hT (by
  intro sh ya ti l a b many r hv
  obtain ⟨hl, hv2⟩ := guard_val hv
  have hl0 := hl
  simp only [Bool.and_eq_true, decide_eq_true_eq] at hl
  obtain ⟨⟨⟨⟨hG, hlt⟩, hmd⟩, hm3⟩, hall⟩ := hl
  have hll : l.length ≤ 3 := by omega
  have hsm : sm l = true := decide_eq_true (by omega)
  obtain ⟨hs, hsh, ht, hya, hy⟩ := barG_ok hG
  obtain ⟨e1, e2, e3⟩ := Lan.wrong_wrap hs
  refine (nf92 ..).trans ?_
  rcases br_val hv2 with ⟨h, hv3⟩ | ⟨h, hv3⟩
  · have h := of_decide_eq_true h
    rw [leaf_val hv3, h, beq_self_eq_true, hG, hsm]; rfl
  · have h := of_decide_eq_false h
    rw [show ((l.length : Int) == many) = false from beq_eq_false_iff_ne.2 h, cond_false]
    have hc : (Lan.barG a b sh ya ti && decide ((l.length : Int) < many) && decide (many ≤ (l.length : Int) + (d : Int) + 1) && decide (many ≤ 3) && (l.all fun x => Lan.onP a b x)) = true := by
      rw [hG, hall, decide_eq_true (show (l.length : Int) < many by omega), decide_eq_true (show many ≤ (l.length : Int) + (d : Int) + 1 by omega), decide_eq_true hm3]; rfl
    have fin : ∀ z : Int, z = Lan.frm l → (bif (Lan.barG a b sh ya ti && decide ((l.length : Int) < many) && decide (many ≤ (l.length : Int) + (d : Int) + 1) && decide (many ≤ 3) && (l.all fun x => Lan.onP a b x)) && decide (z = Lan.frm l) then bif (Lan.brd a b sh ya ti (many - (l.length : Int)).toNat l).isSome then some (AV.tuple [lI (Lan.brL (Lan.brd a b sh ya ti (many - (l.length : Int)).toNat l)), vb true], ([] : Hp)) else some (.tuple [osW 0 0, vb false], [some (rowI [] 0)]) else none) = some r := by
      rintro z rfl
      rw [hc, decide_eq_true rfl]
      rcases br_val hv3 with ⟨h, hv4⟩ | ⟨h, hv4⟩ <;> (rw [leaf_val hv4, h]; rfl)
    by_cases hz : l = []
    · subst hz
      exact fin 0 rfl
    · have hp := List.length_pos_iff.2 hz
      have hq : IntKind.i64.wrap ((l.length : Int) - 1) = ((l.length - 1 : Nat) : Int) := by rw [wrapi (by omega) (by omega)]; omega
      have hla := List.all_eq_true.1 hall _ (List.mem_of_getElem? (Lan.last_get hz))
      unfold Lan.onP at hla
      simp only [Bool.and_eq_true, decide_eq_true_eq] at hla
      rw [hq, decide_eq_true (show (l.length : Int) > 0 by omega)]
      simp only [cond_true, dec_ge, dec_lt (show l.length - 1 < l.length by omega), toNat_cast, Lan.last_get hz, oM]
      refine fin _ ?_
      rw [wrapi (by omega) (by omega)]
      unfold Lan.frm
      rw [decide_eq_false (by omega)]
      rfl)
theorem c92_zero : ∀ args H v H', (c92 0 args H).val = some (v, H') → CallOK Z8 92 args H v H' := c92_ok 0 Z8_ok (by
  intro sh ya ti l a b many r hv
  obtain ⟨hl, hv2⟩ := guard_val hv
  simp only [Bool.and_eq_true, decide_eq_true_eq] at hl
  obtain ⟨⟨⟨⟨hG, hlt⟩, hmd⟩, hm3⟩, hall⟩ := hl
  have hsm : sm l = true := decide_eq_true (by omega)
  refine (nf92a ..).trans ?_
  have h : (l.length : Int) = many := by simp only [Int.natCast_zero, Int.add_zero] at hmd; omega
  rcases br_val hv2 with ⟨_, hv3⟩ | ⟨h2, hv3⟩
  · rw [leaf_val hv3, h, beq_self_eq_true, hG, hsm]; rfl
  · exact absurd h (of_decide_eq_false h2))
theorem V0b_ok : ∀ d, TabOK (V0b d)
  | 0 => Z8_ok.addCall fun a H v H' hv => by refine CallOK.tab ?_ ?_ (c92_zero a H v H' hv) <;> rfl
  | d + 1 => by
    have h0 := V0b_ok d
    have h1 : TabOK (V1b d) := h0.addLoop fun b k H o k' H' hv => by refine LoopOK.tab ?_ ?_ ?_ ?_ (l92_7_run d h0 b k H o k' H' hv) <;> rfl
    exact Z8_ok.addCall fun a H v H' hv => by refine CallOK.tab ?_ ?_ (c92_run d h1 a H v H' hv) <;> rfl
theorem Z10_ok : TabOK Z10 := V0b_ok 2
theorem l38_5_run : ∀ base kv H o kv' H', (l38_5 base kv H).val = some (o, kv', H') → LoopOK Z10 38 5 base kv H o kv' H' := l38_5_ok Z10_ok (by kernel_rfl) (by
  intro sh ya ti a b r hv
  obtain ⟨hG, hv2⟩ := guard_val hv
  obtain ⟨hs, hsh, ht, hya, hy⟩ := barG_ok hG
  obtain ⟨mm, hm⟩ := seek_of (T := Z10) (fid := 38) (lid := 5) (base := 0) (c := lpc Z10 38 5) (fun j => (Lan.brd a b sh ya ti j []).map (·.2))
    (fun j => [ps 0, ps 1, osW 2 0, vi 0, vi (j : Nat)]) [some (rP a b sh 29), some (rZ ya ti 30), some (rowI [] 0)]
    (fun j x => (.ret, [ps 0, ps 1, lI x, vi 0, vi (j : Nat)], [some (rP a b sh 29), some (rZ ya ti 30)]))
    (.ext 0, [ps 0, ps 1, osW 2 0, vi 0, vi ya.length], [some (rP a b sh 29), some (rZ ya ti 30), some (rowI [] 0)]) ya.length 0
    (fun j h1 h2 again => by
      refine (nl38 ..).trans ?_
      rw [decide_eq_true (show (j : Int) < (ya.length : Int) by omega), wrap_succ (by omega)]
      simp only [cond_true, hG, List.all_nil, Bool.and_true, Bool.true_and, decide_eq_true (show (((0 : Nat) : Int)) ≤ (j : Int) by omega), decide_eq_true (show (j : Int) ≤ 3 by omega)]
      rw [show decide ((0 : Int) ≤ (j : Int)) = true from decide_eq_true (by omega), show decide ((j : Int) ≤ 0 + 2) = true from decide_eq_true (by omega)]
      simp only [cond_true, Bool.and_self, Int.sub_zero, toNat_cast]
      by_cases hz : j = 0
      · subst hz
        unfold Lan.brd
        cases Lan.barB a b sh ya ti [] <;> rfl
      · rw [decide_eq_false (show ¬ (0 : Int) = (j : Int) by omega), cond_false]
        cases Lan.brd a b sh ya ti j [] <;> rfl)
    (fun again => by
      refine (nl38 ..).trans ?_
      rw [Nat.zero_add, dec_ll]; rfl)
  refine ⟨mm, hm.trans ?_⟩
  have e : Lan.barA a b sh ya ti = (List.range' 0 ya.length).findSome? fun j => ((Lan.brd a b sh ya ti j []).map (·.2)).map fun r => (j, r) := by
    unfold Lan.barA
    rw [List.range_eq_range']
    congr 1
    funext j
    rw [Option.map_map]
    rfl
  rw [← e]
  rcases br_val hv2 with ⟨h, hv3⟩ | ⟨h, hv3⟩
  · obtain ⟨x, hx⟩ := opt_some h
    rw [leaf_val hv3, hx]; rfl
  · rw [leaf_val hv3, opt_none h])
theorem Z11_ok : TabOK Z11 := by
  have h := Z10_ok
  have h := h.addLoop (g := 38) (lid := 5) (r := l38_5) fun b k H o k' H' hv => by refine LoopOK.tab ?_ ?_ ?_ ?_ (l38_5_run b k H o k' H' hv) <;> rfl
  exact h
theorem chk_barG {a b : Int} {sh ya ti : List Int} (hk : Lan.ChkOK a b sh ya ti) (h1 : sm sh = true) : Lan.barG a b sh ya ti = true := by
  unfold Lan.barG
  simp only [Bool.and_eq_true, decide_eq_true_eq, List.all_eq_true]
  have := hk.len
  have := hk.few
  exact ⟨⟨⟨⟨hk.side, h1⟩, by omega⟩, by omega⟩, hk.yards⟩
theorem c38_run : ∀ args H v H', (c38 args H).val = some (v, H') → CallOK Z11 38 args H v H' := c38_ok Z11_ok (by
  intro sh ya ti a b r hv
  obtain ⟨hl, hv2⟩ := guard_val hv
  simp only [Bool.and_eq_true] at hl
  obtain ⟨⟨h1, h2⟩, h3⟩ := hl
  refine (nf38 ..).trans ?_
  rw [h1, h2, h3]
  rcases br_val hv2 with ⟨hc, hv3⟩ | ⟨hc, hv3⟩
  · have hk := Lan.chk_ok (beq_iff_eq.1 hc)
    rw [show (Lan.chk a b sh ya ti != 0) = false by rw [bne, hc]; rfl, chk_barG hk h1]
    rcases br_val hv3 with ⟨h, hv4⟩ | ⟨h, hv4⟩ <;> (rw [leaf_val hv4, h]; rfl)
  · rw [leaf_val hv3, show (Lan.chk a b sh ya ti != 0) = true by rw [bne, hc]; rfl]; rfl)
theorem c40_run : ∀ args H v H', (c40 args H).val = some (v, H') → CallOK Z8 40 args H v H' := c40_ok Z8_ok (by
  intro sh ya ti l a b r hv
  obtain ⟨hl, hv2⟩ := guard_val hv
  simp only [Bool.and_eq_true] at hl
  obtain ⟨⟨⟨h1, h2⟩, h3⟩, h4⟩ := hl
  refine (nf40 ..).trans ?_
  rw [h1, h2, h3, leaf_val hv2]
  unfold Lan.prvE
  cases hc : Lan.chk a b sh ya ti == 0 with
  | false => rw [show (Lan.chk a b sh ya ti != 0) = true by rw [bne, hc]; rfl]; rfl
  | true =>
    have hk := Lan.chk_ok (beq_iff_eq.1 hc)
    rw [show (Lan.chk a b sh ya ti != 0) = false by rw [bne, hc]; rfl, chk_barG hk h1, h4, hk.side]
    cases ha : Lan.ascE a b l == 0 with
    | false => rw [show (Lan.ascE a b l != 0) = true by rw [bne, ha]; rfl]; rfl
    | true =>
      rw [show (Lan.ascE a b l != 0) = false by rw [bne, ha]; rfl, beq_iff_eq.1 ha]
      cases Lan.barB a b sh ya ti l <;> rfl)
end Go.Ev.Lane
