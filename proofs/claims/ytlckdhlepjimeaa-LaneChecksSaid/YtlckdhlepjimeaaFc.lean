/- Rests exchanged, and families apart: tables and normal forms. -/
import Derived.Test.YtlckdhlepjimeaaFb
import Derived.Test.YtlckdhlepjimeaaSe
import Derived.Test.YtlckdhlepjimeaaSf
set_option linter.unusedVariables false
set_option linter.unusedSimpArgs false
namespace Go.Ev.Lane
open Go Go.Ev
set_option maxRecDepth 1000000
set_option maxHeartbeats 0
set_option linter.unusedVariables false
theorem nl32_11 (again : Ag) (f g : List (List Int)) (l m : List Int) (i k n q i2 q2 k2 q3 j : Int) : lpStep Y6 32 11 0 (lpc Y6 32 11) again [lL f, osW 0 0, vi 0, vi i, lI l, vi k, vi n, lL g, vi q, vi i2, lI m, vi q2, vi k2, lL f, vi q3, vi j] [some (rowL [] 0)] = (bif decide (j < q3) then bif decide (0 ≤ j) then bif decide (j < (↑f.length : Int)) then oM f[j.toNat]? fun x => bif sm x then bif j == i then again [.sl (.ilist .i64) f false, osW 0 0, vi 0, vi i, .sl (.int .i64) l false, vi k, vi n, .sl (.ilist .i64) g false, vi q, vi i2, .sl (.int .i64) m false, vi q2, vi k2, .sl (.ilist .i64) f false, vi q3, vi (IntKind.i64.wrap (j + 1))] [some ⟨[.run (.ilist .i64) []], false, 0, false, false, none⟩] else bif decide (Lan.idxV x n < 0) then again [.sl (.ilist .i64) f false, osW 0 0, vi 0, vi i, .sl (.int .i64) l false, vi k, vi n, .sl (.ilist .i64) g false, vi q, vi i2, .sl (.int .i64) m false, vi q2, vi k2, .sl (.ilist .i64) f false, vi q3, vi (IntKind.i64.wrap (j + 1))] [some ⟨[.run (.ilist .i64) []], false, 0, false, false, none⟩] else bif decide ((↑f.length : Int) = (↑f.length : Int)) then bif room (↑f.length : Int).toNat 24 then bif decide (0 + (↑f.length : Int).toNat ≤ (List.replicate (↑f.length : Int).toNat ([] : List Int)).length) then bif decide (0 ≤ k) then bif decide (k ≤ (↑l.length : Int)) then bif decide (0 ≤ Lan.idxV x n) then bif decide (Lan.idxV x n ≤ (↑(List.length x) : Int)) then bif sm [List.take k.toNat l, List.drop (Lan.idxV x n).toNat x] && sm [List.take k.toNat l, List.drop (Lan.idxV x n).toNat x].flatten && decide (0 < [List.take k.toNat l, List.drop (Lan.idxV x n).toNat x].flatten.length) then bif decide (0 ≤ Lan.idxV x n) then bif decide (Lan.idxV x n ≤ (↑(List.length x) : Int)) then bif decide (0 ≤ k) then bif decide (k ≤ (↑l.length : Int)) then bif sm [List.take (Lan.idxV x n).toNat x, List.drop k.toNat l] && sm [List.take (Lan.idxV x n).toNat x, List.drop k.toNat l].flatten && decide (0 < [List.take (Lan.idxV x n).toNat x, List.drop k.toNat l].flatten.length) then bif decide (0 ≤ i) then bif decide (i < (↑(↑f.length : Int).toNat : Int)) then bif decide (0 + [List.take k.toNat l, List.drop (Lan.idxV x n).toNat x].flatten.length ≤ [List.take k.toNat l, List.drop (Lan.idxV x n).toNat x].flatten.length) then oM (List.take 0 (List.replicate (↑f.length : Int).toNat ([] : List Int)) ++ List.take (Min.min f.length (↑f.length : Int).toNat) f ++ List.drop (0 + Min.min f.length (↑f.length : Int).toNat) (List.replicate (↑f.length : Int).toNat ([] : List Int)))[i.toNat]? fun x_1 => bif decide (0 ≤ j) then bif decide (j < (↑(↑f.length : Int).toNat : Int)) then bif decide (0 + [List.take (Lan.idxV x n).toNat x, List.drop k.toNat l].flatten.length ≤ [List.take (Lan.idxV x n).toNat x, List.drop k.toNat l].flatten.length) then oM ((List.take 0 (List.replicate (↑f.length : Int).toNat ([] : List Int)) ++ List.take (Min.min f.length (↑f.length : Int).toNat) f ++ List.drop (0 + Min.min f.length (↑f.length : Int).toNat) (List.replicate (↑f.length : Int).toNat ([] : List Int))).set i.toNat (List.take [List.take k.toNat l, List.drop (Lan.idxV x n).toNat x].flatten.length [List.take k.toNat l, List.drop (Lan.idxV x n).toNat x].flatten))[j.toNat]? fun x_2 => some (.ret, [.sl (.ilist .i64) f false, .os 0 0 0 (↑f.length : Int).toNat true true true, vi 0, vi i, .sl (.int .i64) l false, vi k, vi n, .sl (.ilist .i64) g false, vi q, vi i2, .sl (.int .i64) m false, vi q2, vi k2, .sl (.ilist .i64) f false, vi q3, vi j], [some ⟨[.run (.ilist .i64) (((List.take 0 (List.replicate (↑f.length : Int).toNat []) ++ List.take (Min.min f.length (↑f.length : Int).toNat) f ++ List.drop (0 + Min.min f.length (↑f.length : Int).toNat) (List.replicate (↑f.length : Int).toNat [])).set i.toNat (List.take [List.take k.toNat l, List.drop (Lan.idxV x n).toNat x].flatten.length [List.take k.toNat l, List.drop (Lan.idxV x n).toNat x].flatten)).set j.toNat (List.take [List.take (Lan.idxV x n).toNat x, List.drop k.toNat l].flatten.length [List.take (Lan.idxV x n).toNat x, List.drop k.toNat l].flatten))], false, 22, false, false, none⟩]) else none else none else none else none else none else none else none else none else none else none else none else none else none else none else none else none else none else none else none else none else none else none else some (.ext 4, [.sl (.ilist .i64) f false, osW 0 0, vi 0, vi i, .sl (.int .i64) l false, vi k, vi n, .sl (.ilist .i64) g false, vi q, vi i2, .sl (.int .i64) m false, vi q2, vi k2, .sl (.ilist .i64) f false, vi q3, vi j], [some ⟨[.run (.ilist .i64) []], false, 0, false, false, none⟩])) := by kernel_rfl
theorem nl33_11 (again : Ag) (f : List (List Int)) (i k j : Int) : lpStep Y6 33 11 0 (lpc Y6 33 11) again [lL f, osW 0 0, vi 0, vi i, vi k, vi j] [some (rowL [] 0)] = (bif decide (j < (↑f.length : Int)) then bif decide (0 ≤ j) then bif decide (j < (↑f.length : Int)) then oM f[j.toNat]? fun x => bif decide (0 ≤ i) then bif decide (i < (↑f.length : Int)) then oM f[i.toNat]? fun x_1 => bif decide (0 ≤ k) then bif decide (k < (↑(List.length x_1) : Int)) then oM x_1[k.toNat]? fun x_2 => bif sm x then bif j == i then again [.sl (.ilist .i64) f false, osW 0 0, vi 0, vi i, vi k, vi (IntKind.i64.wrap (j + 1))] [some ⟨[.run (.ilist .i64) []], false, 0, false, false, none⟩] else bif decide (Lan.idxV x x_2 < 0) then again [.sl (.ilist .i64) f false, osW 0 0, vi 0, vi i, vi k, vi (IntKind.i64.wrap (j + 1))] [some ⟨[.run (.ilist .i64) []], false, 0, false, false, none⟩] else bif bif decide (0 < f.length) then true else ([] : List Int).isEmpty then bif room (0 + f.length) 24 then bif decide (0 ≤ i) then bif decide (i < (↑f.length : Int)) then oM f[i.toNat]? fun x_3 => bif decide (0 ≤ k) then bif decide (k ≤ (↑(List.length x_3) : Int)) then bif bif decide (0 < (List.take k.toNat x_3).length) then true else ([] : List Int).isEmpty then bif room (0 + (List.take k.toNat x_3).length) 8 then bif decide (0 ≤ j) then bif decide (j < (↑f.length : Int)) then oM f[j.toNat]? fun x_4 => bif decide (0 ≤ Lan.idxV x x_2) then bif decide (Lan.idxV x x_2 ≤ (↑(List.length x_4) : Int)) then bif room (0 + (List.take k.toNat x_3).length + (List.drop (Lan.idxV x x_2).toNat x_4).length) 8 then bif decide (0 ≤ i) then bif decide (i < (↑(0 + f.length) : Int)) then oM ([] ++ f)[i.toNat]? fun x_5 => bif decide (0 ≤ j) then bif decide (j < (↑f.length : Int)) then oM f[j.toNat]? fun x_6 => bif decide (0 ≤ Lan.idxV x x_2) then bif decide (Lan.idxV x x_2 ≤ (↑(List.length x_6) : Int)) then bif bif decide (0 < (List.take (Lan.idxV x x_2).toNat x_6).length) then true else ([] : List Int).isEmpty then bif room (0 + (List.take (Lan.idxV x x_2).toNat x_6).length) 8 then bif decide (0 ≤ i) then bif decide (i < (↑f.length : Int)) then oM f[i.toNat]? fun x_7 => bif decide (0 ≤ k) then bif decide (k ≤ (↑(List.length x_7) : Int)) then bif room (0 + (List.take (Lan.idxV x x_2).toNat x_6).length + (List.drop k.toNat x_7).length) 8 then bif decide (0 ≤ j) then bif decide (j < (↑(0 + f.length) : Int)) then oM (([] ++ f).set i.toNat ([] ++ List.take k.toNat x_3 ++ List.drop (Lan.idxV x x_2).toNat x_4))[j.toNat]? fun x_8 => some (.ret, [.sl (.ilist .i64) f false, osW 0 (0 + f.length), vi 0, vi i, vi k, vi j], [some { c := [.run (.ilist .i64) ((([] ++ f).set i.toNat ([] ++ List.take k.toNat x_3 ++ List.drop (Lan.idxV x x_2).toNat x_4)).set j.toNat ([] ++ List.take (Lan.idxV x x_2).toNat x_6 ++ List.drop k.toNat x_7))], vr := false, ty := 22, fz := false, loose := false : Row }]) else none else none else none else none else none else none else none else none else none else none else none else none else none else none else none else none else none else none else none else none else none else none else none else none else none else none else none else none else none else none else none else none else none else none else none else some (.ext 4, [.sl (.ilist .i64) f false, osW 0 0, vi 0, vi i, vi k, vi j], [some ⟨[.run (.ilist .i64) []], false, 0, false, false, none⟩])) := by kernel_rfl
theorem nl35 (again : Ag) (f : List (List Int)) (u q i : Int) : lpStep Y6 35 6 0 (lpc Y6 35 6) again [vi 0, vS u, lL f, vi q, vi i] [] = (bif decide (i < q) then bif decide (0 ≤ i) then bif decide (i < (↑f.length : Int)) then oM f[i.toNat]? fun x => bif sm x && Lan.in16 x then bif IntKind.u16.wrap (↑(BitVec.ofInt 16 u &&& BitVec.ofInt 16 (↑(Lan.ofN x) : Int)).toNat : Int) != 0 then some (.ret, [vi 13, .sc (.int .u16 u), .sl (.ilist .i64) f false, vi q, vi i], []) else bif sm x && Lan.in16 x then again [vi 0, .sc (.int .u16 (IntKind.u16.wrap (↑(BitVec.ofInt 16 u ||| BitVec.ofInt 16 (↑(Lan.ofN x) : Int)).toNat : Int))), .sl (.ilist .i64) f false, vi q, vi (IntKind.i64.wrap (i + 1))] [] else none else none else none else none else some (.ext 0, [vi 0, .sc (.int .u16 u), .sl (.ilist .i64) f false, vi q, vi i], [])) := by kernel_rfl
theorem nl36_6 (again : Ag) (f : List (List Int)) (e i k : Int) : lpStep Y6 36 6 0 (lpc Y6 36 6) again [lL f, vi e, vi i, vi k] [] = (bif decide (k < i) then bif decide (0 ≤ i) then bif decide (i < (↑f.length : Int)) then oM f[i.toNat]? fun x => bif decide (0 ≤ k) then bif decide (k < (↑f.length : Int)) then oM f[k.toNat]? fun x_1 => bif sm x && sm x_1 then bif Lan.meetB x x_1 then again [.sl (.ilist .i64) f false, vi 13, vi i, vi (IntKind.i64.wrap (k + 1))] [] else again [.sl (.ilist .i64) f false, vi e, vi i, vi (IntKind.i64.wrap (k + 1))] [] else none else none else none else none else none else some (.ext 2, [.sl (.ilist .i64) f false, vi e, vi i, vi k], [])) := by kernel_rfl
def _root_.Lan.apX (f : List (List Int)) : Sum (Nat × Nat) Nat := Ev.foldX (fun i (u : Nat) l => bif u &&& Lan.ofN l != 0 then .inl (i, u) else .inr (u ||| Lan.ofN l)) 0 f 0
def _root_.Lan.pcl (f : List (List Int)) (i k : Nat) : Bool := (List.range k).any fun k => Lan.meetB (f.getD i []) (f.getD k [])
def _root_.Lan.first3 (f : List (List Int)) : Nat := (List.range f.length).findIdx fun i => Lan.pcl f i i
def l32_11t (f g h : List (List Int)) (l m : List Int) (i k n q i2 q2 k2 q3 : Int) : Tree (Out × List AV × Hp) := .br (decide (g = f) && decide (h = f) && decide (q3 = (f.length : Int)) && Lan.famS f && decide (0 ≤ i) && decide (i < (f.length : Int)) && decide (0 ≤ k) && decide (k < (l.length : Int)) && decide (l = f.getD i.toNat []) && decide (n = l.getD k.toNat 0)) (.br (Lan.sL (Lan.swJ f i.toNat n)) (.leaf (.ret, [lL f, osT 0 f.length, vi 0, vi i, lI l, vi k, vi n, lL f, vi q, vi i2, lI m, vi q2, vi k2, lL f, vi q3, vi (Lan.swj f i.toNat n)], [some (rowL (Lan.swO f i.toNat k.toNat (Lan.swj f i.toNat n)) 22)])) (.leaf (.ext 4, [lL f, osW 0 0, vi 0, vi i, lI l, vi k, vi n, lL f, vi q, vi i2, lI m, vi q2, vi k2, lL f, vi q3, vi q3], [some (rowL [] 0)]))) .fail
def l32_11 (base : Nat) (kv : List AV) (H : Hp) : Tree (Out × List AV × Hp) := match Nat.beq base 0, kv, H with
  | true, [(.sl (.ilist .i64) f false), (.os 0 0 0 0 true false true), (.sc (.int .i64 0)), (.sc (.int .i64 i)), (.sl (.int .i64) l false), (.sc (.int .i64 k)), (.sc (.int .i64 n)), (.sl (.ilist .i64) g false), (.sc (.int .i64 q)), (.sc (.int .i64 i2)), (.sl (.int .i64) m false), (.sc (.int .i64 q2)), (.sc (.int .i64 k2)), (.sl (.ilist .i64) h false), (.sc (.int .i64 q3)), (.sc (.int .i64 0))], [some ⟨[.run (.ilist .i64) []], false, 0, false, false, none⟩] => l32_11t f g h l m i k n q i2 q2 k2 q3
  | _, _, _ => .fail
theorem l32_11_ok {T : Tab} (hT : TabOK T) (hlo : loopOf T.fn 32 11 = some (lpc T 32 11)) (h : ∀ (f g h : List (List Int)) (l m : List Int) (i k n q i2 q2 k2 q3 : Int) (r : Out × List AV × Hp), (l32_11t f g h l m i k n q i2 q2 k2 q3).val = some r → ∃ mm, lpRun T 32 11 0 (lpc T 32 11) mm [lL f, osW 0 0, vi 0, vi i, lI l, vi k, vi n, lL g, vi q, vi i2, lI m, vi q2, vi k2, lL h, vi q3, vi 0] [some (rowL [] 0)] = some r) : ∀ base kv H o kv' H', (l32_11 base kv H).val = some (o, kv', H') → LoopOK T 32 11 base kv H o kv' H' := by
  intro base kv H o kv' H' hv
  unfold l32_11 at hv
  split at hv
  · rename_i hb
    obtain rfl := Nat.eq_of_beq_eq_true hb
    exact loop_ok hT hlo (h _ _ _ _ _ _ _ _ _ _ _ _ _ _ hv)
  · cases hv
def l33_11t (f : List (List Int)) (i k : Int) : Tree (Out × List AV × Hp) := .br (Lan.famS f && decide (0 ≤ i) && decide (i < (f.length : Int)) && decide (0 ≤ k) && decide (k < ((f.getD i.toNat []).length : Int))) (.br (Lan.sL (Lan.swJ f i.toNat ((f.getD i.toNat []).getD k.toNat 0))) (.leaf (.ret, [lL f, osW 0 f.length, vi 0, vi i, vi k, vi (Lan.swj f i.toNat ((f.getD i.toNat []).getD k.toNat 0))], [some (rowL (Lan.swO f i.toNat k.toNat (Lan.swj f i.toNat ((f.getD i.toNat []).getD k.toNat 0))) 22)])) (.leaf (.ext 4, [lL f, osW 0 0, vi 0, vi i, vi k, vi f.length], [some (rowL [] 0)]))) .fail
def l33_11 (base : Nat) (kv : List AV) (H : Hp) : Tree (Out × List AV × Hp) := match Nat.beq base 0, kv, H with
  | true, [(.sl (.ilist .i64) f false), (.os 0 0 0 0 true false true), (.sc (.int .i64 0)), (.sc (.int .i64 i)), (.sc (.int .i64 k)), (.sc (.int .i64 0))], [some ⟨[.run (.ilist .i64) []], false, 0, false, false, none⟩] => l33_11t f i k
  | _, _, _ => .fail
theorem l33_11_ok {T : Tab} (hT : TabOK T) (hlo : loopOf T.fn 33 11 = some (lpc T 33 11)) (h : ∀ (f : List (List Int)) (i k : Int) (r : Out × List AV × Hp), (l33_11t f i k).val = some r → ∃ mm, lpRun T 33 11 0 (lpc T 33 11) mm [lL f, osW 0 0, vi 0, vi i, vi k, vi 0] [some (rowL [] 0)] = some r) : ∀ base kv H o kv' H', (l33_11 base kv H).val = some (o, kv', H') → LoopOK T 33 11 base kv H o kv' H' := by
  intro base kv H o kv' H' hv
  unfold l33_11 at hv
  split at hv
  · rename_i hb
    obtain rfl := Nat.eq_of_beq_eq_true hb
    exact loop_ok hT hlo (h _ _ _ _ hv)
  · cases hv
def l35_6t (f : List (List Int)) (q : Int) : Tree (Out × List AV × Hp) := .br (decide (q = (f.length : Int)) && Lan.famS f && f.all fun l => Lan.in16 l) (.br (Lan.clashN f f.length) (.leaf (.ret, [vi 13, vS (Lan.sG (0, 0) ((Lan.apX f).map id fun _ => ())).2, lL f, vi q, vi (Lan.sG (0, 0) ((Lan.apX f).map id fun _ => ())).1], [])) (.leaf (.ext 0, [vi 0, vS (f.foldl (fun u l => u ||| Lan.ofN l) 0 : Nat), lL f, vi q, vi q], []))) .fail
def l35_6 (base : Nat) (kv : List AV) (H : Hp) : Tree (Out × List AV × Hp) := match Nat.beq base 0, kv, H with
  | true, [(.sc (.int .i64 0)), (.sc (.int .u16 0)), (.sl (.ilist .i64) f false), (.sc (.int .i64 q)), (.sc (.int .i64 0))], [] => l35_6t f q
  | _, _, _ => .fail
theorem l35_6_ok {T : Tab} (hT : TabOK T) (hlo : loopOf T.fn 35 6 = some (lpc T 35 6)) (h : ∀ (f : List (List Int)) (q : Int) (r : Out × List AV × Hp), (l35_6t f q).val = some r → ∃ mm, lpRun T 35 6 0 (lpc T 35 6) mm [vi 0, vS 0, lL f, vi q, vi 0] [] = some r) : ∀ base kv H o kv' H', (l35_6 base kv H).val = some (o, kv', H') → LoopOK T 35 6 base kv H o kv' H' := by
  intro base kv H o kv' H' hv
  unfold l35_6 at hv
  split at hv
  · rename_i hb
    obtain rfl := Nat.eq_of_beq_eq_true hb
    exact loop_ok hT hlo (h _ _ _ hv)
  · cases hv
def l36_6t (f : List (List Int)) (e i : Int) : Tree (Out × List AV × Hp) := .br (Lan.famS f && decide (0 ≤ i) && decide (i < (f.length : Int))) (.leaf (.ext 2, [lL f, vi (bif Lan.pcl f i.toNat i.toNat then 13 else e), vi i, vi i], [])) .fail
def l36_6 (base : Nat) (kv : List AV) (H : Hp) : Tree (Out × List AV × Hp) := match Nat.beq base 0, kv, H with
  | true, [(.sl (.ilist .i64) f false), (.sc (.int .i64 e)), (.sc (.int .i64 i)), (.sc (.int .i64 0))], [] => l36_6t f e i
  | _, _, _ => .fail
theorem l36_6_ok {T : Tab} (hT : TabOK T) (hlo : loopOf T.fn 36 6 = some (lpc T 36 6)) (h : ∀ (f : List (List Int)) (e i : Int) (r : Out × List AV × Hp), (l36_6t f e i).val = some r → ∃ mm, lpRun T 36 6 0 (lpc T 36 6) mm [lL f, vi e, vi i, vi 0] [] = some r) : ∀ base kv H o kv' H', (l36_6 base kv H).val = some (o, kv', H') → LoopOK T 36 6 base kv H o kv' H' := by
  intro base kv H o kv' H' hv
  unfold l36_6 at hv
  split at hv
  · rename_i hb
    obtain rfl := Nat.eq_of_beq_eq_true hb
    exact loop_ok hT hlo (h _ _ _ _ hv)
  · cases hv
noncomputable def Y7 : Tab := ((((Y6).addLoop 32 11 l32_11).addLoop 33 11 l33_11).addLoop 35 6 l35_6).addLoop 36 6 l36_6
theorem nl32_8 (again : Ag) (f : List (List Int)) (l : List Int) (i q q2 k : Int) : lpStep Y7 32 8 0 (lpc Y7 32 8) again [lL f, osW 0 0, vi 0, vi i, lI l, lL f, vi q, vi i, lI l, vi q2, vi k] [some (rowL [] 0)] = (bif decide (k < q2) then bif decide (0 ≤ k) then bif decide (k < (↑l.length : Int)) then oM l[k.toNat]? fun x => bif decide (f = f) && decide (f = f) && decide ((↑f.length : Int) = (↑f.length : Int)) && Lan.famS f && decide (0 ≤ i) && decide (i < (↑f.length : Int)) && decide (0 ≤ k) && decide (k < (↑l.length : Int)) && decide (l = f.getD i.toNat []) && decide (x = l.getD k.toNat 0) then bif Lan.sL (Lan.swJ f i.toNat x) then some (.ret, [.sl (.ilist .i64) f false, .os 0 0 0 f.length true true true, vi 0, vi i, .sl (.int .i64) l false, .sl (.ilist .i64) f false, vi q, vi i, .sl (.int .i64) l false, vi q2, vi k], [some ⟨[.run (.ilist .i64) (Lan.swO f i.toNat k.toNat (Lan.swj f i.toNat x))], false, 22, false, false, none⟩]) else again [.sl (.ilist .i64) f false, osW 0 0, vi 0, vi i, .sl (.int .i64) l false, .sl (.ilist .i64) f false, vi q, vi i, .sl (.int .i64) l false, vi q2, vi (IntKind.i64.wrap (k + 1))] [some ⟨[.run (.ilist .i64) []], false, 0, false, false, none⟩] else none else none else none else some (.ext 2, [.sl (.ilist .i64) f false, osW 0 0, vi 0, vi i, .sl (.int .i64) l false, .sl (.ilist .i64) f false, vi q, vi i, .sl (.int .i64) l false, vi q2, vi k], [some ⟨[.run (.ilist .i64) []], false, 0, false, false, none⟩])) := by kernel_rfl
theorem nl33_8 (again : Ag) (f : List (List Int)) (i k : Int) : lpStep Y7 33 8 0 (lpc Y7 33 8) again [lL f, osW 0 0, vi 0, vi i, vi k] [some (rowL [] 0)] = (bif decide (0 ≤ i) then bif decide (i < (↑f.length : Int)) then oM f[i.toNat]? fun x => bif decide (k < (↑(List.length x) : Int)) then bif Lan.famS f && decide (0 ≤ i) && decide (i < (↑f.length : Int)) && decide (0 ≤ k) && decide (k < (↑(f.getD i.toNat []).length : Int)) then bif Lan.sL (Lan.swJ f i.toNat ((f.getD i.toNat []).getD k.toNat 0)) then some (.ret, [.sl (.ilist .i64) f false, osW 0 f.length, vi 0, vi i, vi k], [some ⟨[.run (.ilist .i64) (Lan.swO f i.toNat k.toNat (Lan.swj f i.toNat ((f.getD i.toNat []).getD k.toNat 0)))], false, 22, false, false, none⟩]) else again [.sl (.ilist .i64) f false, osW 0 0, vi 0, vi i, vi (IntKind.i64.wrap (k + 1))] [some ⟨[.run (.ilist .i64) []], false, 0, false, false, none⟩] else none else some (.ext 2, [.sl (.ilist .i64) f false, osW 0 0, vi 0, vi i, vi k], [some ⟨[.run (.ilist .i64) []], false, 0, false, false, none⟩]) else none else none) := by kernel_rfl
theorem nl36_3 (again : Ag) (f : List (List Int)) (e i : Int) : lpStep Y7 36 3 0 (lpc Y7 36 3) again [lL f, vi e, vi i] [] = (bif decide (i < (↑f.length : Int)) then bif e == 0 then bif Lan.famS f && decide (0 ≤ i) && decide (i < (↑f.length : Int)) then again [.sl (.ilist .i64) f false, vi (bif Lan.pcl f i.toNat i.toNat then 13 else e), vi (IntKind.i64.wrap (i + 1))] [] else none else some (.ext 0, [.sl (.ilist .i64) f false, vi e, vi i], []) else some (.ext 0, [.sl (.ilist .i64) f false, vi e, vi i], [])) := by kernel_rfl
theorem nf35 (f : List (List Int)) (sh ya ti : List Int) (a b : Int) : evBody Y7 35 [aP a b sh, aX ya ti, lL f] [] = (bif sm sh && sm ya && sm ti && sm f && f.all fun l => sm l then bif Lan.ordE a b sh ya ti f != 0 then some (vi (Lan.ordE a b sh ya ti f), []) else bif decide ((↑f.length : Int) = (↑f.length : Int)) && Lan.famS f && f.all fun l => Lan.in16 l then bif Lan.clashN f f.length then some (vi 13, []) else some (vi 0, []) else none else none) := by kernel_rfl
def l32_8t (f g : List (List Int)) (l m : List Int) (i q i2 q2 : Int) : Tree (Out × List AV × Hp) := .br (decide (g = f) && decide (q = (f.length : Int)) && decide (i2 = i) && decide (m = l) && decide (q2 = (l.length : Int)) && Lan.famS f && decide (0 ≤ i) && decide (i < (f.length : Int)) && decide (l = f.getD i.toNat [])) (.br (Lan.sL (Lan.swK f i.toNat l)) (.leaf (.ret, [lL f, osT 0 f.length, vi 0, vi i, lI l, lL f, vi q, vi i, lI l, vi q2, vi (Lan.swk f i.toNat l).1], [some (rowL (Lan.swO f i.toNat (Lan.swk f i.toNat l).1 (Lan.swk f i.toNat l).2) 22)])) (.leaf (.ext 2, [lL f, osW 0 0, vi 0, vi i, lI l, lL f, vi q, vi i, lI l, vi q2, vi q2], [some (rowL [] 0)]))) .fail
def l32_8 (base : Nat) (kv : List AV) (H : Hp) : Tree (Out × List AV × Hp) := match Nat.beq base 0, kv, H with
  | true, [(.sl (.ilist .i64) f false), (.os 0 0 0 0 true false true), (.sc (.int .i64 0)), (.sc (.int .i64 i)), (.sl (.int .i64) l false), (.sl (.ilist .i64) g false), (.sc (.int .i64 q)), (.sc (.int .i64 i2)), (.sl (.int .i64) m false), (.sc (.int .i64 q2)), (.sc (.int .i64 0))], [some ⟨[.run (.ilist .i64) []], false, 0, false, false, none⟩] => l32_8t f g l m i q i2 q2
  | _, _, _ => .fail
theorem l32_8_ok {T : Tab} (hT : TabOK T) (hlo : loopOf T.fn 32 8 = some (lpc T 32 8)) (h : ∀ (f g : List (List Int)) (l m : List Int) (i q i2 q2 : Int) (r : Out × List AV × Hp), (l32_8t f g l m i q i2 q2).val = some r → ∃ mm, lpRun T 32 8 0 (lpc T 32 8) mm [lL f, osW 0 0, vi 0, vi i, lI l, lL g, vi q, vi i2, lI m, vi q2, vi 0] [some (rowL [] 0)] = some r) : ∀ base kv H o kv' H', (l32_8 base kv H).val = some (o, kv', H') → LoopOK T 32 8 base kv H o kv' H' := by
  intro base kv H o kv' H' hv
  unfold l32_8 at hv
  split at hv
  · rename_i hb
    obtain rfl := Nat.eq_of_beq_eq_true hb
    exact loop_ok hT hlo (h _ _ _ _ _ _ _ _ _ hv)
  · cases hv
def l33_8t (f : List (List Int)) (i : Int) : Tree (Out × List AV × Hp) := .br (Lan.famS f && decide (0 ≤ i) && decide (i < (f.length : Int))) (.br (Lan.sL (Lan.swK f i.toNat (f.getD i.toNat []))) (.leaf (.ret, [lL f, osW 0 f.length, vi 0, vi i, vi (Lan.swk f i.toNat (f.getD i.toNat [])).1], [some (rowL (Lan.swO f i.toNat (Lan.swk f i.toNat (f.getD i.toNat [])).1 (Lan.swk f i.toNat (f.getD i.toNat [])).2) 22)])) (.leaf (.ext 2, [lL f, osW 0 0, vi 0, vi i, vi (f.getD i.toNat []).length], [some (rowL [] 0)]))) .fail
def l33_8 (base : Nat) (kv : List AV) (H : Hp) : Tree (Out × List AV × Hp) := match Nat.beq base 0, kv, H with
  | true, [(.sl (.ilist .i64) f false), (.os 0 0 0 0 true false true), (.sc (.int .i64 0)), (.sc (.int .i64 i)), (.sc (.int .i64 0))], [some ⟨[.run (.ilist .i64) []], false, 0, false, false, none⟩] => l33_8t f i
  | _, _, _ => .fail
theorem l33_8_ok {T : Tab} (hT : TabOK T) (hlo : loopOf T.fn 33 8 = some (lpc T 33 8)) (h : ∀ (f : List (List Int)) (i : Int) (r : Out × List AV × Hp), (l33_8t f i).val = some r → ∃ mm, lpRun T 33 8 0 (lpc T 33 8) mm [lL f, osW 0 0, vi 0, vi i, vi 0] [some (rowL [] 0)] = some r) : ∀ base kv H o kv' H', (l33_8 base kv H).val = some (o, kv', H') → LoopOK T 33 8 base kv H o kv' H' := by
  intro base kv H o kv' H' hv
  unfold l33_8 at hv
  split at hv
  · rename_i hb
    obtain rfl := Nat.eq_of_beq_eq_true hb
    exact loop_ok hT hlo (h _ _ _ hv)
  · cases hv
def l36_3t (f : List (List Int)) (e : Int) : Tree (Out × List AV × Hp) := .br (Lan.famS f) (.br (e == 0) (.leaf (.ext 0, [lL f, vi (bif Lan.clashN f f.length then 13 else 0), vi (bif Lan.clashN f f.length then Lan.first3 f + 1 else f.length : Nat)], [])) (.leaf (.ext 0, [lL f, vi e, vi 0], []))) .fail
def l36_3 (base : Nat) (kv : List AV) (H : Hp) : Tree (Out × List AV × Hp) := match Nat.beq base 0, kv, H with
  | true, [(.sl (.ilist .i64) f false), (.sc (.int .i64 e)), (.sc (.int .i64 0))], [] => l36_3t f e
  | _, _, _ => .fail
theorem l36_3_ok {T : Tab} (hT : TabOK T) (hlo : loopOf T.fn 36 3 = some (lpc T 36 3)) (h : ∀ (f : List (List Int)) (e : Int) (r : Out × List AV × Hp), (l36_3t f e).val = some r → ∃ mm, lpRun T 36 3 0 (lpc T 36 3) mm [lL f, vi e, vi 0] [] = some r) : ∀ base kv H o kv' H', (l36_3 base kv H).val = some (o, kv', H') → LoopOK T 36 3 base kv H o kv' H' := by
  intro base kv H o kv' H' hv
  unfold l36_3 at hv
  split at hv
  · rename_i hb
    obtain rfl := Nat.eq_of_beq_eq_true hb
    exact loop_ok hT hlo (h _ _ _ hv)
  · cases hv
noncomputable def Y8 : Tab := (((Y7).addLoop 32 8 l32_8).addLoop 33 8 l33_8).addLoop 36 3 l36_3
theorem nl32_5 (again : Ag) (f : List (List Int)) (q i : Int) : lpStep Y8 32 5 0 (lpc Y8 32 5) again [lL f, osW 0 0, vi 0, lL f, vi q, vi i] [some (rowL [] 0)] = (bif decide (i < q) then bif decide (0 ≤ i) then bif decide (i < (↑f.length : Int)) then oM f[i.toNat]? fun x => bif decide (f = f) && decide (q = (↑f.length : Int)) && decide (i = i) && decide (x = x) && decide ((↑(List.length x) : Int) = (↑(List.length x) : Int)) && Lan.famS f && decide (0 ≤ i) && decide (i < (↑f.length : Int)) && decide (x = f.getD i.toNat []) then bif Lan.sL (Lan.swK f i.toNat x) then some (.ret, [.sl (.ilist .i64) f false, .os 0 0 0 f.length true true true, vi 0, .sl (.ilist .i64) f false, vi q, vi i], [some ⟨[.run (.ilist .i64) (Lan.swO f i.toNat (Lan.swk f i.toNat x).fst (Lan.swk f i.toNat x).snd)], false, 22, false, false, none⟩]) else again [.sl (.ilist .i64) f false, osW 0 0, vi 0, .sl (.ilist .i64) f false, vi q, vi (IntKind.i64.wrap (i + 1))] [some ⟨[.run (.ilist .i64) []], false, 0, false, false, none⟩] else none else none else none else some (.ext 0, [.sl (.ilist .i64) f false, osW 0 0, vi 0, .sl (.ilist .i64) f false, vi q, vi i], [some ⟨[.run (.ilist .i64) []], false, 0, false, false, none⟩])) := by kernel_rfl
theorem nl33_5 (again : Ag) (f : List (List Int)) (i : Int) : lpStep Y8 33 5 0 (lpc Y8 33 5) again [lL f, osW 0 0, vi 0, vi i] [some (rowL [] 0)] = (bif decide (i < (↑f.length : Int)) then bif Lan.famS f && decide (0 ≤ i) && decide (i < (↑f.length : Int)) then bif Lan.sL (Lan.swK f i.toNat (f.getD i.toNat [])) then some (.ret, [.sl (.ilist .i64) f false, osW 0 f.length, vi 0, vi i], [some ⟨[.run (.ilist .i64) (Lan.swO f i.toNat (Lan.swk f i.toNat (f.getD i.toNat [])).fst (Lan.swk f i.toNat (f.getD i.toNat [])).snd)], false, 22, false, false, none⟩]) else again [.sl (.ilist .i64) f false, osW 0 0, vi 0, vi (IntKind.i64.wrap (i + 1))] [some ⟨[.run (.ilist .i64) []], false, 0, false, false, none⟩] else none else some (.ext 0, [.sl (.ilist .i64) f false, osW 0 0, vi 0, vi i], [some ⟨[.run (.ilist .i64) []], false, 0, false, false, none⟩])) := by kernel_rfl
theorem nf36 (f : List (List Int)) (sh ya ti : List Int) (a b : Int) : evBody Y8 36 [aP a b sh, aX ya ti, lL f] [] = (bif sm sh && sm ya && sm ti && sm f && f.all fun l => sm l then bif Lan.famS f then bif Lan.ordE a b sh ya ti f == 0 then some (vi (bif Lan.clashN f f.length then 13 else 0), []) else some (vi (Lan.ordE a b sh ya ti f), []) else none else none) := by kernel_rfl
def l32_5t (f g : List (List Int)) (q : Int) : Tree (Out × List AV × Hp) := .br (decide (g = f) && decide (q = (f.length : Int)) && Lan.famS f) (.br (Lan.sL (Lan.swI f)) (.leaf (.ret, [lL f, osT 0 f.length, vi 0, lL f, vi q, vi (Lan.swi f).1], [some (rowL (Lan.swO f (Lan.swi f).1 (Lan.swi f).2.1 (Lan.swi f).2.2) 22)])) (.leaf (.ext 0, [lL f, osW 0 0, vi 0, lL f, vi q, vi q], [some (rowL [] 0)]))) .fail
def l32_5 (base : Nat) (kv : List AV) (H : Hp) : Tree (Out × List AV × Hp) := match Nat.beq base 0, kv, H with
  | true, [(.sl (.ilist .i64) f false), (.os 0 0 0 0 true false true), (.sc (.int .i64 0)), (.sl (.ilist .i64) g false), (.sc (.int .i64 q)), (.sc (.int .i64 0))], [some ⟨[.run (.ilist .i64) []], false, 0, false, false, none⟩] => l32_5t f g q
  | _, _, _ => .fail
theorem l32_5_ok {T : Tab} (hT : TabOK T) (hlo : loopOf T.fn 32 5 = some (lpc T 32 5)) (h : ∀ (f g : List (List Int)) (q : Int) (r : Out × List AV × Hp), (l32_5t f g q).val = some r → ∃ mm, lpRun T 32 5 0 (lpc T 32 5) mm [lL f, osW 0 0, vi 0, lL g, vi q, vi 0] [some (rowL [] 0)] = some r) : ∀ base kv H o kv' H', (l32_5 base kv H).val = some (o, kv', H') → LoopOK T 32 5 base kv H o kv' H' := by
  intro base kv H o kv' H' hv
  unfold l32_5 at hv
  split at hv
  · rename_i hb
    obtain rfl := Nat.eq_of_beq_eq_true hb
    exact loop_ok hT hlo (h _ _ _ _ hv)
  · cases hv
def l33_5t (f : List (List Int)) : Tree (Out × List AV × Hp) := .br (Lan.famS f) (.br (Lan.sL (Lan.swI f)) (.leaf (.ret, [lL f, osW 0 f.length, vi 0, vi (Lan.swi f).1], [some (rowL (Lan.swO f (Lan.swi f).1 (Lan.swi f).2.1 (Lan.swi f).2.2) 22)])) (.leaf (.ext 0, [lL f, osW 0 0, vi 0, vi f.length], [some (rowL [] 0)]))) .fail
def l33_5 (base : Nat) (kv : List AV) (H : Hp) : Tree (Out × List AV × Hp) := match Nat.beq base 0, kv, H with
  | true, [(.sl (.ilist .i64) f false), (.os 0 0 0 0 true false true), (.sc (.int .i64 0)), (.sc (.int .i64 0))], [some ⟨[.run (.ilist .i64) []], false, 0, false, false, none⟩] => l33_5t f
  | _, _, _ => .fail
theorem l33_5_ok {T : Tab} (hT : TabOK T) (hlo : loopOf T.fn 33 5 = some (lpc T 33 5)) (h : ∀ (f : List (List Int)) (r : Out × List AV × Hp), (l33_5t f).val = some r → ∃ mm, lpRun T 33 5 0 (lpc T 33 5) mm [lL f, osW 0 0, vi 0, vi 0] [some (rowL [] 0)] = some r) : ∀ base kv H o kv' H', (l33_5 base kv H).val = some (o, kv', H') → LoopOK T 33 5 base kv H o kv' H' := by
  intro base kv H o kv' H' hv
  unfold l33_5 at hv
  split at hv
  · rename_i hb
    obtain rfl := Nat.eq_of_beq_eq_true hb
    exact loop_ok hT hlo (h _ _ hv)
  · cases hv
noncomputable def Y9 : Tab := ((Y8).addLoop 32 5 l32_5).addLoop 33 5 l33_5
theorem nf32 (f : List (List Int)) (sh ya ti : List Int) (a b : Int) : evBody Y9 32 [aP a b sh, aX ya ti, lL f] [] = (bif sm sh && sm ya && sm ti && sm f && f.all fun l => sm l then bif Lan.ordE a b sh ya ti f != 0 then some (.tuple [osW 0 0, vi (Lan.ordE a b sh ya ti f)], [some ⟨[.run (.ilist .i64) []], false, 0, false, false, none⟩]) else bif decide (f = f) && decide ((↑f.length : Int) = (↑f.length : Int)) && Lan.famS f then bif Lan.sL (Lan.swI f) then some (.tuple [.os 0 0 0 f.length true true true, vi 0], [some ⟨[.run (.ilist .i64) (Lan.swO f (Lan.swi f).fst (Lan.swi f).snd.fst (Lan.swi f).snd.snd)], false, 22, false, false, none⟩]) else some (.tuple [osW 0 0, vi 13], [some ⟨[.run (.ilist .i64) []], false, 0, false, false, none⟩]) else none else none) := by kernel_rfl
theorem nf33 (f : List (List Int)) (sh ya ti : List Int) (a b : Int) : evBody Y9 33 [aP a b sh, aX ya ti, lL f] [] = (bif sm sh && sm ya && sm ti && sm f && f.all fun l => sm l then bif Lan.ordE a b sh ya ti f != 0 then some (.tuple [osW 0 0, vi (Lan.ordE a b sh ya ti f)], [some ⟨[.run (.ilist .i64) []], false, 0, false, false, none⟩]) else bif Lan.famS f then bif Lan.sL (Lan.swI f) then some (.tuple [osW 0 f.length, vi 0], [some ⟨[.run (.ilist .i64) (Lan.swO f (Lan.swi f).fst (Lan.swi f).snd.fst (Lan.swi f).snd.snd)], false, 22, false, false, none⟩]) else some (.tuple [osW 0 0, vi 13], [some ⟨[.run (.ilist .i64) []], false, 0, false, false, none⟩]) else none else none) := by kernel_rfl
def c35t (f : List (List Int)) (sh ya ti : List Int) (a b : Int) : Tree (AV × Hp) := .br (sm sh && sm ya && sm ti && Lan.famS f) (.leaf (vi (Lan.apE a b sh ya ti f), [])) .fail
def c35 (args : List AV) (H : Hp) : Tree (AV × Hp) := match args, H with
  | [(.agg [.sc (.int .i64 a), .sc (.int .i64 b), .sl (.int .i64) sh false] false), (.agg [.sl (.int .i64) ya false, .sl (.int .i64) ti false] false), (.sl (.ilist .i64) f false)], [] => c35t f sh ya ti a b
  | _, _ => .fail
theorem c35_ok {T : Tab} (hT : TabOK T) (h : ∀ (f : List (List Int)) (sh ya ti : List Int) (a b : Int) (r : AV × Hp), (c35t f sh ya ti a b).val = some r → evBody T 35 [aP a b sh, aX ya ti, lL f] [] = some r) : ∀ args H v H', (c35 args H).val = some (v, H') → CallOK T 35 args H v H' := by
  intro args H v H' hv
  unfold c35 at hv
  split at hv
  · exact evBody_sound hT (h _ _ _ _ _ _ _ hv)
  · cases hv
def c36t (f : List (List Int)) (sh ya ti : List Int) (a b : Int) : Tree (AV × Hp) := .br (sm sh && sm ya && sm ti && Lan.famS f) (.leaf (vi (Lan.apE a b sh ya ti f), [])) .fail
def c36 (args : List AV) (H : Hp) : Tree (AV × Hp) := match args, H with
  | [(.agg [.sc (.int .i64 a), .sc (.int .i64 b), .sl (.int .i64) sh false] false), (.agg [.sl (.int .i64) ya false, .sl (.int .i64) ti false] false), (.sl (.ilist .i64) f false)], [] => c36t f sh ya ti a b
  | _, _ => .fail
theorem c36_ok {T : Tab} (hT : TabOK T) (h : ∀ (f : List (List Int)) (sh ya ti : List Int) (a b : Int) (r : AV × Hp), (c36t f sh ya ti a b).val = some r → evBody T 36 [aP a b sh, aX ya ti, lL f] [] = some r) : ∀ args H v H', (c36 args H).val = some (v, H') → CallOK T 36 args H v H' := by
  intro args H v H' hv
  unfold c36 at hv
  split at hv
  · exact evBody_sound hT (h _ _ _ _ _ _ _ hv)
  · cases hv
def c32t (f : List (List Int)) (sh ya ti : List Int) (a b : Int) : Tree (AV × Hp) := .br (sm sh && sm ya && sm ti && Lan.famS f) (.br (Lan.swE a b sh ya ti f == 0) (.leaf (.tuple [osT 0 (Lan.swL a b sh ya ti f).length, vi 0], [some (rowL (Lan.swL a b sh ya ti f) 22)])) (.leaf (.tuple [osW 0 0, vi (Lan.swE a b sh ya ti f)], [some (rowL [] 0)]))) .fail
def c32 (args : List AV) (H : Hp) : Tree (AV × Hp) := match args, H with
  | [(.agg [.sc (.int .i64 a), .sc (.int .i64 b), .sl (.int .i64) sh false] false), (.agg [.sl (.int .i64) ya false, .sl (.int .i64) ti false] false), (.sl (.ilist .i64) f false)], [] => c32t f sh ya ti a b
  | _, _ => .fail
theorem c32_ok {T : Tab} (hT : TabOK T) (h : ∀ (f : List (List Int)) (sh ya ti : List Int) (a b : Int) (r : AV × Hp), (c32t f sh ya ti a b).val = some r → evBody T 32 [aP a b sh, aX ya ti, lL f] [] = some r) : ∀ args H v H', (c32 args H).val = some (v, H') → CallOK T 32 args H v H' := by
  intro args H v H' hv
  unfold c32 at hv
  split at hv
  · exact evBody_sound hT (h _ _ _ _ _ _ _ hv)
  · cases hv
def c33t (f : List (List Int)) (sh ya ti : List Int) (a b : Int) : Tree (AV × Hp) := .br (sm sh && sm ya && sm ti && Lan.famS f) (.br (Lan.swE a b sh ya ti f == 0) (.leaf (.tuple [osW 0 (Lan.swL a b sh ya ti f).length, vi 0], [some (rowL (Lan.swL a b sh ya ti f) 22)])) (.leaf (.tuple [osW 0 0, vi (Lan.swE a b sh ya ti f)], [some (rowL [] 0)]))) .fail
def c33 (args : List AV) (H : Hp) : Tree (AV × Hp) := match args, H with
  | [(.agg [.sc (.int .i64 a), .sc (.int .i64 b), .sl (.int .i64) sh false] false), (.agg [.sl (.int .i64) ya false, .sl (.int .i64) ti false] false), (.sl (.ilist .i64) f false)], [] => c33t f sh ya ti a b
  | _, _ => .fail
theorem c33_ok {T : Tab} (hT : TabOK T) (h : ∀ (f : List (List Int)) (sh ya ti : List Int) (a b : Int) (r : AV × Hp), (c33t f sh ya ti a b).val = some r → evBody T 33 [aP a b sh, aX ya ti, lL f] [] = some r) : ∀ args H v H', (c33 args H).val = some (v, H') → CallOK T 33 args H v H' := by
  intro args H v H' hv
  unfold c33 at hv
  split at hv
  · exact evBody_sound hT (h _ _ _ _ _ _ _ hv)
  · cases hv
noncomputable def Y10 : Tab := ((((((((Y9.addCall 35 c35).addCall 36 c36).addCall 32 c32).addCall 33 c33).addCall 20 c20g).addCall 14 c14).addCall 15 cTrue))
theorem nf5 (f : List (List Int)) (sh ya ti : List Int) (a b : Int) : evBody Y10 5 [aP a b sh, aX ya ti, lL f] [] = (bif Lan.big sh ya ti then some (vb true, []) else bif decide (20 < f.length) || Lan.crowd f then some (vb true, []) else bif sm sh && sm ya && sm ti && sm f && f.all fun l => sm l then bif sm sh && sm ya && sm ti && sm f && f.all fun l => sm l then bif sm sh && sm ya && sm ti && Lan.famS f then bif Lan.swE a b sh ya ti f == 0 then bif sm sh && sm ya && sm ti && Lan.famS f then bif Lan.swE a b sh ya ti f == 0 then bif sm (Lan.ordL a b sh ya ti f) && decide (Lan.ordL a b sh ya ti f = Lan.ordL a b sh ya ti f) then bif Lan.ordE a b sh ya ti f == Lan.ordE a b sh ya ti f then bif Lan.eqT (Lan.swL a b sh ya ti f) (Lan.swL a b sh ya ti f) then bif sm sh && sm ya && sm ti && Lan.famS f then bif sm sh && sm ya && sm ti && Lan.famS f then bif Lan.apE a b sh ya ti f == Lan.apE a b sh ya ti f then some (vb true, []) else some (vb false, []) else none else none else none else some (vb false, []) else none else bif sm (Lan.ordL a b sh ya ti f) && decide (Lan.ordL a b sh ya ti f = Lan.ordL a b sh ya ti f) then bif Lan.ordE a b sh ya ti f == Lan.ordE a b sh ya ti f then bif Lan.eqT (Lan.swL a b sh ya ti f) [] then bif 0 == Lan.swE a b sh ya ti f then bif sm sh && sm ya && sm ti && Lan.famS f then bif sm sh && sm ya && sm ti && Lan.famS f then bif Lan.apE a b sh ya ti f == Lan.apE a b sh ya ti f then some (vb true, []) else some (vb false, []) else none else none else some (vb false, []) else none else some (vb false, []) else none else none else bif sm sh && sm ya && sm ti && Lan.famS f then bif Lan.swE a b sh ya ti f == 0 then bif sm (Lan.ordL a b sh ya ti f) && decide (Lan.ordL a b sh ya ti f = Lan.ordL a b sh ya ti f) then bif Lan.ordE a b sh ya ti f == Lan.ordE a b sh ya ti f then bif Lan.eqT [] (Lan.swL a b sh ya ti f) then bif Lan.swE a b sh ya ti f == 0 then bif sm sh && sm ya && sm ti && Lan.famS f then bif sm sh && sm ya && sm ti && Lan.famS f then bif Lan.apE a b sh ya ti f == Lan.apE a b sh ya ti f then some (vb true, []) else some (vb false, []) else none else none else some (vb false, []) else none else some (vb false, []) else none else bif sm (Lan.ordL a b sh ya ti f) && decide (Lan.ordL a b sh ya ti f = Lan.ordL a b sh ya ti f) then bif Lan.ordE a b sh ya ti f == Lan.ordE a b sh ya ti f then bif Lan.swE a b sh ya ti f == Lan.swE a b sh ya ti f then bif sm sh && sm ya && sm ti && Lan.famS f then bif sm sh && sm ya && sm ti && Lan.famS f then bif Lan.apE a b sh ya ti f == Lan.apE a b sh ya ti f then some (vb true, []) else some (vb false, []) else none else none else some (vb false, []) else some (vb false, []) else none else none else none else none else none) := by kernel_rfl
end Go.Ev.Lane
namespace Go.Ev.Lane
open Go Go.Ev
set_option maxRecDepth 1000000
set_option linter.unusedVariables false
set_option linter.unusedSimpArgs false
theorem getD_of {α : Type} {l : List α} {i : Nat} {x : α} (d : α) (h : l[i]? = some x) : l.getD i d = x := by
  rw [List.getD_eq_getElem?_getD, h]; rfl
theorem famS_len {f : List (List Int)} (h : Lan.famS f = true) : f.length ≤ 1000 ∧ ∀ l ∈ f, l.length ≤ 40000 := by
  unfold Lan.famS at h
  simp only [Bool.and_eq_true, decide_eq_true_eq, List.all_eq_true] at h
  exact ⟨h.1, h.2⟩
theorem famS_sm {f : List (List Int)} (h : Lan.famS f = true) : sm f = true ∧ (f.all fun l => sm l) = true := by
  obtain ⟨h1, h2⟩ := famS_len h
  refine ⟨decide_eq_true (by omega), List.all_eq_true.2 fun l hl => decide_eq_true ?_⟩
  have := h2 l hl
  omega
theorem eq_cast (j i : Nat) : ((j : Int) == (i : Int)) = decide (j = i) := by
  rw [Bool.eq_iff_iff, beq_iff_eq, decide_eq_true_eq]; omega
theorem idx_lt {l : List Int} {n : Int} (h : Lan.has l n = true) : Lan.idx l n < l.length := (Lan.has_idx l n).1 h
theorem laid (f : List (List Int)) : (List.take 0 (List.replicate f.length ([] : List Int)) ++ List.take (Min.min f.length f.length) f ++ List.drop (0 + Min.min f.length f.length) (List.replicate f.length ([] : List Int))) = f := by
  simp
theorem l32_11_run : ∀ base kv H o kv' H', (l32_11 base kv H).val = some (o, kv', H') → LoopOK Y6 32 11 base kv H o kv' H' := l32_11_ok Y6_ok (by kernel_rfl) (by
  intro f g h l m i k n q i2 q2 k2 q3 r hv
  obtain ⟨hl, hv2⟩ := guard_val hv
  simp only [Bool.and_eq_true, decide_eq_true_eq] at hl
  obtain ⟨⟨⟨⟨⟨⟨⟨⟨⟨rfl, rfl⟩, rfl⟩, hS⟩, i0⟩, i1⟩, k0⟩, k1⟩, hli⟩, rfl⟩ := hl
  obtain ⟨i, rfl⟩ := Int.eq_ofNat_of_zero_le i0
  obtain ⟨k, rfl⟩ := Int.eq_ofNat_of_zero_le k0
  rw [toNat_cast] at hli hv2
  rw [toNat_cast] at hv2
  have hi : i < h.length := by omega
  have hk : k < l.length := by omega
  obtain ⟨z1, z2⟩ := famS_len hS
  have hll : l.length ≤ 40000 := by rw [hli]; exact z2 _ (List.mem_of_getElem? (getD_ln [] hi))
  obtain ⟨mm, hm⟩ := pick_of (T := Y6) (fid := 32) (lid := 11) (base := 0) (c := lpc Y6 32 11) h (fun j o => bif decide (j = i) || !Lan.has o (l.getD k 0) then .inr () else .inl j)
    (fun j => [lL h, osW 0 0, vi 0, vi i, lI l, vi k, vi (l.getD k 0), lL h, vi q, vi i2, lI m, vi q2, vi k2, lL h, vi h.length, vi j]) [some (rowL [] 0)]
    (fun j => (.ret, [lL h, osT 0 h.length, vi 0, vi i, lI l, vi k, vi (l.getD k 0), lL h, vi q, vi i2, lI m, vi q2, vi k2, lL h, vi h.length, vi (j : Nat)], [some (rowL (Lan.swO h i k j) 22)]))
    (.ext 4, [lL h, osW 0 0, vi 0, vi i, lI l, vi k, vi (l.getD k 0), lL h, vi q, vi i2, lI m, vi q2, vi k2, lL h, vi h.length, vi h.length], [some (rowL [] 0)]) 0
    (fun j x hx hlt again => by
      have hxl := z2 x (List.mem_of_getElem? hx)
      have hxs : sm x = true := decide_eq_true (by omega)
      refine (nl32_11 ..).trans ?_
      simp only [dec_lt hlt, dec_ge, cond_true, toNat_cast, hx, oM, hxs, eq_cast, idxV_neg]
      rw [wrap_succ (by omega)]
      cases hji : decide (j = i) with
      | true => rfl
      | false =>
        cases hh : Lan.has x (l.getD k 0) with
        | false => rfl
        | true =>
          have hid := idx_lt hh
          have e1 : [List.take k l, List.drop (Lan.idx x (l.getD k 0)) x].flatten = l.take k ++ x.drop (Lan.idx x (l.getD k 0)) := by simp
          have e2 : [List.take (Lan.idx x (l.getD k 0)) x, List.drop k l].flatten = x.take (Lan.idx x (l.getD k 0)) ++ l.drop k := by simp
          have s1 : sm (l.take k ++ x.drop (Lan.idx x (l.getD k 0))) = true := decide_eq_true (by simp only [List.length_append, List.length_take, List.length_drop]; omega)
          have s2 : sm (x.take (Lan.idx x (l.getD k 0)) ++ l.drop k) = true := decide_eq_true (by simp only [List.length_append, List.length_take, List.length_drop]; omega)
          have p1 : 0 < (l.take k ++ x.drop (Lan.idx x (l.getD k 0))).length := by simp only [List.length_append, List.length_take, List.length_drop]; omega
          have p2 : 0 < (x.take (Lan.idx x (l.getD k 0)) ++ l.drop k).length := by simp only [List.length_append, List.length_take, List.length_drop]; omega
          have g1 : h[i]? = some l := by rw [getD_ln [] hi, ← hli]
          have hO : Lan.swO h i k j = (h.set i (l.take k ++ x.drop (Lan.idx x (l.getD k 0)))).set j (x.take (Lan.idx x (l.getD k 0)) ++ l.drop k) := by
            unfold Lan.swO
            rw [← hli, getD_of [] hx]
          have g2 : (h.set i (l.take k ++ x.drop (Lan.idx x (l.getD k 0))))[j]? = some x := by
            rw [List.getElem?_set_ne (fun e => of_decide_eq_false hji e.symm), hx]
          rw [idxV_yes hh]
          simp only [Bool.not_true, Bool.or_self, cond_false, cond_true, decide_true, toNat_cast, dec_ge, room_ok (show h.length ≤ 1000000 by omega) (show 24 ≤ 200 by omega), List.length_replicate, Nat.zero_add, Nat.le_refl, decide_eq_true (show (k : Int) ≤ (l.length : Int) by omega),
            decide_eq_true (show ((Lan.idx x (l.getD k 0) : Nat) : Int) ≤ (x.length : Int) by omega), e1, e2, s1, s2, decide_eq_true p1, decide_eq_true p2, Bool.and_self, dec_lt hi, dec_lt hlt]
          have hla := laid h
          rw [Nat.zero_add] at hla
          rw [show sm [List.take k l, List.drop (Lan.idx x (l.getD k 0)) x] = true from rfl, show sm [List.take (Lan.idx x (l.getD k 0)) x, List.drop k l] = true from rfl]
          simp only [cond_true, Bool.and_self, List.take_length, hla, g1, g2, hO])
    (fun again => by
      refine (nl32_11 ..).trans ?_
      simp only [dec_ll, cond_false])
  refine ⟨mm, hm.trans ?_⟩
  have e : foldX (fun j (_ : Unit) o => bif decide (j = i) || !Lan.has o (l.getD k 0) then .inr () else .inl j) 0 h () = Lan.swJ h i (l.getD k 0) := rfl
  rw [e]
  unfold Lan.swj at hv2
  rcases br_val hv2 with ⟨h, hv⟩ | ⟨h, hv⟩ <;> (rw [h, leaf_val hv]; rfl))
theorem l33_11_run : ∀ base kv H o kv' H', (l33_11 base kv H).val = some (o, kv', H') → LoopOK Y6 33 11 base kv H o kv' H' := l33_11_ok Y6_ok (by kernel_rfl) (by
  intro h i k r hv
  obtain ⟨hl, hv2⟩ := guard_val hv
  simp only [Bool.and_eq_true, decide_eq_true_eq] at hl
  obtain ⟨⟨⟨⟨hS, i0⟩, i1⟩, k0⟩, k1⟩ := hl
  obtain ⟨i, rfl⟩ := Int.eq_ofNat_of_zero_le i0
  obtain ⟨k, rfl⟩ := Int.eq_ofNat_of_zero_le k0
  rw [toNat_cast] at k1 hv2
  rw [toNat_cast] at hv2
  obtain ⟨l, hli⟩ : ∃ l, h.getD i [] = l := ⟨_, rfl⟩
  rw [hli] at k1 hv2
  have hi : i < h.length := by omega
  have hk : k < l.length := by omega
  obtain ⟨z1, z2⟩ := famS_len hS
  have hll : l.length ≤ 40000 := by rw [← hli]; exact z2 _ (List.mem_of_getElem? (getD_ln [] hi))
  have g1 : h[i]? = some l := by rw [getD_ln [] hi, hli]
  have gk := getD_ln (0 : Int) hk
  obtain ⟨mm, hm⟩ := pick_of (T := Y6) (fid := 33) (lid := 11) (base := 0) (c := lpc Y6 33 11) h (fun j o => bif decide (j = i) || !Lan.has o (l.getD k 0) then .inr () else .inl j)
    (fun j => [lL h, osW 0 0, vi 0, vi i, vi k, vi j]) [some (rowL [] 0)]
    (fun j => (.ret, [lL h, osW 0 h.length, vi 0, vi i, vi k, vi (j : Nat)], [some (rowL (Lan.swO h i k j) 22)]))
    (.ext 4, [lL h, osW 0 0, vi 0, vi i, vi k, vi h.length], [some (rowL [] 0)]) 0
    (fun j x hx hlt again => by
      have hxl := z2 x (List.mem_of_getElem? hx)
      have hxs : sm x = true := decide_eq_true (by omega)
      refine (nl33_11 ..).trans ?_
      simp only [dec_lt hlt, dec_lt hi, dec_lt hk, dec_ge, cond_true, toNat_cast, hx, g1, gk, oM, hxs, eq_cast, idxV_neg]
      rw [wrap_succ (by omega)]
      cases hji : decide (j = i) with
      | true => rfl
      | false =>
        cases hh : Lan.has x (l.getD k 0) with
        | false => rfl
        | true =>
          have hid := idx_lt hh
          have hO : Lan.swO h i k j = (h.set i (l.take k ++ x.drop (Lan.idx x (l.getD k 0)))).set j (x.take (Lan.idx x (l.getD k 0)) ++ l.drop k) := by
            unfold Lan.swO
            rw [hli, getD_of [] hx]
          have g2 : (h.set i (l.take k ++ x.drop (Lan.idx x (l.getD k 0))))[j]? = some x := by
            rw [List.getElem?_set_ne (fun e => of_decide_eq_false hji e.symm), hx]
          rw [idxV_yes hh]
          have c1 : (bif decide (0 < (List.take k l).length) then true else ([] : List Int).isEmpty) = true := by cases decide (0 < (List.take k l).length) <;> rfl
          have c2 : (bif decide (0 < (List.take (Lan.idx x (l.getD k 0)) x).length) then true else ([] : List Int).isEmpty) = true := by cases decide (0 < (List.take (Lan.idx x (l.getD k 0)) x).length) <;> rfl
          have c3 : (bif decide (0 < h.length) then true else ([] : List (List Int)).isEmpty) = true := by cases decide (0 < h.length) <;> rfl
          have c3' : (bif decide (0 < h.length) then true else ([] : List Int).isEmpty) = true := by cases decide (0 < h.length) <;> rfl
          have r1 : room ((List.take k l).length) 8 = true := room_ok (by simp only [List.length_take]; omega) (by omega)
          have r2 : room ((List.take (Lan.idx x (l.getD k 0)) x).length) 8 = true := room_ok (by simp only [List.length_take]; omega) (by omega)
          have r3 : room ((List.take k l).length + (List.drop (Lan.idx x (l.getD k 0)) x).length) 8 = true := room_ok (by simp only [List.length_take, List.length_drop]; omega) (by omega)
          have r4 : room ((List.take (Lan.idx x (l.getD k 0)) x).length + (List.drop k l).length) 8 = true := room_ok (by simp only [List.length_take, List.length_drop]; omega) (by omega)
          simp only [Bool.not_true, Bool.or_self, cond_false, cond_true, decide_true, toNat_cast, dec_ge, room_ok (show h.length ≤ 1000000 by omega) (show 24 ≤ 200 by omega), decide_eq_true (show (k : Int) ≤ (l.length : Int) by omega),
            decide_eq_true (show ((Lan.idx x (l.getD k 0) : Nat) : Int) ≤ (x.length : Int) by omega), c1, c2, c3, c3', r1, r2, r3, r4, Bool.and_self, dec_lt hi, dec_lt hlt, List.nil_append, Nat.zero_add, hx, g1, g2, hO])
    (fun again => by
      refine (nl33_11 ..).trans ?_
      simp only [dec_ll, cond_false])
  refine ⟨mm, hm.trans ?_⟩
  have e : foldX (fun j (_ : Unit) o => bif decide (j = i) || !Lan.has o (l.getD k 0) then .inr () else .inl j) 0 h () = Lan.swJ h i (l.getD k 0) := rfl
  rw [e]
  unfold Lan.swj at hv2
  rcases br_val hv2 with ⟨h, hv⟩ | ⟨h, hv⟩ <;> (rw [h, leaf_val hv]; rfl))
end Go.Ev.Lane
namespace Lan
open Go
theorem range_take {α : Type} (d : α) (p : α → Bool) (f : List α) : ∀ i, i ≤ f.length → ((List.range i).any fun k => p (f.getD k d)) = (f.take i).any p
  | 0, _ => rfl
  | i + 1, h => by
    have hg : f[i]? = some (f.getD i d) := by rw [List.getD_eq_getElem?_getD, List.getElem?_eq_getElem (by omega)]; rfl
    rw [List.range_succ, List.any_append, range_take d p f i (by omega), List.take_add_one, List.any_append, hg]
    simp only [Option.toList, List.any_cons, List.any_nil]
theorem pcl_take (f : List (List Int)) (i : Nat) (h : i ≤ f.length) : pcl f i i = (f.take i).any fun m => meetB (f.getD i []) m := range_take [] (fun m => meetB (f.getD i []) m) f i h
def unN (f : List (List Int)) (i : Nat) : Nat := (f.take i).foldl (fun u l => u ||| ofN l) 0
theorem un_succ {f : List (List Int)} {i : Nat} {x : List Int} (h : f[i]? = some x) : unN f (i + 1) = unN f i ||| ofN x := by
  unfold unN
  rw [List.take_add_one, h, List.foldl_append]
  rfl
theorem un_bit (y : Int) (hy : 0 ≤ y) : ∀ (f : List (List Int)) (u : Nat), (f.all fun l => in16 l) = true → (f.foldl (fun u l => u ||| ofN l) u).testBit y.toNat = (u.testBit y.toNat || f.any fun l => has l y)
  | [], u, _ => by simp
  | l :: f, u, h => by
    rw [List.all_cons, Bool.and_eq_true] at h
    rw [List.foldl_cons, un_bit y hy f _ h.2, Nat.testBit_or, ofN_bit h.1 y hy, List.any_cons, Bool.or_assoc]
theorem and_ne (s c : Nat) : (s &&& c != 0) = true ↔ ∃ i, s.testBit i = true ∧ c.testBit i = true := by
  constructor
  · intro h
    obtain ⟨i, hi⟩ := Nat.exists_testBit_of_ne_zero (bne_iff_ne.1 h)
    rw [Nat.testBit_and, Bool.and_eq_true] at hi
    exact ⟨i, hi⟩
  · rintro ⟨i, h1, h2⟩
    rw [bne_iff_ne]
    intro h
    have : (s &&& c).testBit i = true := by rw [Nat.testBit_and, h1, h2]; rfl
    rw [h, Nat.zero_testBit] at this
    cases this
theorem in16_mem {l : List Int} (h : in16 l = true) {y : Int} (hy : y ∈ l) : 0 ≤ y ∧ y < 16 := by
  unfold in16 at h
  rw [List.all_eq_true] at h
  have := h y hy
  simpa only [Bool.and_eq_true, decide_eq_true_eq] using this
theorem has_mem {l : List Int} {y : Int} : has l y = true ↔ y ∈ l := by
  unfold has
  rw [List.any_eq_true]
  constructor
  · rintro ⟨x, hx, h⟩; rw [← beq_iff_eq.1 h]; exact hx
  · intro h; exact ⟨y, h, by simp⟩
theorem un_pcl {f : List (List Int)} (h16 : (f.all fun l => in16 l) = true) {i : Nat} (hi : i < f.length) : (unN f i &&& ofN (f.getD i []) != 0) = pcl f i i := by
  have hall := List.all_eq_true.1 h16
  have hx : f.getD i [] ∈ f := by
    rw [List.getD_eq_getElem?_getD, List.getElem?_eq_getElem hi]; exact List.getElem_mem hi
  have ht : ((f.take i).all fun l => in16 l) = true := List.all_eq_true.2 fun l hl => hall l (List.mem_of_mem_take hl)
  rw [pcl_take f i (by omega), Bool.eq_iff_iff, and_ne]
  constructor
  · rintro ⟨b, h1, h2⟩
    have e : b = ((b : Nat) : Int).toNat := by omega
    rw [e, ofN_bit (hall _ hx) _ (by omega)] at h2
    unfold unN at h1
    rw [e, un_bit _ (by omega) _ _ ht, Nat.zero_testBit, Bool.false_or, List.any_eq_true] at h1
    obtain ⟨l, hl, hh⟩ := h1
    exact List.any_eq_true.2 ⟨l, hl, List.any_eq_true.2 ⟨(b : Int), has_mem.1 h2, hh⟩⟩
  · intro h
    obtain ⟨l, hl, hm⟩ := List.any_eq_true.1 h
    obtain ⟨y, hy, hh⟩ := List.any_eq_true.1 hm
    have hb := in16_mem (hall _ hx) hy
    refine ⟨y.toNat, ?_, ?_⟩
    · unfold unN
      rw [un_bit y hb.1 _ _ ht, Nat.zero_testBit, Bool.false_or, List.any_eq_true]
      exact ⟨l, hl, hh⟩
    · rw [ofN_bit (hall _ hx) y hb.1]; exact has_mem.2 hy
theorem apX_end {ρ : Type} {f : List (List Int)} (h16 : (f.all fun l => in16 l) = true) (R : Nat → Nat → ρ) (E : Nat → ρ) :
    Ev.endX E (Ev.foldX (fun i (u : Nat) l => bif u &&& ofN l != 0 then .inl (R i u) else .inr (u ||| ofN l)) 0 f 0) = bif clashN f f.length then R (sG (0, 0) ((apX f).map id fun _ => ())).1 (sG (0, 0) ((apX f).map id fun _ => ())).2 else E (f.foldl (fun u l => u ||| ofN l) 0) := by
  have main : ∀ (k i : Nat), i + k = f.length → Ev.endX E (Ev.foldX (fun i (u : Nat) l => bif u &&& ofN l != 0 then .inl (R i u) else .inr (u ||| ofN l)) i (f.drop i) (unN f i)) =
      bif (List.range' i k).any fun j => pcl f j j then R (sG (0, 0) ((Ev.foldX (fun i (u : Nat) l => bif u &&& ofN l != 0 then .inl (i, u) else .inr (u ||| ofN l)) i (f.drop i) (unN f i)).map id fun _ => ())).1 (sG (0, 0) ((Ev.foldX (fun i (u : Nat) l => bif u &&& ofN l != 0 then .inl (i, u) else .inr (u ||| ofN l)) i (f.drop i) (unN f i)).map id fun _ => ())).2 else E (f.foldl (fun u l => u ||| ofN l) 0) := by
    intro k
    induction k with
    | zero =>
      intro i hk
      obtain rfl : i = f.length := by omega
      rw [List.drop_eq_nil_of_le (Nat.le_refl _)]
      simp only [Ev.foldX, Ev.endX, List.range'_zero, List.any_nil, cond_false]
      unfold unN
      rw [List.take_length]
    | succ k ih =>
      intro i hk
      have hlt : i < f.length := by omega
      have hg : f[i]? = some f[i] := List.getElem?_eq_getElem hlt
      have hgd : f.getD i [] = f[i] := by rw [List.getD_eq_getElem?_getD, hg]; rfl
      have hp := un_pcl h16 hlt
      rw [hgd] at hp
      rw [List.drop_eq_getElem_cons hlt, List.range'_succ, List.any_cons]
      simp only [Ev.foldX, hp]
      cases hc : pcl f i i with
      | true => rfl
      | false =>
        simp only [Bool.false_or, cond_false, ← un_succ hg]
        exact ih (i + 1) (by omega)
  have := main f.length 0 (by omega)
  rw [List.drop_zero, ← List.range_eq_range'] at this
  exact this
end Lan
namespace Go.Ev.Lane
open Go Go.Ev
set_option maxRecDepth 1000000
set_option linter.unusedVariables false
set_option linter.unusedSimpArgs false
theorem l35_6_run : ∀ base kv H o kv' H', (l35_6 base kv H).val = some (o, kv', H') → LoopOK Y6 35 6 base kv H o kv' H' := l35_6_ok Y6_ok (by kernel_rfl) (by
  intro f q r hv
  obtain ⟨hl, hv2⟩ := guard_val hv
  simp only [Bool.and_eq_true, decide_eq_true_eq] at hl
  obtain ⟨⟨rfl, hS⟩, h16⟩ := hl
  obtain ⟨z1, z2⟩ := famS_len hS
  have hall := List.all_eq_true.1 h16
  obtain ⟨mm, hm⟩ := each_of (T := Y6) (fid := 35) (lid := 6) (base := 0) (c := lpc Y6 35 6) f (fun i u => u < 65536) (fun i (u : Nat) l => bif u &&& Lan.ofN l != 0 then .inl (Out.ret, [vi 13, vS u, lL f, vi f.length, vi i], []) else .inr (u ||| Lan.ofN l))
    (fun i u => [vi 0, vS u, lL f, vi f.length, vi i]) (fun _ => []) (fun u => (.ext 0, [vi 0, vS u, lL f, vi f.length, vi f.length], []))
    (fun i x u hx hlt hI again => by
      have hxl := z2 x (List.mem_of_getElem? hx)
      have hxs : sm x = true := decide_eq_true (by omega)
      have hx6 := hall x (List.mem_of_getElem? hx)
      have hof : Lan.ofN x < 65536 := Lan.ofN_lt x 0 hx6 (by decide)
      refine (nl35 ..).trans ?_
      simp only [dec_lt hlt, dec_ge, cond_true, toNat_cast, hx, oM, hxs, hx6, Bool.and_self]
      rw [wrap_succ (by omega), Lan.and16 hI hof, Lan.or16 hI hof]
      have e : (((u &&& Lan.ofN x : Nat) : Int) != 0) = (u &&& Lan.ofN x != 0) := by
        rw [Bool.eq_iff_iff, bne_iff_ne, bne_iff_ne]; omega
      rw [e]
      cases u &&& Lan.ofN x != 0 <;> rfl)
    (fun i x u u' hx hlt hI hf => by
      have hx6 := hall x (List.mem_of_getElem? hx)
      have hof : Lan.ofN x < 65536 := Lan.ofN_lt x 0 hx6 (by decide)
      cases hc : u &&& Lan.ofN x != 0 with
      | true => rw [hc] at hf; cases hf
      | false => rw [hc] at hf; cases hf; exact Nat.or_lt_two_pow (n := 16) hI hof)
    (fun u hI again => by
      refine (nl35 ..).trans ?_
      simp only [dec_ll, cond_false]) 0 (by decide)
  refine ⟨mm, hm.trans ?_⟩
  rw [Lan.apX_end (ρ := Out × List AV × Hp) h16 (fun i u => (Out.ret, [vi 13, vS u, lL f, vi f.length, vi i], []))]
  rcases br_val hv2 with ⟨h, hv⟩ | ⟨h, hv⟩ <;> (rw [h, leaf_val hv]; rfl))
theorem pcl_succ (f : List (List Int)) (i k : Nat) : Lan.pcl f i (k + 1) = (Lan.pcl f i k || Lan.meetB (f.getD i []) (f.getD k [])) := by
  unfold Lan.pcl
  rw [List.range_succ, List.any_append]
  simp only [List.any_cons, List.any_nil, Bool.or_false]
theorem l36_6_run : ∀ base kv H o kv' H', (l36_6 base kv H).val = some (o, kv', H') → LoopOK Y6 36 6 base kv H o kv' H' := l36_6_ok Y6_ok (by kernel_rfl) (by
  intro f e i r hv
  obtain ⟨hl, hv2⟩ := guard_val hv
  simp only [Bool.and_eq_true, decide_eq_true_eq] at hl
  obtain ⟨⟨hS, i0⟩, i1⟩ := hl
  obtain ⟨z1, z2⟩ := famS_len hS
  obtain ⟨i, rfl⟩ := Int.eq_ofNat_of_zero_le i0
  have hi : i < f.length := by omega
  have hsmi : ∀ j, j < f.length → sm (f.getD j []) = true := fun j hj => decide_eq_true (by have := z2 _ (List.mem_of_getElem? (getD_ln [] hj)); omega)
  obtain ⟨mm, hm⟩ := steps_of (T := Y6) (fid := 36) (lid := 6) (base := 0) (c := lpc Y6 36 6) i (fun k => [lL f, vi (bif Lan.pcl f i k then 13 else e), vi i, vi (k : Nat)]) (fun _ => [])
    (.ext 2, [lL f, vi (bif Lan.pcl f i i then 13 else e), vi i, vi i], [])
    (fun k hk again => by
      refine (nl36_6 ..).trans ?_
      simp only [dec_lt hk, dec_lt hi, dec_lt (show k < f.length by omega), dec_ge, cond_true, toNat_cast, getD_ln [] hi, getD_ln [] (show k < f.length by omega), oM, hsmi i hi, hsmi k (by omega), Bool.and_self, pcl_succ]
      rw [wrap_succ (by omega)]
      cases Lan.meetB (f.getD i []) (f.getD k []) <;> cases Lan.pcl f i k <;> rfl)
    (fun again => by
      refine (nl36_6 ..).trans ?_
      simp only [dec_ll, cond_false])
  refine ⟨mm, Eq.trans ?_ (hm.trans (by rw [leaf_val hv2, toNat_cast]))⟩
  rfl)
theorem Y7_ok : TabOK Y7 := by
  have h := Y6_ok
  have h := h.addLoop (g := 32) (lid := 11) (r := l32_11) fun b k H o k' H' hv => by refine LoopOK.tab ?_ ?_ ?_ ?_ (l32_11_run b k H o k' H' hv) <;> rfl
  have h := h.addLoop (g := 33) (lid := 11) (r := l33_11) fun b k H o k' H' hv => by refine LoopOK.tab ?_ ?_ ?_ ?_ (l33_11_run b k H o k' H' hv) <;> rfl
  have h := h.addLoop (g := 35) (lid := 6) (r := l35_6) fun b k H o k' H' hv => by refine LoopOK.tab ?_ ?_ ?_ ?_ (l35_6_run b k H o k' H' hv) <;> rfl
  have h := h.addLoop (g := 36) (lid := 6) (r := l36_6) fun b k H o k' H' hv => by refine LoopOK.tab ?_ ?_ ?_ ?_ (l36_6_run b k H o k' H' hv) <;> rfl
  exact h
theorem l32_8_run : ∀ base kv H o kv' H', (l32_8 base kv H).val = some (o, kv', H') → LoopOK Y7 32 8 base kv H o kv' H' := l32_8_ok Y7_ok (by kernel_rfl) (by
  intro f g l m i q i2 q2 r hv
  obtain ⟨hl, hv2⟩ := guard_val hv
  simp only [Bool.and_eq_true, decide_eq_true_eq] at hl
  obtain ⟨⟨⟨⟨⟨⟨⟨⟨rfl, rfl⟩, rfl⟩, rfl⟩, rfl⟩, hS⟩, i0⟩, i1⟩, hli⟩ := hl
  obtain ⟨z1, z2⟩ := famS_len hS
  obtain ⟨i, rfl⟩ := Int.eq_ofNat_of_zero_le i0
  rw [toNat_cast] at hli hv2
  have hi : i < g.length := by omega
  have hll : m.length ≤ 40000 := by rw [hli]; exact z2 _ (List.mem_of_getElem? (getD_ln [] hi))
  obtain ⟨mm, hm⟩ := pick_of (T := Y7) (fid := 32) (lid := 8) (base := 0) (c := lpc Y7 32 8) m (fun k n => match Lan.swJ g i n with | .inl j => .inl (k, j) | .inr _ => .inr ())
    (fun k => [lL g, osW 0 0, vi 0, vi i, lI m, lL g, vi g.length, vi i, lI m, vi m.length, vi k]) [some (rowL [] 0)]
    (fun x => (.ret, [lL g, osT 0 g.length, vi 0, vi i, lI m, lL g, vi g.length, vi i, lI m, vi m.length, vi (x.1 : Nat)], [some (rowL (Lan.swO g i x.1 x.2) 22)]))
    (.ext 2, [lL g, osW 0 0, vi 0, vi i, lI m, lL g, vi g.length, vi i, lI m, vi m.length, vi m.length], [some (rowL [] 0)]) (0, 0)
    (fun k x hx hlt again => by
      refine (nl32_8 ..).trans ?_
      simp only [dec_lt hlt, dec_ge, cond_true, toNat_cast, hx, oM, decide_true, hS, dec_lt hi, Bool.true_and, Bool.and_self, ← hli, getD_of 0 hx]
      rw [wrap_succ (by omega)]
      unfold Lan.swj
      cases Lan.swJ g i x <;> rfl)
    (fun again => by
      refine (nl32_8 ..).trans ?_
      simp only [dec_ll, cond_false])
  refine ⟨mm, hm.trans ?_⟩
  have e : foldX (fun k (_ : Unit) n => match Lan.swJ g i n with | .inl j => (.inl (k, j) : Sum (Nat × Nat) Unit) | .inr _ => .inr ()) 0 m () = Lan.swK g i m := rfl
  rw [e]
  unfold Lan.swk at hv2
  rcases br_val hv2 with ⟨h, hv⟩ | ⟨h, hv⟩ <;> (rw [h, leaf_val hv]; rfl))
theorem l33_8_run : ∀ base kv H o kv' H', (l33_8 base kv H).val = some (o, kv', H') → LoopOK Y7 33 8 base kv H o kv' H' := l33_8_ok Y7_ok (by kernel_rfl) (by
  intro g i r hv
  obtain ⟨hl, hv2⟩ := guard_val hv
  simp only [Bool.and_eq_true, decide_eq_true_eq] at hl
  obtain ⟨⟨hS, i0⟩, i1⟩ := hl
  obtain ⟨z1, z2⟩ := famS_len hS
  obtain ⟨i, rfl⟩ := Int.eq_ofNat_of_zero_le i0
  rw [toNat_cast] at hv2
  obtain ⟨m, hli⟩ : ∃ m, g.getD i [] = m := ⟨_, rfl⟩
  rw [hli] at hv2
  have hi : i < g.length := by omega
  have g1 : g[i]? = some m := by rw [getD_ln [] hi, hli]
  have hll : m.length ≤ 40000 := z2 _ (List.mem_of_getElem? g1)
  obtain ⟨mm, hm⟩ := pick_of (T := Y7) (fid := 33) (lid := 8) (base := 0) (c := lpc Y7 33 8) m (fun k n => match Lan.swJ g i n with | .inl j => .inl (k, j) | .inr _ => .inr ())
    (fun k => [lL g, osW 0 0, vi 0, vi i, vi k]) [some (rowL [] 0)]
    (fun x => (.ret, [lL g, osW 0 g.length, vi 0, vi i, vi (x.1 : Nat)], [some (rowL (Lan.swO g i x.1 x.2) 22)]))
    (.ext 2, [lL g, osW 0 0, vi 0, vi i, vi m.length], [some (rowL [] 0)]) (0, 0)
    (fun k x hx hlt again => by
      refine (nl33_8 ..).trans ?_
      simp only [dec_lt hlt, dec_ge, cond_true, toNat_cast, g1, oM, hS, dec_lt hi, Bool.true_and, Bool.and_self, hli, getD_of 0 hx]
      rw [wrap_succ (by omega)]
      unfold Lan.swj
      cases Lan.swJ g i x <;> rfl)
    (fun again => by
      refine (nl33_8 ..).trans ?_
      simp only [dec_ll, dec_lt hi, dec_ge, cond_true, toNat_cast, g1, oM, cond_false])
  refine ⟨mm, hm.trans ?_⟩
  have e : foldX (fun k (_ : Unit) n => match Lan.swJ g i n with | .inl j => (.inl (k, j) : Sum (Nat × Nat) Unit) | .inr _ => .inr ()) 0 m () = Lan.swK g i m := rfl
  rw [e]
  unfold Lan.swk at hv2
  rcases br_val hv2 with ⟨h, hv⟩ | ⟨h, hv⟩ <;> (rw [h, leaf_val hv]; rfl))
theorem clash_any (f : List (List Int)) (n : Nat) : Lan.clashN f n = (List.range n).any fun i => Lan.pcl f i i := rfl
theorem l36_3_run : ∀ base kv H o kv' H', (l36_3 base kv H).val = some (o, kv', H') → LoopOK Y7 36 3 base kv H o kv' H' := l36_3_ok Y7_ok (by kernel_rfl) (by
  intro f e r hv
  obtain ⟨hS, hv2⟩ := guard_val hv
  obtain ⟨z1, z2⟩ := famS_len hS
  rcases br_val hv2 with ⟨he, hv3⟩ | ⟨he, hv3⟩
  · obtain rfl := beq_iff_eq.1 he
    rw [leaf_val hv3]
    have hc : ∀ i, i < f.length → Lan.pcl f i i = true → (∀ j, j < i → Lan.pcl f j j = false) → Lan.clashN f f.length = true ∧ Lan.first3 f = i := by
      intro i hi hp hn
      refine ⟨List.any_eq_true.2 ⟨i, List.mem_range.2 hi, hp⟩, ?_⟩
      unfold Lan.first3
      rw [List.findIdx_eq (by simpa using hi)]
      refine ⟨by simpa using hp, fun j hj => ?_⟩
      simpa using hn j hj
    exact lpRun_of (T := Y7) (fid := 36) (lid := 3) (base := 0) (c := lpc Y7 36 3) (fun (a : Nat × Bool) => (a.2 = false → a.1 ≤ f.length ∧ ∀ j, j < a.1 → Lan.pcl f j j = false) ∧ (a.2 = true → Lan.clashN f f.length = true ∧ a.1 = Lan.first3 f + 1))
      (fun a => [lL f, vi (bif a.2 then 13 else 0), vi a.1]) (fun _ => []) (fun _ => (.ext 0, [lL f, vi (bif Lan.clashN f f.length then 13 else 0), vi (bif Lan.clashN f f.length then Lan.first3 f + 1 else f.length : Nat)], [])) (fun a => bif a.2 then 0 else f.length - a.1 + 1)
      (fun a hP again => by
        obtain ⟨i, s⟩ := a
        cases s with
        | true =>
          obtain ⟨h1, h2⟩ := hP.2 rfl
          refine .inl ((nl36_3 ..).trans ?_)
          rw [h1]
          simp only [cond_true] at h2 ⊢
          rw [h2, show ((13 : Int) == 0) = false from rfl]
          cases decide (((Lan.first3 f + 1 : Nat) : Int) < (f.length : Int)) <;> rfl
        | false =>
          obtain ⟨h1, h2⟩ := hP.1 rfl
          rcases Nat.lt_or_ge i f.length with hlt | hge
          · refine .inr ⟨(i + 1, Lan.pcl f i i), ?_, ?_, rfl, (nl36_3 ..).trans ?_⟩
            · refine ⟨fun hp => ⟨hlt, fun j hj => ?_⟩, fun hp => ?_⟩
              · rcases Nat.lt_succ_iff_lt_or_eq.1 hj with h3 | rfl
                · exact h2 j h3
                · exact hp
              · obtain ⟨h3, h4⟩ := hc i hlt hp h2
                exact ⟨h3, by rw [h4]⟩
            · show (bif Lan.pcl f i i then 0 else f.length - (i + 1) + 1) < f.length - i + 1
              cases Lan.pcl f i i
              · show f.length - (i + 1) + 1 < _; omega
              · show 0 < _; omega
            · simp only [dec_lt hlt, dec_ge, toNat_cast, hS, cond_false, cond_true, Bool.and_self, show ((0 : Int) == 0) = true from rfl]
              rw [wrap_succ (by omega)]
          · have hi : i = f.length := by have := h1; simp only at this; omega
            subst hi
            have hno : Lan.clashN f f.length = false := by
              rw [clash_any, List.any_eq_false]
              intro j hj
              rw [h2 j (List.mem_range.1 hj)]
              simp
            refine .inl ((nl36_3 ..).trans ?_)
            simp only [dec_ll, cond_false, hno]) (0, false) ⟨fun _ => ⟨Nat.zero_le _, fun j hj => absurd hj (Nat.not_lt_zero j)⟩, fun h => by cases h⟩
  · refine ⟨1, (nl36_3 ..).trans ?_⟩
    rw [leaf_val hv3, he]
    cases decide ((0 : Int) < (f.length : Int)) <;> rfl)
theorem Y8_ok : TabOK Y8 := by
  have h := Y7_ok
  have h := h.addLoop (g := 32) (lid := 8) (r := l32_8) fun b k H o k' H' hv => by refine LoopOK.tab ?_ ?_ ?_ ?_ (l32_8_run b k H o k' H' hv) <;> rfl
  have h := h.addLoop (g := 33) (lid := 8) (r := l33_8) fun b k H o k' H' hv => by refine LoopOK.tab ?_ ?_ ?_ ?_ (l33_8_run b k H o k' H' hv) <;> rfl
  have h := h.addLoop (g := 36) (lid := 3) (r := l36_3) fun b k H o k' H' hv => by refine LoopOK.tab ?_ ?_ ?_ ?_ (l36_3_run b k H o k' H' hv) <;> rfl
  exact h
theorem l32_5_run : ∀ base kv H o kv' H', (l32_5 base kv H).val = some (o, kv', H') → LoopOK Y8 32 5 base kv H o kv' H' := l32_5_ok Y8_ok (by kernel_rfl) (by
  intro f g q r hv
  obtain ⟨hl, hv2⟩ := guard_val hv
  simp only [Bool.and_eq_true, decide_eq_true_eq] at hl
  obtain ⟨⟨rfl, rfl⟩, hS⟩ := hl
  obtain ⟨z1, z2⟩ := famS_len hS
  obtain ⟨mm, hm⟩ := pick_of (T := Y8) (fid := 32) (lid := 5) (base := 0) (c := lpc Y8 32 5) g (fun i l => match Lan.swK g i l with | .inl x => .inl (i, x.1, x.2) | .inr _ => .inr ())
    (fun i => [lL g, osW 0 0, vi 0, lL g, vi g.length, vi i]) [some (rowL [] 0)]
    (fun x => (.ret, [lL g, osT 0 g.length, vi 0, lL g, vi g.length, vi (x.1 : Nat)], [some (rowL (Lan.swO g x.1 x.2.1 x.2.2) 22)]))
    (.ext 0, [lL g, osW 0 0, vi 0, lL g, vi g.length, vi g.length], [some (rowL [] 0)]) (0, 0, 0)
    (fun i x hx hlt again => by
      refine (nl32_5 ..).trans ?_
      simp only [dec_lt hlt, dec_ge, cond_true, toNat_cast, hx, oM, decide_true, hS, Bool.true_and, Bool.and_self, getD_of [] hx]
      rw [wrap_succ (by omega)]
      unfold Lan.swk
      cases Lan.swK g i x <;> rfl)
    (fun again => by
      refine (nl32_5 ..).trans ?_
      simp only [dec_ll, cond_false])
  refine ⟨mm, hm.trans ?_⟩
  have e : foldX (fun i (_ : Unit) l => match Lan.swK g i l with | .inl x => (.inl (i, x.1, x.2) : Sum (Nat × Nat × Nat) Unit) | .inr _ => .inr ()) 0 g () = Lan.swI g := rfl
  rw [e]
  unfold Lan.swi at hv2
  rcases br_val hv2 with ⟨h, hv⟩ | ⟨h, hv⟩ <;> (rw [h, leaf_val hv]; rfl))
theorem l33_5_run : ∀ base kv H o kv' H', (l33_5 base kv H).val = some (o, kv', H') → LoopOK Y8 33 5 base kv H o kv' H' := l33_5_ok Y8_ok (by kernel_rfl) (by
  intro g r hv
  obtain ⟨hS, hv2⟩ := guard_val hv
  obtain ⟨z1, z2⟩ := famS_len hS
  obtain ⟨mm, hm⟩ := pick_of (T := Y8) (fid := 33) (lid := 5) (base := 0) (c := lpc Y8 33 5) g (fun i l => match Lan.swK g i l with | .inl x => .inl (i, x.1, x.2) | .inr _ => .inr ())
    (fun i => [lL g, osW 0 0, vi 0, vi i]) [some (rowL [] 0)]
    (fun x => (.ret, [lL g, osW 0 g.length, vi 0, vi (x.1 : Nat)], [some (rowL (Lan.swO g x.1 x.2.1 x.2.2) 22)]))
    (.ext 0, [lL g, osW 0 0, vi 0, vi g.length], [some (rowL [] 0)]) (0, 0, 0)
    (fun i x hx hlt again => by
      refine (nl33_5 ..).trans ?_
      simp only [dec_lt hlt, dec_ge, cond_true, toNat_cast, hS, Bool.true_and, Bool.and_self, getD_of [] hx]
      rw [wrap_succ (by omega)]
      unfold Lan.swk
      cases Lan.swK g i x <;> rfl)
    (fun again => by
      refine (nl33_5 ..).trans ?_
      simp only [dec_ll, cond_false])
  refine ⟨mm, hm.trans ?_⟩
  have e : foldX (fun i (_ : Unit) l => match Lan.swK g i l with | .inl x => (.inl (i, x.1, x.2) : Sum (Nat × Nat × Nat) Unit) | .inr _ => .inr ()) 0 g () = Lan.swI g := rfl
  rw [e]
  unfold Lan.swi at hv2
  rcases br_val hv2 with ⟨h, hv⟩ | ⟨h, hv⟩ <;> (rw [h, leaf_val hv]; rfl))
theorem Y9_ok : TabOK Y9 := by
  have h := Y8_ok
  have h := h.addLoop (g := 32) (lid := 5) (r := l32_5) fun b k H o k' H' hv => by refine LoopOK.tab ?_ ?_ ?_ ?_ (l32_5_run b k H o k' H' hv) <;> rfl
  have h := h.addLoop (g := 33) (lid := 5) (r := l33_5) fun b k H o k' H' hv => by refine LoopOK.tab ?_ ?_ ?_ ?_ (l33_5_run b k H o k' H' hv) <;> rfl
  exact h
theorem swO_len (f : List (List Int)) (i k j : Nat) : (Lan.swO f i k j).length = f.length := by
  unfold Lan.swO; rw [List.length_set, List.length_set]
theorem ordE_16 {a b : Int} {sh ya ti : List Int} {f : List (List Int)} (h : Lan.ordE a b sh ya ti f = 0) : (f.all fun l => Lan.in16 l) = true := by
  unfold Lan.ordE at h
  cases hc : Lan.chk a b sh ya ti != 0 with
  | true => rw [hc, cond_true] at h; rw [h] at hc; cases hc
  | false =>
    rw [hc, cond_false] at h
    cases hn : decide (f.length ≠ ya.length) with
    | true => rw [hn] at h; cases h
    | false =>
      rw [hn, cond_false] at h
      have hk := Lan.chk_ok (by simpa using hc)
      have main : ∀ (f : List (List Int)) (i : Nat) (s : List Int), Lan.errE (foldX (fun i s p => bif Lan.orErr a b sh ya ti i s p == 0 then .inr (s ++ [(Lan.idx ti (Lan.lastI p) : Int)]) else .inl (Lan.orErr a b sh ya ti i s p, i, s)) i f s) = 0 → ∀ l ∈ f, Lan.in16 l = true := by
        intro f
        induction f with
        | nil => intro i s _ l hl; cases hl
        | cons x f ih =>
          intro i s h
          simp only [foldX] at h
          cases he : Lan.orErr a b sh ya ti i s x == 0 with
          | false =>
            rw [he] at h
            simp only [cond_false, Lan.errE] at h
            rw [h] at he
            cases he
          | true =>
            rw [he] at h
            intro l hl
            rcases List.mem_cons.1 hl with rfl | hl
            · have he := beq_iff_eq.1 he
              unfold Lan.orErr at he
              cases hw : Lan.wyE a b sh l != 0 with
              | true => rw [hw, cond_true] at he; rw [he] at hw; cases hw
              | false =>
                have hw0 : Lan.wyE a b sh l = 0 := by simpa using hw
                unfold Lan.wyE at hw0
                cases hz : decide (l.length = 0) with
                | true => rw [hz] at hw0; cases hw0
                | false =>
                  rw [hz, cond_false] at hw0
                  unfold Lan.in16
                  rw [List.all_eq_true]
                  intro x hx
                  obtain ⟨k, hk2, rfl⟩ := List.mem_iff_getElem.1 hx
                  have := wrong16 hk.side (wy_ok (Lan.firstE_zero hw0 k _ (List.getElem?_eq_getElem hk2)))
                  simp only [Bool.and_eq_true, decide_eq_true_eq]
                  omega
            · exact ih (i + 1) _ h l hl
      exact List.all_eq_true.2 (main f 0 [] h)
theorem c35_run : ∀ args H v H', (c35 args H).val = some (v, H') → CallOK Y9 35 args H v H' := fun a H v H' hv => by
  refine CallOK.tab ?_ ?_ (c35_ok (T := Y7) Y7_ok (by
    intro f sh ya ti a b r hv
    obtain ⟨hl, hv2⟩ := guard_val hv
    simp only [Bool.and_eq_true] at hl
    obtain ⟨⟨⟨h1, h2⟩, h3⟩, hS⟩ := hl
    obtain ⟨h4, h5⟩ := famS_sm hS
    refine (nf35 ..).trans ?_
    rw [leaf_val hv2]
    unfold Lan.apE
    simp only [h1, h2, h3, h4, h5, Bool.and_self, cond_true]
    cases ho : Lan.ordE a b sh ya ti f != 0 with
    | true => rfl
    | false =>
      have h16 := ordE_16 (by simpa using ho)
      simp only [cond_false, decide_true, hS, h16, Bool.and_self, cond_true]
      cases Lan.clashN f f.length <;> rfl) a H v H' hv) <;> rfl
theorem c36_run : ∀ args H v H', (c36 args H).val = some (v, H') → CallOK Y9 36 args H v H' := fun a H v H' hv => by
  refine CallOK.tab ?_ ?_ (c36_ok (T := Y8) Y8_ok (by
    intro f sh ya ti a b r hv
    obtain ⟨hl, hv2⟩ := guard_val hv
    simp only [Bool.and_eq_true] at hl
    obtain ⟨⟨⟨h1, h2⟩, h3⟩, hS⟩ := hl
    obtain ⟨h4, h5⟩ := famS_sm hS
    refine (nf36 ..).trans ?_
    rw [leaf_val hv2]
    unfold Lan.apE
    simp only [h1, h2, h3, h4, h5, hS, Bool.and_self, cond_true]
    cases ho : Lan.ordE a b sh ya ti f == 0 with
    | true => rw [show (Lan.ordE a b sh ya ti f != 0) = false by rw [bne, ho]; rfl]; rfl
    | false => rw [show (Lan.ordE a b sh ya ti f != 0) = true by rw [bne, ho]; rfl]; rfl) a H v H' hv) <;> rfl
theorem swL_ok {a b : Int} {sh ya ti : List Int} {f : List (List Int)} (h : (Lan.ordE a b sh ya ti f == 0) = true) (h2 : Lan.sL (Lan.swI f) = true) : Lan.swE a b sh ya ti f = 0 ∧ Lan.swL a b sh ya ti f = Lan.swO f (Lan.swi f).1 (Lan.swi f).2.1 (Lan.swi f).2.2 := by
  unfold Lan.swE Lan.swL
  rw [bne, h, h2]
  exact ⟨rfl, rfl⟩
theorem c32_run : ∀ args H v H', (c32 args H).val = some (v, H') → CallOK Y9 32 args H v H' := c32_ok Y9_ok (by
  intro f sh ya ti a b r hv
  obtain ⟨hl, hv2⟩ := guard_val hv
  simp only [Bool.and_eq_true] at hl
  obtain ⟨⟨⟨h1, h2⟩, h3⟩, hS⟩ := hl
  obtain ⟨h4, h5⟩ := famS_sm hS
  refine (nf32 ..).trans ?_
  simp only [h1, h2, h3, h4, h5, Bool.and_self, cond_true, decide_true, hS]
  cases ho : Lan.ordE a b sh ya ti f != 0 with
  | true =>
    have e : Lan.swE a b sh ya ti f = Lan.ordE a b sh ya ti f := by unfold Lan.swE; rw [ho]; rfl
    rcases br_val hv2 with ⟨hz, hv⟩ | ⟨hz, hv⟩
    · rw [e] at hz; rw [bne, hz] at ho; cases ho
    · rw [leaf_val hv, e]; rfl
  | false =>
    have ho' : (Lan.ordE a b sh ya ti f == 0) = true := by simpa using ho
    cases hw : Lan.sL (Lan.swI f) with
    | true =>
      obtain ⟨e1, e2⟩ := swL_ok ho' hw
      rcases br_val hv2 with ⟨hz, hv⟩ | ⟨hz, hv⟩
      · rw [leaf_val hv, e2, swO_len]; rfl
      · rw [e1] at hz; cases hz
    | false =>
      have e : Lan.swE a b sh ya ti f = 13 := by unfold Lan.swE; rw [ho, hw]; rfl
      rcases br_val hv2 with ⟨hz, hv⟩ | ⟨hz, hv⟩
      · rw [e] at hz; cases hz
      · rw [leaf_val hv, e]; rfl)
theorem c33_run : ∀ args H v H', (c33 args H).val = some (v, H') → CallOK Y9 33 args H v H' := c33_ok Y9_ok (by
  intro f sh ya ti a b r hv
  obtain ⟨hl, hv2⟩ := guard_val hv
  simp only [Bool.and_eq_true] at hl
  obtain ⟨⟨⟨h1, h2⟩, h3⟩, hS⟩ := hl
  obtain ⟨h4, h5⟩ := famS_sm hS
  refine (nf33 ..).trans ?_
  simp only [h1, h2, h3, h4, h5, Bool.and_self, cond_true, decide_true, hS]
  cases ho : Lan.ordE a b sh ya ti f != 0 with
  | true =>
    have e : Lan.swE a b sh ya ti f = Lan.ordE a b sh ya ti f := by unfold Lan.swE; rw [ho]; rfl
    rcases br_val hv2 with ⟨hz, hv⟩ | ⟨hz, hv⟩
    · rw [e] at hz; rw [bne, hz] at ho; cases ho
    · rw [leaf_val hv, e]; rfl
  | false =>
    have ho' : (Lan.ordE a b sh ya ti f == 0) = true := by simpa using ho
    cases hw : Lan.sL (Lan.swI f) with
    | true =>
      obtain ⟨e1, e2⟩ := swL_ok ho' hw
      rcases br_val hv2 with ⟨hz, hv⟩ | ⟨hz, hv⟩
      · rw [leaf_val hv, e2, swO_len]; rfl
      · rw [e1] at hz; cases hz
    | false =>
      have e : Lan.swE a b sh ya ti f = 13 := by unfold Lan.swE; rw [ho, hw]; rfl
      rcases br_val hv2 with ⟨hz, hv⟩ | ⟨hz, hv⟩
      · rw [e] at hz; cases hz
      · rw [leaf_val hv, e]; rfl)
end Go.Ev.Lane
