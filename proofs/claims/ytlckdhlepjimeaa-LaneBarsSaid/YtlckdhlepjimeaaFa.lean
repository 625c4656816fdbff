/- Families of ways: plain definitions. -/
import Derived.Test.YtlckdhlepjimeaaSe
set_option linter.unusedVariables false
set_option linter.unusedSimpArgs false
namespace Lan
open Go
def errX {σ β : Type} (err : Nat → σ → β → Int) (st : Nat → σ → β → σ) (l : List β) (s : σ) : Sum (Int × Nat × σ) σ := Ev.foldX (fun i s p => bif err i s p == 0 then .inr (st i s p) else .inl (err i s p, i, s)) 0 l s
def errE {σ : Type} : Sum (Int × Nat × σ) σ → Int
  | .inl x => x.1
  | .inr _ => 0
def errS {σ : Type} : Sum (Int × Nat × σ) σ → σ
  | .inl x => x.2.2
  | .inr s => s
def errI {σ : Type} (n : Nat) : Sum (Int × Nat × σ) σ → Nat
  | .inl x => x.2.1
  | .inr _ => n
def wyErr (r c : Int) (sh l : List Int) (i : Nat) (p : Int) : Int := bif wrongB r c p then 2 else bif has sh p then 20 else bif decide (0 < i) && !stepR c (l.getD (i - 1) 0) p then 7 else 0
def wyE (r c : Int) (sh l : List Int) : Int := bif decide (l.length = 0) then 4 else firstE (wyErr r c sh l) l
def orErr (r c : Int) (sh ya ti : List Int) (i : Nat) (out : List Int) (l : List Int) : Int :=
  bif wyE r c sh l != 0 then wyE r c sh l else bif (l.getD 0 0 != ya.getD i 0) || !has ti (lastI l) then 12 else bif has out (idx ti (lastI l)) then 6 else 0
def orX (r c : Int) (sh ya ti : List Int) (f : List (List Int)) : Sum (Int × Nat × List Int) (List Int) := errX (orErr r c sh ya ti) (fun _ out l => out ++ [(idx ti (lastI l) : Int)]) f []
def ordE (r c : Int) (sh ya ti : List Int) (f : List (List Int)) : Int := bif chk r c sh ya ti != 0 then chk r c sh ya ti else bif decide (f.length ≠ ya.length) then 5 else errE (orX r c sh ya ti f)
def ordL (r c : Int) (sh ya ti : List Int) (f : List (List Int)) : List Int := bif ordE r c sh ya ti f == 0 then errS (orX r c sh ya ti f) else []
def meetB (l m : List Int) : Bool := l.any fun x => has m x
end Lan
namespace Go.Ev.Lane
open Go Go.Ev
set_option maxRecDepth 1000000
set_option maxHeartbeats 0
set_option linter.unusedVariables false
abbrev osN (r k : Nat) : AV := .os r 0 0 k false false true
noncomputable def XE : Tab := { X2 with il := false, nest := true }
theorem nf97 (n : Int) : evBody XE 97 [.sc (.slice none 0 0), vi n] [] = (bif decide (n < 0) then none else bif decide (IntKind.i64.wrap (n - IntKind.i64.wrap ((↑0 : Int) - (↑0 : Int))) > 0) then bif decide (0 < IntKind.i64.wrap (n - IntKind.i64.wrap ((↑0 : Int) - (↑0 : Int)))) then bif room (IntKind.i64.wrap (n - IntKind.i64.wrap ((↑0 : Int) - (↑0 : Int)))).toNat 8 then some (.os 0 0 0 0 (match decide (0 = (IntKind.i64.wrap (n - IntKind.i64.wrap ((↑0 : Int) - (↑0 : Int)))).toNat) with | true => true | false => false) (match decide (0 = (IntKind.i64.wrap (n - IntKind.i64.wrap ((↑0 : Int) - (↑0 : Int)))).toNat) with | true => false | false => false) true, [some ⟨[.run (.int .i64) (List.replicate (IntKind.i64.wrap (n - IntKind.i64.wrap ((↑0 : Int) - (↑0 : Int)))).toNat 0)], false, 3, false, false, none⟩]) else none else none else some (.sc (.slice none 0 0), [])) := by kernel_rfl
def c97t (n : Int) : Tree (AV × Hp) := .br (decide (0 < n) && decide (n ≤ 100000)) (.leaf (osN 0 0, [some (rowI (List.replicate n.toNat 0) 3)])) .fail
def c97 (args : List AV) (H : Hp) : Tree (AV × Hp) := match args, H with
  | [.sc (.slice none 0 0), (.sc (.int .i64 n))], [] => c97t n
  | _, _ => .fail
theorem c97_ok {T : Tab} (hT : TabOK T) (h : ∀ (n : Int) (r : AV × Hp), (c97t n).val = some r → evBody T 97 [.sc (.slice none 0 0), vi n] [] = some r) : ∀ args H v H', (c97 args H).val = some (v, H') → CallOK T 97 args H v H' := by
  intro args H v H' hv
  unfold c97 at hv
  split at hv
  · exact evBody_sound hT (h _ _ hv)
  · cases hv
theorem nl84 (again : Ag) (l sh : List Int) (a b q i : Int) : lpStep X2 84 4 0 (lpc X2 84 4) again [lI l, ps 0, vi 0, lI l, vi q, vi i] [some (rP a b sh 24)] = (bif decide (i < q) then bif decide (0 ≤ i) then bif decide (i < (↑l.length : Int)) then oM l[i.toNat]? fun x => bif Lan.side a b then bif Lan.wrongB a b x then some (.ret, [.sl (.int .i64) l false, .ps 0 0 0 0, vi 2, .sl (.int .i64) l false, vi q, vi i], [some ⟨[vi a, vi b, .sl (.int .i64) sh false], true, 24, false, false, none⟩]) else bif sm sh then bif Lan.has sh x then some (.ret, [.sl (.int .i64) l false, .ps 0 0 0 0, vi 20, .sl (.int .i64) l false, vi q, vi i], [some ⟨[vi a, vi b, .sl (.int .i64) sh false], true, 24, false, false, none⟩]) else bif decide (i > 0) then bif decide (0 ≤ IntKind.i64.wrap (i - 1)) then bif decide (IntKind.i64.wrap (i - 1) < (↑l.length : Int)) then oM l[(IntKind.i64.wrap (i - 1)).toNat]? fun x_1 => bif Lan.side a b && decide (0 ≤ x_1) && decide (x_1 < 16) && decide (0 ≤ 0) && decide (0 < 65536) then bif sm (Lan.stP a b x_1 0) then bif !Lan.has (Lan.stP a b x_1 0) x then some (.ret, [.sl (.int .i64) l false, .ps 0 0 0 0, vi 7, .sl (.int .i64) l false, vi q, vi i], [some ⟨[vi a, vi b, .sl (.int .i64) sh false], true, 24, false, false, none⟩]) else again [.sl (.int .i64) l false, .ps 0 0 0 0, vi 0, .sl (.int .i64) l false, vi q, vi (IntKind.i64.wrap (i + 1))] [some ⟨[vi a, vi b, .sl (.int .i64) sh false], true, 24, false, false, none⟩] else none else none else none else none else again [.sl (.int .i64) l false, .ps 0 0 0 0, vi 0, .sl (.int .i64) l false, vi q, vi (IntKind.i64.wrap (i + 1))] [some ⟨[vi a, vi b, .sl (.int .i64) sh false], true, 24, false, false, none⟩] else none else none else none else none else some (.ext 0, [.sl (.int .i64) l false, .ps 0 0 0 0, vi 0, .sl (.int .i64) l false, vi q, vi i], [some ⟨[vi a, vi b, .sl (.int .i64) sh false], true, 24, false, false, none⟩])) := by kernel_rfl
theorem nl88 (again : Ag) (l : List Int) (n i : Int) : lpStep X2 88 2 0 (lpc X2 88 2) again [lI l, vi n, vi 0, vi i] [] = (bif decide (i < (↑l.length : Int)) then bif decide (0 ≤ i) then bif decide (i < (↑l.length : Int)) then oM l[i.toNat]? fun x => bif x == n then some (.ret, [.sl (.int .i64) l false, vi n, vi i, vi i], []) else again [.sl (.int .i64) l false, vi n, vi 0, vi (IntKind.i64.wrap (i + 1))] [] else none else none else some (.ext 0, [.sl (.int .i64) l false, vi n, vi 0, vi i], [])) := by kernel_rfl
theorem nl90 (again : Ag) (l m : List Int) (i : Int) : lpStep X2 90 2 0 (lpc X2 90 2) again [lI l, lI m, vb false, vi i] [] = (bif decide (i < (↑l.length : Int)) then bif decide (0 ≤ i) then bif decide (i < (↑l.length : Int)) then oM l[i.toNat]? fun x => bif sm m then bif Lan.has m x then some (.ret, [.sl (.int .i64) l false, .sl (.int .i64) m false, vb true, vi i], []) else again [.sl (.int .i64) l false, .sl (.int .i64) m false, vb false, vi (IntKind.i64.wrap (i + 1))] [] else none else none else none else some (.ext 0, [.sl (.int .i64) l false, .sl (.int .i64) m false, vb false, vi i], [])) := by kernel_rfl
theorem nl29 (again : Ag) (f : List (List Int)) (i : Int) : lpStep X2 29 4 0 (lpc X2 29 4) again [lL f, vb false, vi i] [] = (bif decide (i < (↑f.length : Int)) then bif decide (0 ≤ i) then bif decide (i < (↑f.length : Int)) then oM f[i.toNat]? fun x => bif decide ((↑(List.length x) : Int) > 40) then some (.ret, [.sl (.ilist .i64) f false, vb true, vi i], []) else again [.sl (.ilist .i64) f false, vb false, vi (IntKind.i64.wrap (i + 1))] [] else none else none else some (.ext 0, [.sl (.ilist .i64) f false, vb false, vi i], [])) := by kernel_rfl
def l84_4t (l l2 sh : List Int) (a b q : Int) : Tree (Out × List AV × Hp) := .br (decide (l2 = l) && decide (q = (l.length : Int)) && sm l && sm sh && Lan.side a b) (.br (Lan.firstE (Lan.wyErr a b sh l) l == 0) (.leaf (.ext 0, [lI l, ps 0, vi 0, lI l, vi l.length, vi l.length], [some (rP a b sh 24)])) (.leaf (.ret, [lI l, ps 0, vi (Lan.firstE (Lan.wyErr a b sh l) l), lI l, vi l.length, vi (Lan.firstI (Lan.wyErr a b sh l) l)], [some (rP a b sh 24)]))) .fail
def l84_4 (base : Nat) (kv : List AV) (H : Hp) : Tree (Out × List AV × Hp) := match Nat.beq base 0, kv, H with
  | true, [(.sl (.int .i64) l false), (.ps 0 0 0 0), (.sc (.int .i64 0)), (.sl (.int .i64) l2 false), (.sc (.int .i64 q)), (.sc (.int .i64 0))], [some ⟨[.sc (.int .i64 a), .sc (.int .i64 b), .sl (.int .i64) sh false], true, 24, false, false, none⟩] => l84_4t l l2 sh a b q
  | _, _, _ => .fail
theorem l84_4_ok {T : Tab} (hT : TabOK T) (hlo : loopOf T.fn 84 4 = some (lpc T 84 4)) (h : ∀ (l l2 sh : List Int) (a b q : Int) (r : Out × List AV × Hp), (l84_4t l l2 sh a b q).val = some r → ∃ mm, lpRun T 84 4 0 (lpc T 84 4) mm [lI l, ps 0, vi 0, lI l2, vi q, vi 0] [some (rP a b sh 24)] = some r) : ∀ base kv H o kv' H', (l84_4 base kv H).val = some (o, kv', H') → LoopOK T 84 4 base kv H o kv' H' := by
  intro base kv H o kv' H' hv
  unfold l84_4 at hv
  split at hv
  · rename_i hb
    obtain rfl := Nat.eq_of_beq_eq_true hb
    exact loop_ok hT hlo (h _ _ _ _ _ _ _ hv)
  · cases hv
def l88_2t (l : List Int) (n : Int) : Tree (Out × List AV × Hp) := .br (sm l) (.br (Lan.has l n) (.leaf (.ret, [lI l, vi n, vi (Lan.idx l n), vi (Lan.idx l n)], [])) (.leaf (.ext 0, [lI l, vi n, vi 0, vi l.length], []))) .fail
def l88_2 (base : Nat) (kv : List AV) (H : Hp) : Tree (Out × List AV × Hp) := match Nat.beq base 0, kv, H with
  | true, [(.sl (.int .i64) l false), (.sc (.int .i64 n)), (.sc (.int .i64 0)), (.sc (.int .i64 0))], [] => l88_2t l n
  | _, _, _ => .fail
theorem l88_2_ok {T : Tab} (hT : TabOK T) (hlo : loopOf T.fn 88 2 = some (lpc T 88 2)) (h : ∀ (l : List Int) (n : Int) (r : Out × List AV × Hp), (l88_2t l n).val = some r → ∃ mm, lpRun T 88 2 0 (lpc T 88 2) mm [lI l, vi n, vi 0, vi 0] [] = some r) : ∀ base kv H o kv' H', (l88_2 base kv H).val = some (o, kv', H') → LoopOK T 88 2 base kv H o kv' H' := by
  intro base kv H o kv' H' hv
  unfold l88_2 at hv
  split at hv
  · rename_i hb
    obtain rfl := Nat.eq_of_beq_eq_true hb
    exact loop_ok hT hlo (h _ _ _ hv)
  · cases hv
def l90_2t (l m : List Int) : Tree (Out × List AV × Hp) := .br (sm l && sm m) (.br (Lan.meetB l m) (.leaf (.ret, [lI l, lI m, vb true, vi (l.findIdx fun x => Lan.has m x)], [])) (.leaf (.ext 0, [lI l, lI m, vb false, vi l.length], []))) .fail
def l90_2 (base : Nat) (kv : List AV) (H : Hp) : Tree (Out × List AV × Hp) := match Nat.beq base 0, kv, H with
  | true, [(.sl (.int .i64) l false), (.sl (.int .i64) m false), (.sc (.bool false)), (.sc (.int .i64 0))], [] => l90_2t l m
  | _, _, _ => .fail
theorem l90_2_ok {T : Tab} (hT : TabOK T) (hlo : loopOf T.fn 90 2 = some (lpc T 90 2)) (h : ∀ (l m : List Int) (r : Out × List AV × Hp), (l90_2t l m).val = some r → ∃ mm, lpRun T 90 2 0 (lpc T 90 2) mm [lI l, lI m, vb false, vi 0] [] = some r) : ∀ base kv H o kv' H', (l90_2 base kv H).val = some (o, kv', H') → LoopOK T 90 2 base kv H o kv' H' := by
  intro base kv H o kv' H' hv
  unfold l90_2 at hv
  split at hv
  · rename_i hb
    obtain rfl := Nat.eq_of_beq_eq_true hb
    exact loop_ok hT hlo (h _ _ _ hv)
  · cases hv
def _root_.Lan.crowd (f : List (List Int)) : Bool := f.any fun l => decide (40 < l.length)
def l29_4t (f : List (List Int)) : Tree (Out × List AV × Hp) := .br (sm f) (.br (Lan.crowd f) (.leaf (.ret, [lL f, vb true, vi (f.findIdx fun l => decide (40 < l.length))], [])) (.leaf (.ext 0, [lL f, vb false, vi f.length], []))) .fail
def l29_4 (base : Nat) (kv : List AV) (H : Hp) : Tree (Out × List AV × Hp) := match Nat.beq base 0, kv, H with
  | true, [(.sl (.ilist .i64) f false), (.sc (.bool false)), (.sc (.int .i64 0))], [] => l29_4t f
  | _, _, _ => .fail
theorem l29_4_ok {T : Tab} (hT : TabOK T) (hlo : loopOf T.fn 29 4 = some (lpc T 29 4)) (h : ∀ (f : List (List Int)) (r : Out × List AV × Hp), (l29_4t f).val = some r → ∃ mm, lpRun T 29 4 0 (lpc T 29 4) mm [lL f, vb false, vi 0] [] = some r) : ∀ base kv H o kv' H', (l29_4 base kv H).val = some (o, kv', H') → LoopOK T 29 4 base kv H o kv' H' := by
  intro base kv H o kv' H' hv
  unfold l29_4 at hv
  split at hv
  · rename_i hb
    obtain rfl := Nat.eq_of_beq_eq_true hb
    exact loop_ok hT hlo (h _ _ hv)
  · cases hv
noncomputable def Y0 : Tab := X2
noncomputable def Y1 : Tab := (((((Y0).addCall 97 c97).addLoop 84 4 l84_4).addLoop 88 2 l88_2).addLoop 90 2 l90_2).addLoop 29 4 l29_4
theorem nf84 (l sh : List Int) (a b : Int) : evBody Y1 84 [aP a b sh, lI l] [] = (bif (↑l.length : Int) == 0 then some (vi 4, []) else bif decide (l = l) && decide ((↑l.length : Int) = (↑l.length : Int)) && sm l && sm sh && Lan.side a b then bif Lan.firstE (Lan.wyErr a b sh l) l == 0 then some (vi 0, []) else some (vi (Lan.firstE (Lan.wyErr a b sh l) l), []) else none) := by kernel_rfl
theorem nf88 (l : List Int) (n : Int) : evBody Y1 88 [lI l, vi n] [] = (bif sm l then bif Lan.has l n then some (vi (↑(Lan.idx l n) : Int), []) else some (vi (-1), []) else none) := by kernel_rfl
theorem nf90 (l m : List Int) : evBody Y1 90 [lI l, lI m] [] = (bif sm l && sm m then bif Lan.meetB l m then some (vb true, []) else some (vb false, []) else none) := by kernel_rfl
theorem nf29 (f : List (List Int)) : evBody Y1 29 [lL f] [] = (bif decide ((↑f.length : Int) > 20) then some (vb true, []) else bif sm f then bif Lan.crowd f then some (vb true, []) else some (vb false, []) else none) := by kernel_rfl
def c84t (l sh : List Int) (a b : Int) : Tree (AV × Hp) := .br (sm l && sm sh && Lan.side a b) (.leaf (vi (Lan.wyE a b sh l), [])) .fail
def c84 (args : List AV) (H : Hp) : Tree (AV × Hp) := match args, H with
  | [(.agg [.sc (.int .i64 a), .sc (.int .i64 b), .sl (.int .i64) sh false] false), (.sl (.int .i64) l false)], [] => c84t l sh a b
  | _, _ => .fail
theorem c84_ok {T : Tab} (hT : TabOK T) (h : ∀ (l sh : List Int) (a b : Int) (r : AV × Hp), (c84t l sh a b).val = some r → evBody T 84 [aP a b sh, lI l] [] = some r) : ∀ args H v H', (c84 args H).val = some (v, H') → CallOK T 84 args H v H' := by
  intro args H v H' hv
  unfold c84 at hv
  split at hv
  · exact evBody_sound hT (h _ _ _ _ _ hv)
  · cases hv
def c88t (l : List Int) (n : Int) : Tree (AV × Hp) := .br (sm l) (.leaf (vi (Lan.idxV l n), [])) .fail
def c88 (args : List AV) (H : Hp) : Tree (AV × Hp) := match args, H with
  | [(.sl (.int .i64) l false), (.sc (.int .i64 n))], [] => c88t l n
  | _, _ => .fail
theorem c88_ok {T : Tab} (hT : TabOK T) (h : ∀ (l : List Int) (n : Int) (r : AV × Hp), (c88t l n).val = some r → evBody T 88 [lI l, vi n] [] = some r) : ∀ args H v H', (c88 args H).val = some (v, H') → CallOK T 88 args H v H' := by
  intro args H v H' hv
  unfold c88 at hv
  split at hv
  · exact evBody_sound hT (h _ _ _ hv)
  · cases hv
def c90t (l m : List Int) : Tree (AV × Hp) := .br (sm l && sm m) (.leaf (vb (Lan.meetB l m), [])) .fail
def c90 (args : List AV) (H : Hp) : Tree (AV × Hp) := match args, H with
  | [(.sl (.int .i64) l false), (.sl (.int .i64) m false)], [] => c90t l m
  | _, _ => .fail
theorem c90_ok {T : Tab} (hT : TabOK T) (h : ∀ (l m : List Int) (r : AV × Hp), (c90t l m).val = some r → evBody T 90 [lI l, lI m] [] = some r) : ∀ args H v H', (c90 args H).val = some (v, H') → CallOK T 90 args H v H' := by
  intro args H v H' hv
  unfold c90 at hv
  split at hv
  · exact evBody_sound hT (h _ _ _ hv)
  · cases hv
def c29t (f : List (List Int)) : Tree (AV × Hp) := .leaf (vb (decide (20 < f.length) || Lan.crowd f), [])
def c29 (args : List AV) (H : Hp) : Tree (AV × Hp) := match args, H with
  | [(.sl (.ilist .i64) f false)], [] => c29t f
  | _, _ => .fail
theorem c29_ok {T : Tab} (hT : TabOK T) (h : ∀ (f : List (List Int)) (r : AV × Hp), (c29t f).val = some r → evBody T 29 [lL f] [] = some r) : ∀ args H v H', (c29 args H).val = some (v, H') → CallOK T 29 args H v H' := by
  intro args H v H' hv
  unfold c29 at hv
  split at hv
  · exact evBody_sound hT (h _ _ hv)
  · cases hv
noncomputable def YE : Tab := { Y1 with il := false, nest := true }
theorem nl46_3 (again : Ag) (f : List (List Int)) (s q i : Int) : lpStep YE 46 3 0 (lpc YE 46 3) again [lL f, vi s, lL f, vi q, vi i] [] = (bif decide (i < q) then bif decide (0 ≤ i) then bif decide (i < (↑f.length : Int)) then oM f[i.toNat]? fun x => bif decide (IntKind.i64.wrap (s + (↑(List.length x) : Int)) < 0) then none else again [.sl (.ilist .i64) f false, vi (IntKind.i64.wrap (s + (↑(List.length x) : Int))), .sl (.ilist .i64) f false, vi q, vi (IntKind.i64.wrap (i + 1))] [] else none else none else some (.ext 0, [.sl (.ilist .i64) f false, vi s, .sl (.ilist .i64) f false, vi q, vi i], [])) := by kernel_rfl
theorem nl46_11 (again : Ag) (f : List (List Int)) (k : Nat) (R : List Int) (q i : Int) : lpStep YE 46 11 0 (lpc YE 46 11) again [osN 0 k, lL f, vi q, vi i] [some (rowI R 3)] = (bif decide (i < q) then bif decide (0 ≤ i) then bif decide (i < (↑f.length : Int)) then oM f[i.toNat]? fun x => bif decide (0 + k + List.length x ≤ R.length) then again [.os 0 0 0 (k + List.length x) false false true, .sl (.ilist .i64) f false, vi q, vi (IntKind.i64.wrap (i + 1))] [some ⟨[.run (.int .i64) (List.take (0 + k) R ++ List.take (List.length x) x ++ List.drop (0 + k + List.length x) R)], false, 3, false, false, none⟩] else none else none else none else some (.ext 2, [.os 0 0 0 k false false true, .sl (.ilist .i64) f false, vi q, vi i], [some ⟨[.run (.int .i64) R], false, 3, false, false, none⟩])) := by kernel_rfl
def l46_3t (f g : List (List Int)) (q : Int) : Tree (Out × List AV × Hp) := .br (decide (g = f) && decide (q = (f.length : Int)) && sm f && sm f.flatten) (.leaf (.ext 0, [lL f, vi f.flatten.length, lL f, vi f.length, vi f.length], [])) .fail
def l46_3 (base : Nat) (kv : List AV) (H : Hp) : Tree (Out × List AV × Hp) := match Nat.beq base 0, kv, H with
  | true, [(.sl (.ilist .i64) f false), (.sc (.int .i64 0)), (.sl (.ilist .i64) g false), (.sc (.int .i64 q)), (.sc (.int .i64 0))], [] => l46_3t f g q
  | _, _, _ => .fail
theorem l46_3_ok {T : Tab} (hT : TabOK T) (hlo : loopOf T.fn 46 3 = some (lpc T 46 3)) (h : ∀ (f g : List (List Int)) (q : Int) (r : Out × List AV × Hp), (l46_3t f g q).val = some r → ∃ mm, lpRun T 46 3 0 (lpc T 46 3) mm [lL f, vi 0, lL g, vi q, vi 0] [] = some r) : ∀ base kv H o kv' H', (l46_3 base kv H).val = some (o, kv', H') → LoopOK T 46 3 base kv H o kv' H' := by
  intro base kv H o kv' H' hv
  unfold l46_3 at hv
  split at hv
  · rename_i hb
    obtain rfl := Nat.eq_of_beq_eq_true hb
    exact loop_ok hT hlo (h _ _ _ _ hv)
  · cases hv
def l46_11t (f : List (List Int)) (k : Nat) (R : List Int) (q : Int) : Tree (Out × List AV × Hp) := .br (decide (k = 0) && decide (q = (f.length : Int)) && sm f && sm f.flatten && decide (R = List.replicate f.flatten.length 0)) (.leaf (.ext 2, [osN 0 f.flatten.length, lL f, vi f.length, vi f.length], [some (rowI f.flatten 3)])) .fail
def l46_11 (base : Nat) (kv : List AV) (H : Hp) : Tree (Out × List AV × Hp) := match Nat.beq base 0, kv, H with
  | true, [(.os 0 0 0 k false false true), (.sl (.ilist .i64) f false), (.sc (.int .i64 q)), (.sc (.int .i64 0))], [some ⟨[.run (.int .i64) R], false, 3, false, false, none⟩] => l46_11t f k R q
  | _, _, _ => .fail
theorem l46_11_ok {T : Tab} (hT : TabOK T) (hlo : loopOf T.fn 46 11 = some (lpc T 46 11)) (h : ∀ (f : List (List Int)) (k : Nat) (R : List Int) (q : Int) (r : Out × List AV × Hp), (l46_11t f k R q).val = some r → ∃ mm, lpRun T 46 11 0 (lpc T 46 11) mm [osN 0 k, lL f, vi q, vi 0] [some (rowI R 3)] = some r) : ∀ base kv H o kv' H', (l46_11 base kv H).val = some (o, kv', H') → LoopOK T 46 11 base kv H o kv' H' := by
  intro base kv H o kv' H' hv
  unfold l46_11 at hv
  split at hv
  · rename_i hb
    obtain rfl := Nat.eq_of_beq_eq_true hb
    exact loop_ok hT hlo (h _ _ _ _ _ hv)
  · cases hv
noncomputable def Y2 : Tab := ((YE).addLoop 46 3 l46_3).addLoop 46 11 l46_11
theorem nf46 (f : List (List Int)) : evBody Y2 46 [lL f] [] = (bif decide (f = f) && decide ((↑f.length : Int) = (↑f.length : Int)) && sm f && sm f.flatten then bif decide (0 < (↑f.flatten.length : Int)) && decide ((↑f.flatten.length : Int) ≤ 100000) then bif decide (0 = 0) && decide ((↑f.length : Int) = (↑f.length : Int)) && sm f && sm f.flatten && decide (List.replicate (↑f.flatten.length : Int).toNat (0 : Int) = List.replicate f.flatten.length (0 : Int)) then some (.os 0 0 0 f.flatten.length false false true, [some ⟨[.run (.int .i64) f.flatten], false, 3, false, false, none⟩]) else none else none else none) := by kernel_rfl
def c46t (f : List (List Int)) : Tree (AV × Hp) := .br (sm f && sm f.flatten && decide (0 < f.flatten.length)) (.leaf (osN 0 f.flatten.length, [some (rowI f.flatten 3)])) .fail
def c46 (args : List AV) (H : Hp) : Tree (AV × Hp) := match args, H with
  | [(.sl (.ilist .i64) f false)], [] => c46t f
  | _, _ => .fail
theorem c46_ok {T : Tab} (hT : TabOK T) (h : ∀ (f : List (List Int)) (r : AV × Hp), (c46t f).val = some r → evBody T 46 [lL f] [] = some r) : ∀ args H v H', (c46 args H).val = some (v, H') → CallOK T 46 args H v H' := by
  intro args H v H' hv
  unfold c46 at hv
  split at hv
  · exact evBody_sound hT (h _ _ hv)
  · cases hv
noncomputable def Y3 : Tab := (((((Y1).addCall 84 c84).addCall 88 c88).addCall 90 c90).addCall 29 c29).addCall 46 c46
end Go.Ev.Lane
namespace Go.Ev.Lane
open Go Go.Ev
set_option maxRecDepth 1000000
set_option linter.unusedVariables false
set_option linter.unusedSimpArgs false
theorem err_of {T : Tab} {fid lid base : Nat} {c : Code} {σ β : Type} (l : List β) (err : Nat → σ → β → Int) (st : Nat → σ → β → σ) (Inv : Nat → σ → Prop) (S : Int → σ → List AV) (SH : σ → Hp) (R : Int → Nat → σ → Out × List AV × Hp) (E : σ → Out × List AV × Hp)
    (h : ∀ (i : Nat) x s, l[i]? = some x → i < l.length → Inv i s → ∀ again : Ag, lpStep T fid lid base c again (S i s) (SH s) = bif err i s x == 0 then again (S ((i + 1 : Nat) : Int) (st i s x)) (SH (st i s x)) else some (R (err i s x) i s))
    (hi : ∀ (i : Nat) x s, l[i]? = some x → i < l.length → Inv i s → err i s x = 0 → Inv (i + 1) (st i s x))
    (he : ∀ s, Inv l.length s → ∀ again : Ag, lpStep T fid lid base c again (S (l.length : Nat) s) (SH s) = some (E s)) (s0 : σ) (h0 : Inv 0 s0) :
    ∃ m, lpRun T fid lid base c m (S 0 s0) (SH s0) = some (bif Lan.errE (Lan.errX err st l s0) == 0 then E (Lan.errS (Lan.errX err st l s0)) else R (Lan.errE (Lan.errX err st l s0)) (Lan.errI 0 (Lan.errX err st l s0)) (Lan.errS (Lan.errX err st l s0))) := by
  obtain ⟨m, hm⟩ := each_of (T := T) (fid := fid) (lid := lid) (base := base) (c := c) l Inv (fun i s p => bif err i s p == 0 then .inr (st i s p) else .inl (R (err i s p) i s)) S SH E
    (fun i x s hx hlt hI again => by
      rw [h i x s hx hlt hI]
      cases err i s x == 0 <;> rfl)
    (fun i x s s' hx hlt hI hf => by
      cases he : err i s x == 0 with
      | true => rw [he] at hf; cases hf; exact hi i x s hx hlt hI (beq_iff_eq.1 he)
      | false => rw [he] at hf; cases hf) he s0 h0
  refine ⟨m, hm.trans (congrArg some ?_)⟩
  have main : ∀ (l : List β) (i : Nat) (s : σ), endX E (foldX (fun i s p => bif err i s p == 0 then .inr (st i s p) else .inl (R (err i s p) i s)) i l s) =
      bif Lan.errE (foldX (fun i s p => bif err i s p == 0 then .inr (st i s p) else .inl (err i s p, i, s)) i l s) == 0 then E (Lan.errS (foldX (fun i s p => bif err i s p == 0 then .inr (st i s p) else .inl (err i s p, i, s)) i l s))
      else R (Lan.errE (foldX (fun i s p => bif err i s p == 0 then .inr (st i s p) else .inl (err i s p, i, s)) i l s)) (Lan.errI 0 (foldX (fun i s p => bif err i s p == 0 then .inr (st i s p) else .inl (err i s p, i, s)) i l s)) (Lan.errS (foldX (fun i s p => bif err i s p == 0 then .inr (st i s p) else .inl (err i s p, i, s)) i l s)) := by
    intro l
    induction l with
    | nil => intro i s; rfl
    | cons x l ih =>
      intro i s
      simp only [foldX]
      cases he : err i s x == 0 with
      | true => exact ih (i + 1) (st i s x)
      | false =>
        simp only [cond_false, endX, Lan.errE, Lan.errI, Lan.errS, he]
  exact main l 0 s0
theorem first_inv {T : Tab} {fid lid base : Nat} {c : Code} {β : Type} (l : List β) (err : Nat → β → Int) (S : Int → List AV) (H : Hp) (R : Int → Nat → Out × List AV × Hp) (E : Out × List AV × Hp)
    (h : ∀ (i : Nat) x, l[i]? = some x → i < l.length → (∀ j y, j < i → l[j]? = some y → err j y = 0) → ∀ again : Ag, lpStep T fid lid base c again (S i) H = bif err i x == 0 then again (S ((i + 1 : Nat) : Int)) H else some (R (err i x) i))
    (he : ∀ again : Ag, lpStep T fid lid base c again (S (l.length : Nat)) H = some E) :
    ∃ m, lpRun T fid lid base c m (S 0) H = some (bif Lan.firstE err l == 0 then E else R (Lan.firstE err l) (Lan.firstI err l)) := by
  obtain ⟨m, hm⟩ := each_of (T := T) (fid := fid) (lid := lid) (base := base) (c := c) (σ := Unit) l (fun i _ => ∀ j y, j < i → l[j]? = some y → err j y = 0) (fun i _ p => bif err i p == 0 then .inr () else .inl (R (err i p) i)) (fun i _ => S i) (fun _ => H) (fun _ => E)
    (fun i x s hx hlt hI again => by
      rw [h i x hx hlt hI]
      cases err i x == 0 <;> rfl)
    (fun i x s s' hx hlt hI hf j y hj hy => by
      rcases Nat.lt_succ_iff_lt_or_eq.1 hj with h1 | rfl
      · exact hI j y h1 hy
      · rw [hx] at hy
        cases hy
        cases he : err j x == 0 with
        | true => exact beq_iff_eq.1 he
        | false => rw [he] at hf; cases hf)
    (fun _ _ again => he again) () (fun j y hj => absurd hj (Nat.not_lt_zero j))
  refine ⟨m, hm.trans (congrArg some ?_)⟩
  rw [Lan.foldX_to err R E l 0]
  unfold Lan.firstE Lan.firstI Lan.firstX
  cases hf : Ev.foldX (fun i (_ : Unit) p => bif err i p == 0 then .inr () else .inl (err i p, i)) 0 l () with
  | inl x => simp only [Lan.firstX_ne err l 0 x hf, cond_false]
  | inr _ => rfl
theorem Y0_ok : TabOK Y0 := X2_ok
theorem XE_ok : TabOK XE := mode_ok X2_ok
theorem c97_run : ∀ args H v H', (c97 args H).val = some (v, H') → CallOK Y0 97 args H v H' := fun a H v H' hv => by
  refine CallOK.tab ?_ ?_ (c97_ok XE_ok (by
    intro n r hv
    obtain ⟨hl, hv2⟩ := guard_val hv
    simp only [Bool.and_eq_true, decide_eq_true_eq] at hl
    rw [nf97, leaf_val hv2, decide_eq_false (show ¬ n < 0 by omega)]
    have e : IntKind.i64.wrap (n - IntKind.i64.wrap (0 - 0)) = n := by
      rw [show IntKind.i64.wrap (0 - 0) = 0 from rfl, wrapi (by omega) (by omega)]; omega
    obtain ⟨m, rfl⟩ := Int.eq_ofNat_of_zero_le (show 0 ≤ n by omega)
    rw [e, toNat_cast, decide_eq_true (show (m : Int) > 0 by omega), room_ok (by omega) (by omega), decide_eq_false (show ¬ 0 = m by omega)]
    rfl) a H v H' hv) <;> rfl
def stepsSame : Bool := (List.range 5).all fun a => (List.range 5).all fun b => (List.range 16).all fun x => (List.range 16).all fun y =>
  !(decide (1 ≤ a) && decide (1 ≤ b) && decide (x < a * b) && decide (y < a * b)) || (Lan.has (Lan.stP (a : Nat) (b : Nat) (x : Nat) 0) (y : Nat) == Lan.stepR (b : Nat) (x : Nat) (y : Nat))
theorem stepsSame_yes : stepsSame = true := by decide +kernel
theorem stP_step {a b x y : Int} (hs : Lan.side a b = true) (hx : Lan.wrongB a b x = false) (hy : Lan.wrongB a b y = false) : Lan.has (Lan.stP a b x 0) y = Lan.stepR b x y := by
  obtain ⟨h1, h2, h3, h4⟩ := side_yes hs
  unfold Lan.wrongB at hx hy
  simp only [Bool.or_eq_false_iff, decide_eq_false_iff_not] at hx hy
  have hab : a * b ≤ 16 := (Lan.wrong_wrap hs).2.2
  have key : ∀ a b x y : Nat, a < 5 → b < 5 → x < 16 → y < 16 → 1 ≤ a → 1 ≤ b → x < a * b → y < a * b → Lan.has (Lan.stP a b x 0) y = Lan.stepR b x y := by
    intro a b x y h1 h2 h3 h4 h5 h6 h7 h8
    have h := stepsSame_yes
    unfold stepsSame at h
    simp only [List.all_eq_true, List.mem_range] at h
    have := h a h1 b h2 x h3 y h4
    rw [decide_eq_true h5, decide_eq_true h6, decide_eq_true h7, decide_eq_true h8] at this
    exact beq_iff_eq.1 this
  obtain ⟨a, rfl⟩ := Int.eq_ofNat_of_zero_le (show 0 ≤ a by omega)
  obtain ⟨b, rfl⟩ := Int.eq_ofNat_of_zero_le (show 0 ≤ b by omega)
  obtain ⟨x, rfl⟩ := Int.eq_ofNat_of_zero_le (show 0 ≤ x by omega)
  obtain ⟨y, rfl⟩ := Int.eq_ofNat_of_zero_le (show 0 ≤ y by omega)
  have e : ((a : Int) * (b : Int)) = ((a * b : Nat) : Int) := by simp
  rw [e] at hx hy hab
  exact key a b x y (by omega) (by omega) (by omega) (by omega) (by omega) (by omega) (by omega) (by omega)
theorem wy_ok {r c : Int} {sh l : List Int} {i : Nat} {p : Int} (h : Lan.wyErr r c sh l i p = 0) : Lan.wrongB r c p = false := by
  unfold Lan.wyErr at h
  cases hw : Lan.wrongB r c p with
  | false => rfl
  | true => rw [hw] at h; cases h
theorem stP_sm (a b x : Int) (s : Nat) : sm (Lan.stP a b x s) = true := decide_eq_true (by have := Lan.st_len a b x s; omega)
theorem wrong16 {a b x : Int} (hs : Lan.side a b = true) (h : Lan.wrongB a b x = false) : 0 ≤ x ∧ x < 16 ∧ x < a * b := by
  have hab : a * b ≤ 16 := (Lan.wrong_wrap hs).2.2
  unfold Lan.wrongB at h
  simp only [Bool.or_eq_false_iff, decide_eq_false_iff_not] at h
  omega
theorem l84_4_run : ∀ base kv H o kv' H', (l84_4 base kv H).val = some (o, kv', H') → LoopOK Y0 84 4 base kv H o kv' H' := l84_4_ok Y0_ok (by kernel_rfl) (by
  intro l l2 sh a b q r hv
  obtain ⟨hl, hv2⟩ := guard_val hv
  simp only [Bool.and_eq_true, decide_eq_true_eq] at hl
  obtain ⟨⟨⟨⟨rfl, rfl⟩, hsm⟩, hsh⟩, hs⟩ := hl
  have hsm0 := sm_le hsm
  obtain ⟨mm, hm⟩ := first_inv (T := Y0) (fid := 84) (lid := 4) (base := 0) (c := lpc Y0 84 4) l2 (Lan.wyErr a b sh l2) (fun i => [lI l2, ps 0, vi 0, lI l2, vi l2.length, vi i]) [some (rP a b sh 24)]
    (fun e i => (.ret, [lI l2, ps 0, vi e, lI l2, vi l2.length, vi i], [some (rP a b sh 24)])) (.ext 0, [lI l2, ps 0, vi 0, lI l2, vi l2.length, vi l2.length], [some (rP a b sh 24)])
    (fun i x hx hlt hI again => by
      refine (nl84 ..).trans ?_
      simp only [dec_lt hlt, dec_ge, cond_true, toNat_cast, hx, oM, hs, hsh]
      unfold Lan.wyErr
      rw [wrap_succ (by omega)]
      cases hw : Lan.wrongB a b x with
      | true => rfl
      | false =>
        cases Lan.has sh x with
        | true => rfl
        | false =>
          cases i with
          | zero => rfl
          | succ i =>
            have hg := getD_ln (0 : Int) (show i < l2.length by omega)
            have hwp := wy_ok (hI i _ (by omega) hg)
            obtain ⟨p0, p1, p2⟩ := wrong16 hs hwp
            rw [wrapi (x := ((i + 1 : Nat) : Int) - 1) (by omega) (by omega), show ((i + 1 : Nat) : Int) - 1 = (i : Int) by omega]
            simp only [decide_eq_true (show ((i + 1 : Nat) : Int) > 0 by omega), cond_true, cond_false, dec_ge, decide_eq_true (show (i : Int) < (l2.length : Int) by omega), toNat_cast, hg, decide_eq_true (show 0 < i + 1 by omega), Nat.add_sub_cancel, Bool.true_and, decide_eq_true p0, decide_eq_true p1, Bool.and_self, show decide ((0 : Int) ≤ 0) = true from rfl, show decide ((0 : Int) < 65536) = true from rfl, stP_sm, stP_step hs hwp hw]
            cases Lan.stepR b (l2.getD i 0) x <;> rfl)
    (fun again => by
      refine (nl84 ..).trans ?_
      simp only [dec_ll, cond_false])
  refine ⟨mm, hm.trans ?_⟩
  rcases br_val hv2 with ⟨h, hv⟩ | ⟨h, hv⟩ <;> (rw [h, leaf_val hv]; rfl))
theorem l88_2_run : ∀ base kv H o kv' H', (l88_2 base kv H).val = some (o, kv', H') → LoopOK Y0 88 2 base kv H o kv' H' := l88_2_ok Y0_ok (by kernel_rfl) (by
  intro l n r hv
  obtain ⟨hl, hv2⟩ := guard_val hv
  have hsm := sm_le hl
  obtain ⟨mm, hm⟩ := scan_of (T := Y0) (fid := 88) (lid := 2) (base := 0) (c := lpc Y0 88 2) l (fun x => x == n) (fun i => [lI l, vi n, vi 0, vi i]) []
    (fun i => (.ret, [lI l, vi n, vi i, vi i], [])) (.ext 0, [lI l, vi n, vi 0, vi l.length], [])
    (fun i x hx hlt again => by
      refine (nl88 ..).trans ?_
      simp only [dec_lt hlt, dec_ge, cond_true, toNat_cast, hx, oM]
      rw [wrap_succ (by omega)])
    (fun again => by
      refine (nl88 ..).trans ?_
      simp only [dec_ll, cond_false])
  refine ⟨mm, hm.trans ?_⟩
  have e : (l.findIdx fun x => x == n) = Lan.idx l n := by
    unfold Lan.idx
    congr 1
    funext x
    exact Bool.beq_comm
  rw [e]
  have e2 : (l.any fun x => x == n) = Lan.has l n := rfl
  rw [e2]
  rcases br_val hv2 with ⟨h, hv⟩ | ⟨h, hv⟩ <;> (rw [h, leaf_val hv]; rfl))
theorem l90_2_run : ∀ base kv H o kv' H', (l90_2 base kv H).val = some (o, kv', H') → LoopOK Y0 90 2 base kv H o kv' H' := l90_2_ok Y0_ok (by kernel_rfl) (by
  intro l m r hv
  obtain ⟨hl, hv2⟩ := guard_val hv
  rw [Bool.and_eq_true] at hl
  have hsm := sm_le hl.1
  obtain ⟨mm, hm⟩ := scan_of (T := Y0) (fid := 90) (lid := 2) (base := 0) (c := lpc Y0 90 2) l (fun x => Lan.has m x) (fun i => [lI l, lI m, vb false, vi i]) []
    (fun i => (.ret, [lI l, lI m, vb true, vi i], [])) (.ext 0, [lI l, lI m, vb false, vi l.length], [])
    (fun i x hx hlt again => by
      refine (nl90 ..).trans ?_
      simp only [dec_lt hlt, dec_ge, cond_true, toNat_cast, hx, oM, hl.2]
      rw [wrap_succ (by omega)])
    (fun again => by
      refine (nl90 ..).trans ?_
      simp only [dec_ll, cond_false])
  refine ⟨mm, hm.trans ?_⟩
  unfold Lan.meetB at hv2
  rcases br_val hv2 with ⟨h, hv⟩ | ⟨h, hv⟩ <;> (rw [h, leaf_val hv]; rfl))
theorem gt40 (n : Nat) : decide ((n : Int) > 40) = decide (40 < n) := by rw [decide_eq_decide]; omega
theorem l29_4_run : ∀ base kv H o kv' H', (l29_4 base kv H).val = some (o, kv', H') → LoopOK Y0 29 4 base kv H o kv' H' := l29_4_ok Y0_ok (by kernel_rfl) (by
  intro f r hv
  obtain ⟨hl, hv2⟩ := guard_val hv
  have hsm := sm_le hl
  obtain ⟨mm, hm⟩ := scan_of (T := Y0) (fid := 29) (lid := 4) (base := 0) (c := lpc Y0 29 4) f (fun l => decide (40 < l.length)) (fun i => [lL f, vb false, vi i]) []
    (fun i => (.ret, [lL f, vb true, vi i], [])) (.ext 0, [lL f, vb false, vi f.length], [])
    (fun i x hx hlt again => by
      refine (nl29 ..).trans ?_
      simp only [dec_lt hlt, dec_ge, cond_true, toNat_cast, hx, oM, gt40]
      rw [wrap_succ (by omega)])
    (fun again => by
      refine (nl29 ..).trans ?_
      simp only [dec_ll, cond_false])
  refine ⟨mm, hm.trans ?_⟩
  unfold Lan.crowd at hv2
  rcases br_val hv2 with ⟨h, hv⟩ | ⟨h, hv⟩ <;> (rw [h, leaf_val hv]; rfl))
theorem Y1_ok : TabOK Y1 := by
  have h := Y0_ok
  have h := h.addCall (g := 97) (r := c97) fun a H v H' hv => by refine CallOK.tab ?_ ?_ (c97_run a H v H' hv) <;> rfl
  have h := h.addLoop (g := 84) (lid := 4) (r := l84_4) fun b k H o k' H' hv => by refine LoopOK.tab ?_ ?_ ?_ ?_ (l84_4_run b k H o k' H' hv) <;> rfl
  have h := h.addLoop (g := 88) (lid := 2) (r := l88_2) fun b k H o k' H' hv => by refine LoopOK.tab ?_ ?_ ?_ ?_ (l88_2_run b k H o k' H' hv) <;> rfl
  have h := h.addLoop (g := 90) (lid := 2) (r := l90_2) fun b k H o k' H' hv => by refine LoopOK.tab ?_ ?_ ?_ ?_ (l90_2_run b k H o k' H' hv) <;> rfl
  have h := h.addLoop (g := 29) (lid := 4) (r := l29_4) fun b k H o k' H' hv => by refine LoopOK.tab ?_ ?_ ?_ ?_ (l29_4_run b k H o k' H' hv) <;> rfl
  exact h
theorem c84_run : ∀ args H v H', (c84 args H).val = some (v, H') → CallOK Y1 84 args H v H' := c84_ok Y1_ok (by
  intro l sh a b r hv
  obtain ⟨hl, hv2⟩ := guard_val hv
  simp only [Bool.and_eq_true] at hl
  obtain ⟨⟨h1, h2⟩, h3⟩ := hl
  refine (nf84 ..).trans ?_
  rw [leaf_val hv2, len_z]
  unfold Lan.wyE
  cases decide (l.length = 0) with
  | true => rfl
  | false =>
    simp only [h1, h2, h3, decide_true, Bool.and_self, cond_true, cond_false]
    cases h : Lan.firstE (Lan.wyErr a b sh l) l == 0 with
    | true => rw [beq_iff_eq.1 h]; rfl
    | false => rfl)
theorem c88_run : ∀ args H v H', (c88 args H).val = some (v, H') → CallOK Y1 88 args H v H' := c88_ok Y1_ok (by
  intro l n r hv
  obtain ⟨hl, hv2⟩ := guard_val hv
  refine (nf88 ..).trans ?_
  rw [hl, leaf_val hv2]
  unfold Lan.idxV
  cases Lan.has l n <;> rfl)
theorem c90_run : ∀ args H v H', (c90 args H).val = some (v, H') → CallOK Y1 90 args H v H' := c90_ok Y1_ok (by
  intro l m r hv
  obtain ⟨hl, hv2⟩ := guard_val hv
  refine (nf90 ..).trans ?_
  rw [hl, leaf_val hv2]
  cases Lan.meetB l m <;> rfl)
theorem c29_run : ∀ args H v H', (c29 args H).val = some (v, H') → CallOK Y1 29 args H v H' := c29_ok Y1_ok (by
  intro f r hv
  refine (nf29 ..).trans ?_
  rw [leaf_val hv, show decide ((f.length : Int) > 20) = decide (20 < f.length) by rw [decide_eq_decide]; omega]
  cases hd : decide (20 < f.length) with
  | true => rfl
  | false =>
    have := of_decide_eq_false hd
    rw [show sm f = true from decide_eq_true (by omega)]
    cases Lan.crowd f <;> rfl)
theorem YE_ok : TabOK YE := mode_ok Y1_ok
theorem flat_take {f : List (List Int)} {i : Nat} {x : List Int} (hx : f[i]? = some x) : (f.take (i + 1)).flatten = (f.take i).flatten ++ x := by
  rw [List.take_add_one, hx, List.flatten_append]
  simp
theorem flat_le (f : List (List Int)) (i : Nat) : (f.take i).flatten.length ≤ f.flatten.length := by
  have h : f.flatten = (f.take i).flatten ++ (f.drop i).flatten := by rw [← List.flatten_append, List.take_append_drop]
  rw [h, List.length_append]; omega
theorem l46_3_run : ∀ base kv H o kv' H', (l46_3 base kv H).val = some (o, kv', H') → LoopOK YE 46 3 base kv H o kv' H' := l46_3_ok YE_ok (by kernel_rfl) (by
  intro f g q r hv
  obtain ⟨hl, hv2⟩ := guard_val hv
  simp only [Bool.and_eq_true, decide_eq_true_eq] at hl
  obtain ⟨⟨⟨rfl, rfl⟩, hsm⟩, hfl⟩ := hl
  have hsm := sm_le hsm
  have hfl := sm_le hfl
  obtain ⟨mm, hm⟩ := steps_of (T := YE) (fid := 46) (lid := 3) (base := 0) (c := lpc YE 46 3) g.length (fun i => [lL g, vi (g.take i).flatten.length, lL g, vi g.length, vi (i : Nat)]) (fun _ => []) (.ext 0, [lL g, vi g.flatten.length, lL g, vi g.length, vi g.length], [])
    (fun i hi again => by
      have hg : g[i]? = some g[i] := List.getElem?_eq_getElem hi
      have h1 := flat_le g (i + 1)
      rw [flat_take hg, List.length_append] at h1
      refine (nl46_3 ..).trans ?_
      rw [flat_take hg, List.length_append, wrap_succ (by omega)]
      simp only [dec_lt hi, dec_ge, toNat_cast, hg, oM, cond_true]
      rw [wrapi (by omega) (by omega), decide_eq_false (by omega), cond_false]
      rfl)
    (fun again => by
      refine (nl46_3 ..).trans ?_
      simp only [dec_ll, cond_false, List.take_length])
  exact ⟨mm, hm.trans (by rw [leaf_val hv2])⟩)
theorem l46_11_run : ∀ base kv H o kv' H', (l46_11 base kv H).val = some (o, kv', H') → LoopOK YE 46 11 base kv H o kv' H' := l46_11_ok YE_ok (by kernel_rfl) (by
  intro f k R q r hv
  obtain ⟨hl, hv2⟩ := guard_val hv
  simp only [Bool.and_eq_true, decide_eq_true_eq] at hl
  obtain ⟨⟨⟨⟨rfl, rfl⟩, hsm⟩, hfl⟩, rfl⟩ := hl
  have hsm := sm_le hsm
  have hfl := sm_le hfl
  obtain ⟨mm, hm⟩ := steps_of (T := YE) (fid := 46) (lid := 11) (base := 0) (c := lpc YE 46 11) f.length (fun i => [osN 0 (f.take i).flatten.length, lL f, vi f.length, vi (i : Nat)])
    (fun i => [some (rowI ((f.take i).flatten ++ List.replicate (f.flatten.length - (f.take i).flatten.length) 0) 3)]) (.ext 2, [osN 0 f.flatten.length, lL f, vi f.length, vi f.length], [some (rowI f.flatten 3)])
    (fun i hi again => by
      have hg : f[i]? = some f[i] := List.getElem?_eq_getElem hi
      have h1 := flat_le f (i + 1)
      rw [flat_take hg, List.length_append] at h1
      refine (nl46_11 ..).trans ?_
      rw [flat_take hg, List.length_append, wrap_succ (by omega)]
      simp only [dec_lt hi, dec_ge, toNat_cast, hg, oM, cond_true, Nat.zero_add, List.length_append, List.length_replicate]
      have hd : List.drop ((f.take i).flatten.length + f[i].length) ((f.take i).flatten ++ List.replicate (f.flatten.length - (f.take i).flatten.length) (0 : Int)) = List.replicate (f.flatten.length - ((f.take i).flatten.length + f[i].length)) 0 := by
        rw [← List.drop_drop, List.drop_left, List.drop_replicate, Nat.sub_sub]
      rw [decide_eq_true (by omega), cond_true, List.take_left' rfl, List.take_length, hd])
    (fun again => by
      refine (nl46_11 ..).trans ?_
      simp only [dec_ll, cond_false, List.take_length, Nat.sub_self, List.replicate_zero, List.append_nil])
  refine ⟨mm, Eq.trans ?_ (hm.trans (by rw [leaf_val hv2]))⟩
  simp)
theorem Y2_ok : TabOK Y2 := by
  have h := YE_ok
  have h := h.addLoop (g := 46) (lid := 3) (r := l46_3) fun b k H o k' H' hv => by refine LoopOK.tab ?_ ?_ ?_ ?_ (l46_3_run b k H o k' H' hv) <;> rfl
  have h := h.addLoop (g := 46) (lid := 11) (r := l46_11) fun b k H o k' H' hv => by refine LoopOK.tab ?_ ?_ ?_ ?_ (l46_11_run b k H o k' H' hv) <;> rfl
  exact h
theorem c46_run : ∀ args H v H', (c46 args H).val = some (v, H') → CallOK Y1 46 args H v H' := fun a H v H' hv => by
  refine CallOK.tab ?_ ?_ (c46_ok Y2_ok (by
    intro f r hv
    obtain ⟨hl, hv2⟩ := guard_val hv
    simp only [Bool.and_eq_true, decide_eq_true_eq] at hl
    obtain ⟨⟨h1, h2⟩, h3⟩ := hl
    have hfl := sm_le h2
    rw [nf46, leaf_val hv2]
    simp only [h1, h2, decide_true, Bool.and_self, cond_true, toNat_cast, decide_eq_true (show (0 : Int) < (f.flatten.length : Int) by omega), decide_eq_true (show (f.flatten.length : Int) ≤ 100000 by omega)]) a H v H' hv) <;> rfl
theorem Y3_ok : TabOK Y3 := by
  have h := Y1_ok
  have h := h.addCall (g := 84) (r := c84) fun a H v H' hv => by refine CallOK.tab ?_ ?_ (c84_run a H v H' hv) <;> rfl
  have h := h.addCall (g := 88) (r := c88) fun a H v H' hv => by refine CallOK.tab ?_ ?_ (c88_run a H v H' hv) <;> rfl
  have h := h.addCall (g := 90) (r := c90) fun a H v H' hv => by refine CallOK.tab ?_ ?_ (c90_run a H v H' hv) <;> rfl
  have h := h.addCall (g := 29) (r := c29) fun a H v H' hv => by refine CallOK.tab ?_ ?_ (c29_run a H v H' hv) <;> rfl
  have h := h.addCall (g := 46) (r := c46) fun a H v H' hv => by refine CallOK.tab ?_ ?_ (c46_run a H v H' hv) <;> rfl
  exact h
end Go.Ev.Lane
