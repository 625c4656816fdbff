/- The claim chapter: checks and levels: tables and normal forms. -/
import Derived.Test.YtfemekpcgieldaaTa
import Derived.Test.YtfemekpcgieldaaSa
set_option linter.unusedVariables false
set_option linter.unusedSimpArgs false
namespace Go.Ev.Clm
open Go Go.Ev
set_option maxRecDepth 1000000
set_option linter.unusedVariables false
abbrev osT (r k : Nat) : AV := .os r 0 0 k true true true
abbrev osP (r k : Nat) : AV := .os r 0 0 k false false false
theorem nl24 (again : Ag) (l : List Int) (w s i : Int) : lpStep T2 24 7 0 (lpc T2 24 7) again [vi w, vi 0, vi s, lI l, vi l.length, vi i] [] = (bif decide (i < (↑l.length : Int)) then bif decide (0 ≤ i) then bif decide (i < (↑l.length : Int)) then oM l[i.toNat]? fun x => bif !Clm.inR x 1 1000 then some (.ret, [vi w, vi 1, vi s, .sl (.int .i64) l false, vi (↑l.length : Int), vi i], []) else again [vi w, vi 0, vi (IntKind.i64.wrap (s + x)), .sl (.int .i64) l false, vi (↑l.length : Int), vi (IntKind.i64.wrap (i + 1))] [] else none else none else some (.ext 1, [vi w, vi 0, vi s, .sl (.int .i64) l false, vi (↑l.length : Int), vi i], [])) := by kernel_rfl
theorem nl25 (again : Ag) (l : List Int) (w i : Int) : lpStep T2 25 6 0 (lpc T2 25 6) again [vi w, lI l, vi 0, vi i] [] = (bif decide (i < (↑l.length : Int)) then bif decide (0 ≤ i) then bif decide (i < (↑l.length : Int)) then oM l[i.toNat]? fun x => bif !Clm.inR x 1 1000 then some (.ret, [vi w, .sl (.int .i64) l false, vi 1, vi i], []) else again [vi w, .sl (.int .i64) l false, vi 0, vi (IntKind.i64.wrap (i + 1))] [] else none else none else some (.ext 0, [vi w, .sl (.int .i64) l false, vi 0, vi i], [])) := by kernel_rfl
theorem nl81_4 (again : Ag) (l : List Int) (k : Nat) (a b i j : Int) : lpStep T2 81 4 1 (lpc T2 81 4) again [osP 0 k, vi a, vi b, vi i, vi j] [some (rP l)] = (bif decide (j > a) then bif decide (0 ≤ j) then bif decide (j < (↑k : Int)) then oM l[j.toNat]? fun x => bif decide (0 ≤ IntKind.i64.wrap (j - 1)) then bif decide (IntKind.i64.wrap (j - 1) < (↑k : Int)) then oM l[(IntKind.i64.wrap (j - 1)).toNat]? fun x_1 => bif decide (x < x_1) then bif decide (0 ≤ IntKind.i64.wrap (j - 1)) then bif decide (IntKind.i64.wrap (j - 1) < (↑k : Int)) then oM l[(IntKind.i64.wrap (j - 1)).toNat]? fun x => bif decide (0 ≤ j) then bif decide (j < (↑k : Int)) then oM l[j.toNat]? fun x_2 => bif decide (0 ≤ j) then bif decide (j < (↑k : Int)) then oM l[j.toNat]? fun x_3 => bif decide (0 ≤ IntKind.i64.wrap (j - 1)) then bif decide (IntKind.i64.wrap (j - 1) < (↑k : Int)) then oM (l.set j.toNat x)[(IntKind.i64.wrap (j - 1)).toNat]? fun x_4 => again [.os 0 0 0 k false false false, vi a, vi b, vi i, vi (IntKind.i64.wrap (j - 1))] [some { c := [.run (.int .i64) ((l.set j.toNat x).set (IntKind.i64.wrap (j - 1)).toNat x_2)], vr := true, ty := 66, fz := false, loose := false : Row }] else none else none else none else none else none else none else none else none else some (.ext 2, [.os 0 0 0 k false false false, vi a, vi b, vi i, vi j], [some ⟨[.run (.int .i64) l], true, 66, false, false, none⟩]) else none else none else none else none else some (.ext 2, [.os 0 0 0 k false false false, vi a, vi b, vi i, vi j], [some ⟨[.run (.int .i64) l], true, 66, false, false, none⟩])) := by kernel_rfl
theorem nl56 (again : Ag) (p q out : List Int) (i n : Int) : lpStep T2 56 3 0 (lpc T2 56 3) again [ps 0, ps 1, osT 2 out.length, vi n, vi i] [some (rP p), some (rP q), some (rowI out 3)] = (bif decide (i < n) then bif decide (0 ≤ i) then bif decide (i < (↑5 : Int)) then oM q[i.toNat]? fun x => bif decide (0 ≤ i) then bif decide (i < (↑5 : Int)) then oM p[i.toNat]? fun x_1 => bif decide (0 ≤ i) then bif decide (i < (↑out.length : Int)) then oM out[i.toNat]? fun x_2 => again [.ps 0 0 0 0, .ps 1 0 0 0, .os 2 0 0 out.length true true true, vi n, vi (IntKind.i64.wrap (i + 1))] [some ⟨[.run (.int .i64) p], true, 66, false, false, none⟩, some ⟨[.run (.int .i64) q], true, 66, false, false, none⟩, some ⟨[.run (.int .i64) (out.set i.toNat (IntKind.i64.wrap (x - x_1)))], false, 3, false, false, none⟩] else none else none else none else none else none else none else some (.ext 0, [.ps 0 0 0 0, .ps 1 0 0 0, .os 2 0 0 out.length true true true, vi n, vi i], [some ⟨[.run (.int .i64) p], true, 66, false, false, none⟩, some ⟨[.run (.int .i64) q], true, 66, false, false, none⟩, some ⟨[.run (.int .i64) out], false, 3, false, false, none⟩])) := by kernel_rfl
theorem nl59_2 (again : Ag) (bs : List Int) (t L : Int) : lpStep T2 59 2 0 (lpc T2 59 2) again [vi t, lI bs, vi L] [] = (bif sm bs && Clm.sb bs && decide (0 ≤ L) && decide (L ≤ 1000000000) then bif decide (Clm.reach L bs < t) then again [vi t, .sl (.int .i64) bs false, vi (IntKind.i64.wrap (L + 1))] [] else some (.ext 0, [vi t, .sl (.int .i64) bs false, vi L], []) else none) := by kernel_rfl
theorem nl59_6 (again : Ag) (bs out : List Int) (ty : TypeId) (L i : Int) : lpStep T2 59 6 0 (lpc T2 59 6) again [lI bs, vi L, osW 0 out.length, vi i] [some (rowI out ty)] = (bif decide (i < (↑bs.length : Int)) then bif decide (0 ≤ i) then bif decide (i < (↑bs.length : Int)) then oM bs[i.toNat]? fun x => bif room (out.length + 1) 8 then again [.sl (.int .i64) bs false, vi L, osW 0 (out.length + 1), vi (IntKind.i64.wrap (i + 1))] [some ⟨[.run (.int .i64) (out ++ [if x < L then x else L])], false, 3, false, false, none⟩] else none else none else none else some (.ext 2, [.sl (.int .i64) bs false, vi L, osW 0 out.length, vi i], [some ⟨[.run (.int .i64) out], false, ty, false, false, none⟩])) := by kernel_rfl
theorem nl55_10 (again : Ag) (bs z out : List Int) (sm i n : Int) : lpStep T2 55 10 0 (lpc T2 55 10) again [ps 0, ps 1, ps 2, vi sm, vi n, vi i] [some (rP bs), some (rP z), some (rP out)] = (bif decide (i < n) then bif decide (0 ≤ i) then bif decide (i < (↑5 : Int)) then oM bs[i.toNat]? fun x => bif decide (0 ≤ i) then bif decide (i < (↑5 : Int)) then oM out[i.toNat]? fun x_1 => again [.ps 0 0 0 0, .ps 1 0 0 0, .ps 2 0 0 0, vi sm, vi n, vi (IntKind.i64.wrap (i + 1))] [some ⟨[.run (.int .i64) bs], true, 66, false, false, none⟩, some ⟨[.run (.int .i64) z], true, 66, false, false, none⟩, some ⟨[.run (.int .i64) (out.set i.toNat (if sm < x then sm else x))], true, 66, false, false, none⟩] else none else none else none else none else some (.ext 2, [.ps 0 0 0 0, .ps 1 0 0 0, .ps 2 0 0 0, vi sm, vi n, vi i], [some ⟨[.run (.int .i64) bs], true, 66, false, false, none⟩, some ⟨[.run (.int .i64) z], true, 66, false, false, none⟩, some ⟨[.run (.int .i64) out], true, 66, false, false, none⟩])) := by kernel_rfl
def l24_7t (l : List Int) (w m : Int) : Tree (Out × List AV × Hp) := .br (decide (m = l.length) && decide (l.length ≤ 5)) (.br (Clm.okC l) (.leaf (.ext 1, [vi w, vi 0, vi (Clm.sumI l), lI l, vi m, vi m], [])) (.leaf (.ret, [vi w, vi 1, vi (Clm.sumI (l.take (Clm.badI l))), lI l, vi m, vi (Clm.badI l : Nat)], []))) .fail
def l24_7 (base : Nat) (kv : List AV) (H : Hp) : Tree (Out × List AV × Hp) := match Nat.beq base 0, kv, H with
  | true, [(.sc (.int .i64 w)), (.sc (.int .i64 0)), (.sc (.int .i64 0)), (.sl (.int .i64) l false), (.sc (.int .i64 m)), (.sc (.int .i64 0))], [] => l24_7t l w m
  | _, _, _ => .fail
theorem l24_7_ok {T : Tab} (hT : TabOK T) (hlo : loopOf T.fn 24 7 = some (lpc T 24 7)) (h : ∀ (l : List Int) (w m : Int) (r : Out × List AV × Hp), (l24_7t l w m).val = some r → ∃ mm, lpRun T 24 7 0 (lpc T 24 7) mm [vi w, vi 0, vi 0, lI l, vi m, vi 0] [] = some r) : ∀ base kv H o kv' H', (l24_7 base kv H).val = some (o, kv', H') → LoopOK T 24 7 base kv H o kv' H' := by
  intro base kv H o kv' H' hv
  unfold l24_7 at hv
  split at hv
  · rename_i hb
    obtain rfl := Nat.eq_of_beq_eq_true hb
    exact loop_ok hT hlo (h _ _ _ _ hv)
  · cases hv
def l25_6t (l : List Int) (w : Int) : Tree (Out × List AV × Hp) := .br (decide (l.length ≤ 5)) (.br (Clm.okC l) (.leaf (.ext 0, [vi w, lI l, vi 0, vi l.length], [])) (.leaf (.ret, [vi w, lI l, vi 1, vi (Clm.badI l : Nat)], []))) .fail
def l25_6 (base : Nat) (kv : List AV) (H : Hp) : Tree (Out × List AV × Hp) := match Nat.beq base 0, kv, H with
  | true, [(.sc (.int .i64 w)), (.sl (.int .i64) l false), (.sc (.int .i64 0)), (.sc (.int .i64 0))], [] => l25_6t l w
  | _, _, _ => .fail
theorem l25_6_ok {T : Tab} (hT : TabOK T) (hlo : loopOf T.fn 25 6 = some (lpc T 25 6)) (h : ∀ (l : List Int) (w : Int) (r : Out × List AV × Hp), (l25_6t l w).val = some r → ∃ mm, lpRun T 25 6 0 (lpc T 25 6) mm [vi w, lI l, vi 0, vi 0] [] = some r) : ∀ base kv H o kv' H', (l25_6 base kv H).val = some (o, kv', H') → LoopOK T 25 6 base kv H o kv' H' := by
  intro base kv H o kv' H' hv
  unfold l25_6 at hv
  split at hv
  · rename_i hb
    obtain rfl := Nat.eq_of_beq_eq_true hb
    exact loop_ok hT hlo (h _ _ _ hv)
  · cases hv
def l81_4t (l : List Int) (k : Nat) (a b i j : Int) : Tree (Out × List AV × Hp) := .br (decide (a = 0) && decide (0 ≤ j) && decide (j < k) && decide (k ≤ 5) && decide (l.length = 5)) (.leaf (.ext 2, [osP 0 k, vi a, vi b, vi i, vi (Clm.bubI l j.toNat : Nat)], [some (rP (Clm.bub l j.toNat))])) .fail
def l81_4 (base : Nat) (kv : List AV) (H : Hp) : Tree (Out × List AV × Hp) := match Nat.beq base 1, kv, H with
  | true, [(.os 0 0 0 k false false false), (.sc (.int .i64 a)), (.sc (.int .i64 b)), (.sc (.int .i64 i)), (.sc (.int .i64 j))], [some ⟨[.run (.int .i64) l], true, 66, false, false, none⟩] => l81_4t l k a b i j
  | _, _, _ => .fail
theorem l81_4_ok {T : Tab} (hT : TabOK T) (hlo : loopOf T.fn 81 4 = some (lpc T 81 4)) (h : ∀ (l : List Int) (k : Nat) (a b i j : Int) (r : Out × List AV × Hp), (l81_4t l k a b i j).val = some r → ∃ mm, lpRun T 81 4 1 (lpc T 81 4) mm [osP 0 k, vi a, vi b, vi i, vi j] [some (rP l)] = some r) : ∀ base kv H o kv' H', (l81_4 base kv H).val = some (o, kv', H') → LoopOK T 81 4 base kv H o kv' H' := by
  intro base kv H o kv' H' hv
  unfold l81_4 at hv
  split at hv
  · rename_i hb
    obtain rfl := Nat.eq_of_beq_eq_true hb
    exact loop_ok hT hlo (h _ _ _ _ _ _ _ hv)
  · cases hv
def l56_3t (p q out : List Int) (n : Int) (k : Nat) : Tree (Out × List AV × Hp) := .br (decide (n = k) && Clm.lenOK out k && decide (k ≤ 5) && decide (p.length = 5) && decide (q.length = 5) && Clm.sb p && Clm.sb q) (.leaf (.ext 0, [ps 0, ps 1, osT 2 k, vi n, vi n], [some (rP p), some (rP q), some (rowI ((Clm.lessL q p).take k) 3)])) .fail
def l56_3 (base : Nat) (kv : List AV) (H : Hp) : Tree (Out × List AV × Hp) := match Nat.beq base 0, kv, H with
  | true, [(.ps 0 0 0 0), (.ps 1 0 0 0), (.os 2 0 0 k true true true), (.sc (.int .i64 n)), (.sc (.int .i64 0))], [some ⟨[.run (.int .i64) p], true, 66, false, false, none⟩, some ⟨[.run (.int .i64) q], true, 66, false, false, none⟩, some ⟨[.run (.int .i64) out], false, 3, false, false, none⟩] => l56_3t p q out n k
  | _, _, _ => .fail
theorem l56_3_ok {T : Tab} (hT : TabOK T) (hlo : loopOf T.fn 56 3 = some (lpc T 56 3)) (h : ∀ (p q out : List Int) (n : Int) (k : Nat) (r : Out × List AV × Hp), (l56_3t p q out n k).val = some r → ∃ mm, lpRun T 56 3 0 (lpc T 56 3) mm [ps 0, ps 1, osT 2 k, vi n, vi 0] [some (rP p), some (rP q), some (rowI out 3)] = some r) : ∀ base kv H o kv' H', (l56_3 base kv H).val = some (o, kv', H') → LoopOK T 56 3 base kv H o kv' H' := by
  intro base kv H o kv' H' hv
  unfold l56_3 at hv
  split at hv
  · rename_i hb
    obtain rfl := Nat.eq_of_beq_eq_true hb
    exact loop_ok hT hlo (h _ _ _ _ _ _ hv)
  · cases hv
def l59_2t (bs : List Int) (t : Int) : Tree (Out × List AV × Hp) := .br (sm bs && Clm.sb bs && decide (t ≤ Clm.reach 200000 bs)) (.leaf (.ext 0, [vi t, lI bs, vi (Clm.lev t bs : Nat)], [])) .fail
def l59_2 (base : Nat) (kv : List AV) (H : Hp) : Tree (Out × List AV × Hp) := match Nat.beq base 0, kv, H with
  | true, [(.sc (.int .i64 t)), (.sl (.int .i64) bs false), (.sc (.int .i64 0))], [] => l59_2t bs t
  | _, _, _ => .fail
theorem l59_2_ok {T : Tab} (hT : TabOK T) (hlo : loopOf T.fn 59 2 = some (lpc T 59 2)) (h : ∀ (bs : List Int) (t : Int) (r : Out × List AV × Hp), (l59_2t bs t).val = some r → ∃ mm, lpRun T 59 2 0 (lpc T 59 2) mm [vi t, lI bs, vi 0] [] = some r) : ∀ base kv H o kv' H', (l59_2 base kv H).val = some (o, kv', H') → LoopOK T 59 2 base kv H o kv' H' := by
  intro base kv H o kv' H' hv
  unfold l59_2 at hv
  split at hv
  · rename_i hb
    obtain rfl := Nat.eq_of_beq_eq_true hb
    exact loop_ok hT hlo (h _ _ _ hv)
  · cases hv
def l59_6t (bs : List Int) (L : Int) : Tree (Out × List AV × Hp) := .br (sm bs) (.leaf (.ext 2, [lI bs, vi L, osW 0 bs.length, vi bs.length], [some (rI (bs.map fun b => min L b))])) .fail
def l59_6 (base : Nat) (kv : List AV) (H : Hp) : Tree (Out × List AV × Hp) := match Nat.beq base 0, kv, H with
  | true, [(.sl (.int .i64) bs false), (.sc (.int .i64 L)), (.os 0 0 0 0 true false true), (.sc (.int .i64 0))], [some ⟨[.run (.int .i64) []], false, 0, false, false, none⟩] => l59_6t bs L
  | _, _, _ => .fail
theorem l59_6_ok {T : Tab} (hT : TabOK T) (hlo : loopOf T.fn 59 6 = some (lpc T 59 6)) (h : ∀ (bs : List Int) (L : Int) (r : Out × List AV × Hp), (l59_6t bs L).val = some r → ∃ mm, lpRun T 59 6 0 (lpc T 59 6) mm [lI bs, vi L, osW 0 0, vi 0] [some (rowI [] 0)] = some r) : ∀ base kv H o kv' H', (l59_6 base kv H).val = some (o, kv', H') → LoopOK T 59 6 base kv H o kv' H' := by
  intro base kv H o kv' H' hv
  unfold l59_6 at hv
  split at hv
  · rename_i hb
    obtain rfl := Nat.eq_of_beq_eq_true hb
    exact loop_ok hT hlo (h _ _ _ hv)
  · cases hv
def l55_10t (bs z out : List Int) (sm n : Int) : Tree (Out × List AV × Hp) := .br (decide (0 ≤ n) && decide (n ≤ 5) && decide (bs.length = 5) && decide (out.length = 5)) (.leaf (.ext 2, [ps 0, ps 1, ps 2, vi sm, vi n, vi n], [some (rP bs), some (rP z), some (rP ((bs.take n.toNat).map (fun b => min sm b) ++ out.drop n.toNat))])) .fail
def l55_10 (base : Nat) (kv : List AV) (H : Hp) : Tree (Out × List AV × Hp) := match Nat.beq base 0, kv, H with
  | true, [(.ps 0 0 0 0), (.ps 1 0 0 0), (.ps 2 0 0 0), (.sc (.int .i64 sm)), (.sc (.int .i64 n)), (.sc (.int .i64 0))], [some ⟨[.run (.int .i64) bs], true, 66, false, false, none⟩, some ⟨[.run (.int .i64) z], true, 66, false, false, none⟩, some ⟨[.run (.int .i64) out], true, 66, false, false, none⟩] => l55_10t bs z out sm n
  | _, _, _ => .fail
theorem l55_10_ok {T : Tab} (hT : TabOK T) (hlo : loopOf T.fn 55 10 = some (lpc T 55 10)) (h : ∀ (bs z out : List Int) (sm n : Int) (r : Out × List AV × Hp), (l55_10t bs z out sm n).val = some r → ∃ mm, lpRun T 55 10 0 (lpc T 55 10) mm [ps 0, ps 1, ps 2, vi sm, vi n, vi 0] [some (rP bs), some (rP z), some (rP out)] = some r) : ∀ base kv H o kv' H', (l55_10 base kv H).val = some (o, kv', H') → LoopOK T 55 10 base kv H o kv' H' := by
  intro base kv H o kv' H' hv
  unfold l55_10 at hv
  split at hv
  · rename_i hb
    obtain rfl := Nat.eq_of_beq_eq_true hb
    exact loop_ok hT hlo (h _ _ _ _ _ _ hv)
  · cases hv
noncomputable def T3 : Tab := (((((((T2).addLoop 24 7 l24_7).addLoop 25 6 l25_6).addLoop 81 4 l81_4).addLoop 56 3 l56_3).addLoop 59 2 l59_2).addLoop 59 6 l59_6).addLoop 55 10 l55_10
theorem nf24 (l : List Int) (w : Int) : evBody T3 24 [vi w, lI l] [] = (bif (↑l.length : Int) == 0 then some (vi 4, []) else bif decide ((↑l.length : Int) > 5) then some (vi 3, []) else bif decide ((↑l.length : Int) = (↑l.length : Int)) && decide (l.length ≤ 5) then bif Clm.okC l then bif !Clm.inR w 0 (Clm.sumI l) then some (vi 1, []) else some (vi 0, []) else some (vi 1, []) else none) := by kernel_rfl
theorem nf25 (l : List Int) (w : Int) : evBody T3 25 [vi w, lI l] [] = (bif (↑l.length : Int) == 0 then some (vi 4, []) else bif decide ((↑l.length : Int) > 5) then some (vi 3, []) else bif decide (l.length ≤ 5) then bif Clm.okC l then bif sm l && Clm.sb l then bif !Clm.inR w 0 (Clm.sumI l) then some (vi 1, []) else some (vi 0, []) else none else some (vi 1, []) else none) := by kernel_rfl
theorem nl81_1 (again : Ag) (l : List Int) (k : Nat) (a b i : Int) : lpStep T3 81 1 1 (lpc T3 81 1) again [osP 0 k, vi a, vi b, vi i] [some (rP l)] = (bif decide (i < b) then bif decide (a = 0) && decide (0 ≤ i) && decide (i < (↑k : Int)) && decide (k ≤ 5) && decide (l.length = 5) then again [.os 0 0 0 k false false false, vi a, vi b, vi (IntKind.i64.wrap (i + 1))] [some ⟨[.run (.int .i64) (Clm.bub l i.toNat)], true, 66, false, false, none⟩] else none else some (.ext 0, [.os 0 0 0 k false false false, vi a, vi b, vi i], [some ⟨[.run (.int .i64) l], true, 66, false, false, none⟩])) := by kernel_rfl
theorem nf56 (p q : List Int) (n : Int) : evBody T3 56 [aP p, aP q, vi n] [] = (bif decide (List.map (fun (x : AV) => match x with | .run e l => l.length * e.size | _ => 1) [.run (.int .i64) p] = List.map (fun (x : AV) => match x with | .run e l => l.length * e.size | _ => 1) ((some [.run (.int .i64) (List.replicate 5 0)]).getD [])) then bif decide (List.map (fun (x : AV) => match x with | .run e l => l.length * e.size | _ => 1) [.run (.int .i64) q] = List.map (fun (x : AV) => match x with | .run e l => l.length * e.size | _ => 1) ((some [.run (.int .i64) (List.replicate 5 0)]).getD [])) then bif decide (0 ≤ n) then bif decide (n = n) then bif room n.toNat 8 then bif decide ((↑n.toNat : Int) = (↑n.toNat : Int)) && Clm.lenOK (List.replicate n.toNat 0) n.toNat && decide (n.toNat ≤ 5) && decide (p.length = 5) && decide (q.length = 5) && Clm.sb p && Clm.sb q then some (.os 0 0 0 n.toNat true true true, [some ⟨[.run (.int .i64) (List.take n.toNat (Clm.lessL q p))], false, 3, false, false, none⟩]) else none else none else none else none else none else none) := by kernel_rfl
theorem nf59 (bs : List Int) (t : Int) : evBody T3 59 [vi t, lI bs] [] = (bif sm bs && Clm.sb bs && decide (t ≤ Clm.reach 200000 bs) then bif sm bs then some (osW 0 bs.length, [some ⟨[.run (.int .i64) (List.map (fun b => Min.min (↑(Clm.lev t bs) : Int) b) bs)], false, Clm.tyI (List.map (fun b => Min.min (↑(Clm.lev t bs) : Int) b) bs), false, false, none⟩]) else none else none) := by kernel_rfl
def c24t (l : List Int) (w : Int) : Tree (AV × Hp) := .leaf (vi (Clm.chk w l), [])
def c24 (args : List AV) (H : Hp) : Tree (AV × Hp) := match args, H with
  | [(.sc (.int .i64 w)), (.sl (.int .i64) l false)], [] => c24t l w
  | _, _ => .fail
theorem c24_ok {T : Tab} (hT : TabOK T) (h : ∀ (l : List Int) (w : Int) (r : AV × Hp), (c24t l w).val = some r → evBody T 24 [vi w, lI l] [] = some r) : ∀ args H v H', (c24 args H).val = some (v, H') → CallOK T 24 args H v H' := by
  intro args H v H' hv
  unfold c24 at hv
  split at hv
  · exact evBody_sound hT (h _ _ _ hv)
  · cases hv
def c25t (l : List Int) (w : Int) : Tree (AV × Hp) := .leaf (vi (Clm.chk w l), [])
def c25 (args : List AV) (H : Hp) : Tree (AV × Hp) := match args, H with
  | [(.sc (.int .i64 w)), (.sl (.int .i64) l false)], [] => c25t l w
  | _, _ => .fail
theorem c25_ok {T : Tab} (hT : TabOK T) (h : ∀ (l : List Int) (w : Int) (r : AV × Hp), (c25t l w).val = some r → evBody T 25 [vi w, lI l] [] = some r) : ∀ args H v H', (c25 args H).val = some (v, H') → CallOK T 25 args H v H' := by
  intro args H v H' hv
  unfold c25 at hv
  split at hv
  · exact evBody_sound hT (h _ _ _ hv)
  · cases hv
def l81_1t (l : List Int) (k : Nat) (a b : Int) : Tree (Out × List AV × Hp) := .br (decide (a = 0) && decide (b = k) && decide (k ≤ 5) && decide (l.length = 5)) (.leaf (.ext 0, [osP 0 k, vi a, vi b, vi ((k - 1 + 1 : Nat) : Int)], [some (rP (Clm.isort k l))])) .fail
def l81_1 (base : Nat) (kv : List AV) (H : Hp) : Tree (Out × List AV × Hp) := match Nat.beq base 1, kv, H with
  | true, [(.os 0 0 0 k false false false), (.sc (.int .i64 a)), (.sc (.int .i64 b)), (.sc (.int .i64 1))], [some ⟨[.run (.int .i64) l], true, 66, false, false, none⟩] => l81_1t l k a b
  | _, _, _ => .fail
theorem l81_1_ok {T : Tab} (hT : TabOK T) (hlo : loopOf T.fn 81 1 = some (lpc T 81 1)) (h : ∀ (l : List Int) (k : Nat) (a b : Int) (r : Out × List AV × Hp), (l81_1t l k a b).val = some r → ∃ mm, lpRun T 81 1 1 (lpc T 81 1) mm [osP 0 k, vi a, vi b, vi 1] [some (rP l)] = some r) : ∀ base kv H o kv' H', (l81_1 base kv H).val = some (o, kv', H') → LoopOK T 81 1 base kv H o kv' H' := by
  intro base kv H o kv' H' hv
  unfold l81_1 at hv
  split at hv
  · rename_i hb
    obtain rfl := Nat.eq_of_beq_eq_true hb
    exact loop_ok hT hlo (h _ _ _ _ _ hv)
  · cases hv
def c56t (p q : List Int) (n : Int) : Tree (AV × Hp) := .br (decide (0 ≤ n) && decide (n ≤ 5) && decide (p.length = 5) && decide (q.length = 5) && Clm.sb p && Clm.sb q) (.leaf (osT 0 n.toNat, [some (rowI ((Clm.lessL q p).take n.toNat) 3)])) .fail
def c56 (args : List AV) (H : Hp) : Tree (AV × Hp) := match args, H with
  | [(.agg [.run (.int .i64) p] false), (.agg [.run (.int .i64) q] false), (.sc (.int .i64 n))], [] => c56t p q n
  | _, _ => .fail
theorem c56_ok {T : Tab} (hT : TabOK T) (h : ∀ (p q : List Int) (n : Int) (r : AV × Hp), (c56t p q n).val = some r → evBody T 56 [aP p, aP q, vi n] [] = some r) : ∀ args H v H', (c56 args H).val = some (v, H') → CallOK T 56 args H v H' := by
  intro args H v H' hv
  unfold c56 at hv
  split at hv
  · exact evBody_sound hT (h _ _ _ _ hv)
  · cases hv
def c59t (bs : List Int) (t : Int) : Tree (AV × Hp) := .br (sm bs && Clm.sb bs && decide (t ≤ Clm.reach 200000 bs)) (.leaf (osW 0 bs.length, [some (rI (Clm.capped t bs))])) .fail
def c59 (args : List AV) (H : Hp) : Tree (AV × Hp) := match args, H with
  | [(.sc (.int .i64 t)), (.sl (.int .i64) bs false)], [] => c59t bs t
  | _, _ => .fail
theorem c59_ok {T : Tab} (hT : TabOK T) (h : ∀ (bs : List Int) (t : Int) (r : AV × Hp), (c59t bs t).val = some r → evBody T 59 [vi t, lI bs] [] = some r) : ∀ args H v H', (c59 args H).val = some (v, H') → CallOK T 59 args H v H' := by
  intro args H v H' hv
  unfold c59 at hv
  split at hv
  · exact evBody_sound hT (h _ _ _ hv)
  · cases hv
noncomputable def T4 : Tab := (((((T3).addCall 24 c24).addCall 25 c25).addLoop 81 1 l81_1).addCall 56 c56).addCall 59 c59
theorem nf81 (l : List Int) (k : Nat) (b : Int) : evBody T4 81 [osP 0 k, vi 0, vi b] [some (rP l)] = (bif decide (0 = 0) && decide (b = (↑k : Int)) && decide (k ≤ 5) && decide (l.length = 5) then some (.tuple [], [some ⟨[.run (.int .i64) (Clm.isort k l)], true, 66, false, false, none⟩]) else none) := by kernel_rfl
end Go.Ev.Clm
namespace Go.Ev.Clm
open Go Go.Ev
set_option maxRecDepth 1000000
set_option linter.unusedVariables false
set_option linter.unusedSimpArgs false
theorem bad_lt {l : List Int} (h : Clm.okC l = false) : Clm.badI l < l.length := by
  unfold Clm.badI
  refine List.findIdx_lt_length_of_exists ?_
  unfold Clm.okC at h
  rw [List.all_eq_false] at h
  obtain ⟨x, hx, hp⟩ := h
  exact ⟨x, hx, by simpa using hp⟩
theorem bad_before {l : List Int} {i : Nat} {x : Int} (h : i < Clm.badI l) (hx : l[i]? = some x) : Clm.inR x 1 1000 = true := by
  unfold Clm.badI at h
  have hl : i < l.length := by
    rcases Nat.lt_or_ge i l.length with h' | h'
    · exact h'
    · rw [List.getElem?_eq_none h'] at hx; cases hx
  have := List.not_of_lt_findIdx h
  rw [List.getElem?_eq_getElem hl] at hx
  cases hx
  simpa using this
theorem bad_at {l : List Int} (h : Clm.okC l = false) : ∃ x, l[Clm.badI l]? = some x ∧ Clm.inR x 1 1000 = false := by
  have hl := bad_lt h
  refine ⟨l[Clm.badI l], List.getElem?_eq_getElem hl, ?_⟩
  have : (!Clm.inR l[Clm.badI l] 1 1000) = true := List.findIdx_getElem (xs := l) (p := fun c => !Clm.inR c 1 1000) (w := hl)
  simpa using this
theorem okC_get {l : List Int} (h : Clm.okC l = true) {x : Int} (hx : x ∈ l) : Clm.inR x 1 1000 = true := by
  unfold Clm.okC at h
  rw [List.all_eq_true] at h
  exact h x hx
theorem inR_get {x lo hi : Int} (h : Clm.inR x lo hi = true) : lo ≤ x ∧ x ≤ hi := by
  unfold Clm.inR at h
  simpa using h
theorem l24_7_run : ∀ base kv H o kv' H', (l24_7 base kv H).val = some (o, kv', H') → LoopOK T2 24 7 base kv H o kv' H' := l24_7_ok T2_ok (by kernel_rfl) (by
  intro l w m r hv
  obtain ⟨hl, hv2⟩ := guard_val hv
  simp only [Bool.and_eq_true, decide_eq_true_eq] at hl
  obtain ⟨rfl, h5⟩ := hl
  have stp : ∀ i, i < l.length → (∀ j x, j ≤ i → l[j]? = some x → Clm.inR x 1 1000 = true) → ∀ again : Ag, lpStep T2 24 7 0 (lpc T2 24 7) again [vi w, vi 0, vi (Clm.sumI (l.take i)), lI l, vi l.length, vi (i : Nat)] [] = again [vi w, vi 0, vi (Clm.sumI (l.take (i + 1))), lI l, vi l.length, vi ((i + 1 : Nat) : Int)] [] := by
    intro i hi hok again
    obtain ⟨x, hx, _⟩ := get_i hi
    have hin := hok i x (Nat.le_refl _) hx
    have hr := inR_get hin
    have hs := Clm.sumI_bd (l := l.take i) (B := 1000) (by omega) (fun y hy => by
      obtain ⟨j, hj, rfl⟩ := List.getElem_of_mem hy
      rw [List.length_take] at hj
      have := inR_get (hok j l[j] (by omega) (List.getElem?_eq_getElem (by omega)))
      rw [List.getElem_take]
      omega)
    have hlen : (l.take i).length ≤ 5 := by rw [List.length_take]; omega
    rw [nl24, Clm.sumI_take hx]
    simp only [dec_lt hi, dec_ge, cond_true, toNat_cast, hx, oM, hin, Bool.not_true, cond_false]
    rw [wrap_succ (by omega), wrapi (by omega) (by omega)]
  rcases br_val hv2 with ⟨hc, hv3⟩ | ⟨hc, hv3⟩
  · obtain ⟨mm, hm⟩ := steps_of (T := T2) (fid := 24) (lid := 7) (base := 0) (c := lpc T2 24 7) l.length (fun i => [vi w, vi 0, vi (Clm.sumI (l.take i)), lI l, vi l.length, vi (i : Nat)]) (fun _ => []) (.ext 1, [vi w, vi 0, vi (Clm.sumI l), lI l, vi l.length, vi l.length], [])
      (fun i hi again => stp i hi (fun j x _ hx => okC_get hc (List.mem_of_getElem? hx)) again)
      (fun again => by
        rw [nl24, List.take_length]
        simp only [dec_ll, cond_false])
    exact ⟨mm, hm.trans (by rw [leaf_val hv3])⟩
  · obtain ⟨mm, hm⟩ := steps_of (T := T2) (fid := 24) (lid := 7) (base := 0) (c := lpc T2 24 7) (Clm.badI l) (fun i => [vi w, vi 0, vi (Clm.sumI (l.take i)), lI l, vi l.length, vi (i : Nat)]) (fun _ => []) (.ret, [vi w, vi 1, vi (Clm.sumI (l.take (Clm.badI l))), lI l, vi l.length, vi (Clm.badI l : Nat)], [])
      (fun i hi again => stp i (by have := bad_lt hc; omega) (fun j x hj hx => bad_before (by omega) hx) again)
      (fun again => by
        obtain ⟨x, hx, hin⟩ := bad_at hc
        rw [nl24]
        simp only [dec_lt (bad_lt hc), dec_ge, cond_true, toNat_cast, hx, oM, hin, Bool.not_false])
    exact ⟨mm, hm.trans (by rw [leaf_val hv3])⟩)
theorem l25_6_run : ∀ base kv H o kv' H', (l25_6 base kv H).val = some (o, kv', H') → LoopOK T2 25 6 base kv H o kv' H' := l25_6_ok T2_ok (by kernel_rfl) (by
  intro l w r hv
  obtain ⟨hl, hv2⟩ := guard_val hv
  have h5 := of_decide_eq_true hl
  have stp : ∀ i, i < l.length → (∀ x, l[i]? = some x → Clm.inR x 1 1000 = true) → ∀ again : Ag, lpStep T2 25 6 0 (lpc T2 25 6) again [vi w, lI l, vi 0, vi (i : Nat)] [] = again [vi w, lI l, vi 0, vi ((i + 1 : Nat) : Int)] [] := by
    intro i hi hok again
    obtain ⟨x, hx, _⟩ := get_i hi
    rw [nl25]
    simp only [dec_lt hi, dec_ge, cond_true, toNat_cast, hx, oM, hok x hx, Bool.not_true, cond_false]
    rw [wrap_succ (by omega)]
  rcases br_val hv2 with ⟨hc, hv3⟩ | ⟨hc, hv3⟩
  · obtain ⟨mm, hm⟩ := steps_of (T := T2) (fid := 25) (lid := 6) (base := 0) (c := lpc T2 25 6) l.length (fun i => [vi w, lI l, vi 0, vi (i : Nat)]) (fun _ => []) (.ext 0, [vi w, lI l, vi 0, vi l.length], [])
      (fun i hi again => stp i hi (fun x hx => okC_get hc (List.mem_of_getElem? hx)) again)
      (fun again => by
        rw [nl25]
        simp only [dec_ll, cond_false])
    exact ⟨mm, hm.trans (by rw [leaf_val hv3])⟩
  · obtain ⟨mm, hm⟩ := steps_of (T := T2) (fid := 25) (lid := 6) (base := 0) (c := lpc T2 25 6) (Clm.badI l) (fun i => [vi w, lI l, vi 0, vi (i : Nat)]) (fun _ => []) (.ret, [vi w, lI l, vi 1, vi (Clm.badI l : Nat)], [])
      (fun i hi again => stp i (by have := bad_lt hc; omega) (fun x hx => bad_before hi hx) again)
      (fun again => by
        obtain ⟨x, hx, hin⟩ := bad_at hc
        rw [nl25]
        simp only [dec_lt (bad_lt hc), dec_ge, cond_true, toNat_cast, hx, oM, hin, Bool.not_false])
    exact ⟨mm, hm.trans (by rw [leaf_val hv3])⟩)
theorem getD_of {l : List Int} {i : Nat} (h : i < l.length) : l[i]? = some (l.getD i 0) := by
  rw [List.getD_eq_getElem?_getD, List.getElem?_eq_getElem h]; rfl
theorem l81_4_run : ∀ base kv H o kv' H', (l81_4 base kv H).val = some (o, kv', H') → LoopOK T2 81 4 base kv H o kv' H' := l81_4_ok T2_ok (by kernel_rfl) (by
  intro l k a b i j r hv
  obtain ⟨hl, hv2⟩ := guard_val hv
  simp only [Bool.and_eq_true, decide_eq_true_eq] at hl
  obtain ⟨⟨⟨⟨rfl, h0⟩, h1⟩, h2⟩, h3⟩ := hl
  obtain ⟨j, rfl⟩ := Int.eq_ofNat_of_zero_le h0
  obtain ⟨mm, hm⟩ := lpRun_of (T := T2) (fid := 81) (lid := 4) (base := 1) (c := lpc T2 81 4) (fun s : Nat × List Int => s.1 < k ∧ s.2.length = 5)
    (fun s => [osP 0 k, vi 0, vi b, vi i, vi (s.1 : Nat)]) (fun s => [some (rP s.2)]) (fun s => (.ext 2, [osP 0 k, vi 0, vi b, vi i, vi (Clm.bubI s.2 s.1 : Nat)], [some (rP (Clm.bub s.2 s.1))])) (fun s => s.1)
    (fun s hs again => by
      obtain ⟨n, l⟩ := s
      obtain ⟨hn, hl⟩ := hs
      simp only at hn hl
      cases n with
      | zero =>
        refine .inl ?_
        rw [nl81_4]
        rfl
      | succ n =>
        have e1 : IntKind.i64.wrap (((n + 1 : Nat) : Int) - 1) = (n : Int) := by rw [wrapi (by omega) (by omega)]; omega
        have g1 := getD_of (l := l) (i := n + 1) (by omega)
        have g2 := getD_of (l := l) (i := n) (by omega)
        have g3 : ((l.set (n + 1) (l.getD n 0)))[n]? = some (l.getD n 0) := by rw [List.getElem?_set_ne (by omega)]; exact g2
        have e2 : decide (((n + 1 : Nat) : Int) > 0) = true := decide_eq_true (by omega)
        have e3 : decide (((n + 1 : Nat) : Int) < (k : Int)) = true := decide_eq_true (by omega)
        have e4 : decide ((n : Int) < (k : Int)) = true := decide_eq_true (by omega)
        cases hc : decide (l.getD (n + 1) 0 < l.getD n 0) with
        | false =>
          refine .inl ?_
          rw [nl81_4]
          simp only [e2, cond_true, dec_ge, e3, toNat_cast, g1, oM, e1, e4, g2, hc, cond_false]
          unfold Clm.bub Clm.bubI
          rw [hc]; rfl
        | true =>
          refine .inr ⟨(n, (l.set (n + 1) (l.getD n 0)).set n (l.getD (n + 1) 0)), ⟨by simp only; omega, by simpa using hl⟩, by simp only; omega, ?_, ?_⟩
          · show _ = (Out.ext 2, [osP 0 k, vi 0, vi b, vi i, vi (Clm.bubI l (n + 1) : Nat)], [some (rP (Clm.bub l (n + 1)))])
            conv => rhs; unfold Clm.bub Clm.bubI
            rw [hc]; rfl
          · rw [nl81_4]
            simp only [e2, cond_true, dec_ge, e3, toNat_cast, g1, oM, e1, e4, g2, hc, g3])
    (j, l) ⟨by simp only; omega, h3⟩
  exact ⟨mm, hm.trans (by rw [leaf_val hv2, toNat_cast])⟩)
theorem l56_3_run : ∀ base kv H o kv' H', (l56_3 base kv H).val = some (o, kv', H') → LoopOK T2 56 3 base kv H o kv' H' := l56_3_ok T2_ok (by kernel_rfl) (by
  intro p q out n k r hv
  obtain ⟨hl, hv2⟩ := guard_val hv
  simp only [Bool.and_eq_true, decide_eq_true_eq] at hl
  obtain ⟨⟨⟨⟨⟨⟨rfl, h1⟩, h2⟩, h3⟩, h4⟩, h5⟩, h6⟩ := hl
  have h1 := of_decide_eq_true h1
  have hz : (q.zip p).length = 5 := by simp [h3, h4]
  have hll : (Clm.lessL q p).length = 5 := by simp [Clm.lessL, h3, h4]
  obtain ⟨mm, hm⟩ := steps_of (T := T2) (fid := 56) (lid := 3) (base := 0) (c := lpc T2 56 3) k (fun i => [ps 0, ps 1, osT 2 ((Clm.lessL q p).take i ++ out.drop i).length, vi k, vi (i : Nat)]) (fun i => [some (rP p), some (rP q), some (rowI ((Clm.lessL q p).take i ++ out.drop i) 3)]) (.ext 0, [ps 0, ps 1, osT 2 k, vi k, vi k], [some (rP p), some (rP q), some (rowI ((Clm.lessL q p).take k) 3)])
    (fun i hi again => by
      have g1 := getD_of (l := q) (i := i) (by omega)
      have g2 := getD_of (l := p) (i := i) (by omega)
      have c := Clm.sb_get h6 (List.mem_of_getElem? g1)
      have d := Clm.sb_get h5 (List.mem_of_getElem? g2)
      have hlen : ((Clm.lessL q p).take i ++ out.drop i).length = k := by rw [List.length_append, List.length_take, List.length_drop]; omega
      have hlen' : ((Clm.lessL q p).take (i + 1) ++ out.drop (i + 1)).length = k := by rw [List.length_append, List.length_take, List.length_drop]; omega
      have g3 := getD_of (l := (Clm.lessL q p).take i ++ out.drop i) (i := i) (by omega)
      rw [nl56]
      simp only [decide_eq_true (show (i : Int) < (k : Int) by omega), cond_true, dec_ge, decide_eq_true (show (i : Int) < 5 by omega), toNat_cast, g1, g2, oM, hlen, g3, hlen']
      rw [wrap_succ (by omega), wrapi (by omega) (by omega)]
      have e : ((Clm.lessL q p).take i ++ out.drop i).set i (q.getD i 0 - p.getD i 0) = (Clm.lessL q p).take (i + 1) ++ out.drop (i + 1) := by
        have ht : ((Clm.lessL q p).take i).length = i := by rw [List.length_take]; omega
        rw [List.set_append_right _ _ (by omega), ht, Nat.sub_self]
        have hx : (Clm.lessL q p)[i]? = some (q.getD i 0 - p.getD i 0) := by
          unfold Clm.lessL
          rw [List.getElem?_map, (List.getElem?_zip_eq_some (z := (q.getD i 0, p.getD i 0))).2 ⟨g1, g2⟩]; rfl
        rw [Clm.take_succ' hx, List.drop_eq_getElem_cons (by omega), List.append_assoc]
        rfl
      rw [e])
    (fun again => by
      rw [nl56]
      simp only [decide_eq_false (show ¬ (k : Int) < (k : Int) by omega), cond_false]
      rw [List.drop_of_length_le (by omega), List.append_nil, List.length_take, Nat.min_eq_left (by omega)])
  rw [List.take_zero, List.nil_append, List.drop_zero, h1] at hm
  exact ⟨mm, hm.trans (by rw [leaf_val hv2])⟩)
theorem lev_lt {t : Int} {bs : List Int} (h : t ≤ Clm.reach 200000 bs) : Clm.lev t bs ≤ 200000 ∧ t ≤ Clm.reach (Clm.lev t bs : Nat) bs ∧ ∀ L : Nat, L < Clm.lev t bs → ¬ t ≤ Clm.reach (L : Int) bs := by
  have hlt : Clm.lev t bs < (List.range 200001).length := List.findIdx_lt_length_of_exists ⟨200000, List.mem_range.2 (by omega), decide_eq_true h⟩
  refine ⟨by rw [List.length_range] at hlt; omega, ?_, fun L hL => ?_⟩
  · have : decide (t ≤ Clm.reach (((List.range 200001)[Clm.lev t bs] : Nat) : Int) bs) = true := List.findIdx_getElem (w := hlt)
    rw [List.getElem_range] at this
    exact of_decide_eq_true this
  · have := List.not_of_lt_findIdx hL
    rw [List.getElem_range] at this
    exact of_decide_eq_false this
theorem l59_2_run : ∀ base kv H o kv' H', (l59_2 base kv H).val = some (o, kv', H') → LoopOK T2 59 2 base kv H o kv' H' := l59_2_ok T2_ok (by kernel_rfl) (by
  intro bs t r hv
  obtain ⟨hl, hv2⟩ := guard_val hv
  simp only [Bool.and_eq_true, decide_eq_true_eq] at hl
  obtain ⟨⟨h1, h2⟩, h3⟩ := hl
  obtain ⟨f1, f2, f3⟩ := lev_lt h3
  obtain ⟨mm, hm⟩ := steps_of (T := T2) (fid := 59) (lid := 2) (base := 0) (c := lpc T2 59 2) (Clm.lev t bs) (fun i => [vi t, lI bs, vi (i : Nat)]) (fun _ => []) (.ext 0, [vi t, lI bs, vi (Clm.lev t bs : Nat)], [])
    (fun i hi again => by
      have g := f3 i hi
      rw [nl59_2]
      simp only [h1, h2, dec_ge, decide_eq_true (show (i : Int) ≤ 1000000000 by omega), Bool.and_self, cond_true, decide_eq_true (show Clm.reach (i : Int) bs < t by omega)]
      rw [wrap_succ (by omega)])
    (fun again => by
      rw [nl59_2]
      simp only [h1, h2, dec_ge, decide_eq_true (show ((Clm.lev t bs : Nat) : Int) ≤ 1000000000 by omega), Bool.and_self, cond_true, decide_eq_false (show ¬ Clm.reach (Clm.lev t bs : Nat) bs < t by omega), cond_false])
  exact ⟨mm, hm.trans (by rw [leaf_val hv2])⟩)
theorem l59_6_run : ∀ base kv H o kv' H', (l59_6 base kv H).val = some (o, kv', H') → LoopOK T2 59 6 base kv H o kv' H' := l59_6_ok T2_ok (by kernel_rfl) (by
  intro bs L r hv
  obtain ⟨hl, hv2⟩ := guard_val hv
  have hs := sm_le hl
  obtain ⟨mm, hm⟩ := steps_of (T := T2) (fid := 59) (lid := 6) (base := 0) (c := lpc T2 59 6) bs.length (fun i => [lI bs, vi L, osW 0 ((bs.take i).map fun b => min L b).length, vi (i : Nat)]) (fun i => [some (rI ((bs.take i).map fun b => min L b))]) (.ext 2, [lI bs, vi L, osW 0 bs.length, vi bs.length], [some (rI (bs.map fun b => min L b))])
    (fun i hi again => by
      obtain ⟨x, hx, _⟩ := get_i hi
      have hr : room (((bs.take i).map fun b => min L b).length + 1) 8 = true := room_ok (by simp; omega) (by omega)
      rw [nl59_6]
      simp only [dec_lt hi, dec_ge, cond_true, toNat_cast, hx, oM, hr]
      rw [wrap_succ (by omega), Clm.mn', Clm.map_take _ hx, rI, tyI_snoc, List.length_append, List.length_singleton])
    (fun again => by
      rw [nl59_6, List.take_length]
      simp only [dec_ll, cond_false, List.length_map])
  exact ⟨mm, hm.trans (by rw [leaf_val hv2])⟩)
theorem l55_10_run : ∀ base kv H o kv' H', (l55_10 base kv H).val = some (o, kv', H') → LoopOK T2 55 10 base kv H o kv' H' := l55_10_ok T2_ok (by kernel_rfl) (by
  intro bs z out sm n r hv
  obtain ⟨hl, hv2⟩ := guard_val hv
  simp only [Bool.and_eq_true, decide_eq_true_eq] at hl
  obtain ⟨⟨⟨h1, h2⟩, h3⟩, h4⟩ := hl
  obtain ⟨k, rfl⟩ := Int.eq_ofNat_of_zero_le h1
  obtain ⟨mm, hm⟩ := steps_of (T := T2) (fid := 55) (lid := 10) (base := 0) (c := lpc T2 55 10) k (fun i => [ps 0, ps 1, ps 2, vi sm, vi k, vi (i : Nat)]) (fun i => [some (rP bs), some (rP z), some (rP ((bs.take i).map (fun b => min sm b) ++ out.drop i))]) (.ext 2, [ps 0, ps 1, ps 2, vi sm, vi k, vi k], [some (rP bs), some (rP z), some (rP ((bs.take k).map (fun b => min sm b) ++ out.drop k))])
    (fun i hi again => by
      have g1 := getD_of (l := bs) (i := i) (by omega)
      have ht : ((bs.take i).map fun b => min sm b).length = i := by rw [List.length_map, List.length_take]; omega
      have g3 := getD_of (l := (bs.take i).map (fun b => min sm b) ++ out.drop i) (i := i) (by rw [List.length_append, ht, List.length_drop]; omega)
      rw [nl55_10]
      simp only [decide_eq_true (show (i : Int) < (k : Int) by omega), cond_true, dec_ge, decide_eq_true (show (i : Int) < 5 by omega), toNat_cast, g1, oM, g3]
      rw [wrap_succ (by omega), Clm.mn', Int.min_comm (bs.getD i 0)]
      have e : ((bs.take i).map (fun b => min sm b) ++ out.drop i).set i (min sm (bs.getD i 0)) = (bs.take (i + 1)).map (fun b => min sm b) ++ out.drop (i + 1) := by
        rw [List.set_append_right _ _ (by omega), ht, Nat.sub_self, Clm.map_take _ g1, List.drop_eq_getElem_cons (by omega), List.append_assoc]
        rfl
      rw [e])
    (fun again => by
      rw [nl55_10]
      simp only [decide_eq_false (show ¬ (k : Int) < (k : Int) by omega), cond_false])
  exact ⟨mm, hm.trans (by rw [leaf_val hv2]; rfl)⟩)
theorem T3_ok : TabOK T3 := by
  have h := T2_ok
  have h := h.addLoop (g := 24) (lid := 7) (r := l24_7) fun b k H o k' H' hv => by refine LoopOK.tab ?_ ?_ ?_ ?_ (l24_7_run b k H o k' H' hv) <;> rfl
  have h := h.addLoop (g := 25) (lid := 6) (r := l25_6) fun b k H o k' H' hv => by refine LoopOK.tab ?_ ?_ ?_ ?_ (l25_6_run b k H o k' H' hv) <;> rfl
  have h := h.addLoop (g := 81) (lid := 4) (r := l81_4) fun b k H o k' H' hv => by refine LoopOK.tab ?_ ?_ ?_ ?_ (l81_4_run b k H o k' H' hv) <;> rfl
  have h := h.addLoop (g := 56) (lid := 3) (r := l56_3) fun b k H o k' H' hv => by refine LoopOK.tab ?_ ?_ ?_ ?_ (l56_3_run b k H o k' H' hv) <;> rfl
  have h := h.addLoop (g := 59) (lid := 2) (r := l59_2) fun b k H o k' H' hv => by refine LoopOK.tab ?_ ?_ ?_ ?_ (l59_2_run b k H o k' H' hv) <;> rfl
  have h := h.addLoop (g := 59) (lid := 6) (r := l59_6) fun b k H o k' H' hv => by refine LoopOK.tab ?_ ?_ ?_ ?_ (l59_6_run b k H o k' H' hv) <;> rfl
  have h := h.addLoop (g := 55) (lid := 10) (r := l55_10) fun b k H o k' H' hv => by refine LoopOK.tab ?_ ?_ ?_ ?_ (l55_10_run b k H o k' H' hv) <;> rfl
  exact h
theorem chk_cases (w : Int) (l : List Int) : Clm.chk w l = (bif (l.length : Int) == 0 then 4 else bif decide ((l.length : Int) > 5) then 3 else bif Clm.okC l then (bif !Clm.inR w 0 (Clm.sumI l) then 1 else 0) else 1) := by
  unfold Clm.chk
  have e1 : (l.length == 0) = ((l.length : Int) == 0) := by rw [Bool.eq_iff_iff, beq_iff_eq, beq_iff_eq]; omega
  have e2 : decide (5 < l.length) = decide ((l.length : Int) > 5) := by simp only [decide_eq_decide]; omega
  rw [e1, e2]
  cases Clm.inR w 0 (Clm.sumI l) <;> rfl
theorem c24_run : ∀ args H v H', (c24 args H).val = some (v, H') → CallOK T3 24 args H v H' := c24_ok T3_ok (by
  intro l w r hv
  rw [leaf_val hv, nf24, chk_cases]
  cases h0 : (l.length : Int) == 0 with
  | true => rfl
  | false =>
    cases h5 : decide ((l.length : Int) > 5) with
    | true => rfl
    | false =>
      have h5 := of_decide_eq_false h5
      simp only [cond_false]
      rw [cond_t (by simp only [decide_true, decide_eq_true (show l.length ≤ 5 by omega), Bool.and_self])]
      cases Clm.okC l with
      | false => rfl
      | true => cases Clm.inR w 0 (Clm.sumI l) <;> rfl)
theorem c25_run : ∀ args H v H', (c25 args H).val = some (v, H') → CallOK T3 25 args H v H' := c25_ok T3_ok (by
  intro l w r hv
  rw [leaf_val hv, nf25, chk_cases]
  cases h0 : (l.length : Int) == 0 with
  | true => rfl
  | false =>
    cases h5 : decide ((l.length : Int) > 5) with
    | true => rfl
    | false =>
      have h5 := of_decide_eq_false h5
      simp only [cond_false]
      rw [cond_t (decide_eq_true (show l.length ≤ 5 by omega))]
      cases hc : Clm.okC l with
      | false => rfl
      | true =>
        simp only [cond_true]
        have hsb : Clm.sb l = true := Clm.sb_of fun x hx => by have := inR_get (okC_get hc hx); omega
        have hsm : sm l = true := decide_eq_true (by omega)
        rw [cond_t (by rw [hsm, hsb]; rfl)]
        cases Clm.inR w 0 (Clm.sumI l) <;> rfl)
theorem l81_1_run : ∀ base kv H o kv' H', (l81_1 base kv H).val = some (o, kv', H') → LoopOK T3 81 1 base kv H o kv' H' := l81_1_ok T3_ok (by kernel_rfl) (by
  intro l k a b r hv
  obtain ⟨hl, hv2⟩ := guard_val hv
  simp only [Bool.and_eq_true, decide_eq_true_eq] at hl
  obtain ⟨⟨⟨rfl, rfl⟩, h2⟩, h3⟩ := hl
  have hlen : ∀ (l : List Int) (j : Nat), (Clm.bub l j).length = l.length := fun l j => by
    induction j generalizing l with
    | zero => rfl
    | succ j ih =>
      unfold Clm.bub
      cases decide (l.getD (j + 1) 0 < l.getD j 0)
      · rfl
      · simp only [cond_true]; rw [ih]; simp
  have hk : ∀ r, (Clm.isortK r l).length = 5 := fun r => by
    unfold Clm.isortK
    induction r with
    | zero => exact h3
    | succ r ih => rw [List.range_succ, List.foldl_append, List.foldl_cons, List.foldl_nil, hlen, ih]
  obtain ⟨mm, hm⟩ := steps_of (T := T3) (fid := 81) (lid := 1) (base := 1) (c := lpc T3 81 1) (k - 1) (fun i => [osP 0 k, vi 0, vi k, vi ((i + 1 : Nat) : Int)]) (fun i => [some (rP (Clm.isortK i l))]) (.ext 0, [osP 0 k, vi 0, vi k, vi ((k - 1 + 1 : Nat) : Int)], [some (rP (Clm.isort k l))])
    (fun i hi again => by
      rw [nl81_1]
      simp only [decide_eq_true (show ((i + 1 : Nat) : Int) < (k : Int) by omega), cond_true, decide_true, decide_eq_true (show (0 : Int) ≤ ((i + 1 : Nat) : Int) by omega), decide_eq_true h2, decide_eq_true (hk i), Bool.and_self, toNat_cast]
      rw [wrap_succ (by omega)]
      unfold Clm.isortK
      rw [List.range_succ, List.foldl_append]
      rfl)
    (fun again => by
      rw [nl81_1]
      simp only [decide_eq_false (show ¬ ((k - 1 + 1 : Nat) : Int) < (k : Int) by omega), cond_false]
      rfl)
  exact ⟨mm, hm.trans (by rw [leaf_val hv2])⟩)
theorem c56_run : ∀ args H v H', (c56 args H).val = some (v, H') → CallOK T3 56 args H v H' := c56_ok T3_ok (by
  intro p q n r hv
  obtain ⟨hl, hv2⟩ := guard_val hv
  simp only [Bool.and_eq_true, decide_eq_true_eq] at hl
  obtain ⟨⟨⟨⟨⟨h1, h2⟩, h3⟩, h4⟩, h5⟩, h6⟩ := hl
  obtain ⟨k, rfl⟩ := Int.eq_ofNat_of_zero_le h1
  rw [leaf_val hv2, nf56, cond_t (decide_eq_true (by show [p.length * 1] = _; rw [h3]; kernel_rfl)), cond_t (decide_eq_true (by show [q.length * 1] = _; rw [h4]; kernel_rfl))]
  have hr : room k 8 = true := room_ok (by omega) (by omega)
  simp only [Int.toNat_natCast, dec_ge, cond_true, decide_true, hr, h3, h4, h5, h6, decide_eq_true (show k ≤ 5 by omega), show Clm.lenOK (List.replicate k 0) k = true from decide_eq_true (by simp), Bool.and_self])
theorem c59_run : ∀ args H v H', (c59 args H).val = some (v, H') → CallOK T3 59 args H v H' := c59_ok T3_ok (by
  intro bs t r hv
  obtain ⟨hl, hv2⟩ := guard_val hv
  have hs : sm bs = true := by simp only [Bool.and_eq_true] at hl; exact hl.1.1
  rw [leaf_val hv2, nf59, cond_t hl, cond_t hs]
  rfl)
theorem T4_ok : TabOK T4 := by
  have h := T3_ok
  have h := h.addCall (g := 24) (r := c24) fun a H v H' hv => by refine CallOK.tab ?_ ?_ (c24_run a H v H' hv) <;> rfl
  have h := h.addCall (g := 25) (r := c25) fun a H v H' hv => by refine CallOK.tab ?_ ?_ (c25_run a H v H' hv) <;> rfl
  have h := h.addLoop (g := 81) (lid := 1) (r := l81_1) fun b k H o k' H' hv => by refine LoopOK.tab ?_ ?_ ?_ ?_ (l81_1_run b k H o k' H' hv) <;> rfl
  have h := h.addCall (g := 56) (r := c56) fun a H v H' hv => by refine CallOK.tab ?_ ?_ (c56_run a H v H' hv) <;> rfl
  have h := h.addCall (g := 59) (r := c59) fun a H v H' hv => by refine CallOK.tab ?_ ?_ (c59_run a H v H' hv) <;> rfl
  exact h
end Go.Ev.Clm
