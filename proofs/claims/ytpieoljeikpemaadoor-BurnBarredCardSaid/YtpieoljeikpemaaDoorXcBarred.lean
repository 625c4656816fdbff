/- BurnBarred: the closure's loop and the body. -/
import Derived.Test.YtpieoljeikpemaaDoorXbBarred
import Derived.Test.YtpieoljeikpemaaDoorSh
import Derived.Test.YtpieoljeikpemaaDoorXaBarred
import Derived.Test.YtpieoljeikpemaaDoorSg
set_option linter.unusedVariables false
set_option linter.unusedSimpArgs false
namespace Go.Ev.Burn
open Go Go.Ev
set_option maxRecDepth 1000000
set_option maxHeartbeats 0
set_option linter.unusedVariables false
def l56_8t (d : Nat) (l D : List Int) (a n p : Int) : Tree (Out × List AV × Hp) := .br (Brn.brG n a D l && decide ((l.length : Int) < a + 1) && decide (a + 1 - l.length ≤ (d : Int)) && decide (p = Brn.frm l)) (.br (Brn.bR D a n l).isSome (.leaf (.ret, [lI l, ps 0, ps 2, ps 3, ps 4, vb true, ps 5], [some (qI a), some (qS (Brn.gotten (Brn.bR D a n l))), some (qI n), some (rD D), some qP, some (qI (Brn.nth (Brn.gotten (Brn.bR D a n l)) l.length))])) (.leaf (.ext 0, [lI l, ps 0, ps 2, ps 3, ps 4, vb false, ps 5], [some (qI a), some qN, some (qI n), some (rD D), some qP, some (qI n)]))) .fail
def l56_8 (d : Nat) (base : Nat) (kv : List AV) (H : Hp) : Tree (Out × List AV × Hp) := match Nat.beq base 5, kv, H with
  | true, [(.sl (.int .i64) l false), (.ps 0 0 0 0), (.ps 2 0 0 0), (.ps 3 0 0 0), (.ps 4 0 0 0), (.sc (.bool false)), (.ps 5 0 0 0)], [some ⟨[.sc (.int .i64 a)], true, 3, false, false, none⟩, some ⟨[.sc (.slice none 0 0)], true, 25, false, false, none⟩, some ⟨[.sc (.int .i64 n)], true, 3, false, false, none⟩, some ⟨[.run (.int .i64) D], true, 74, false, false, none⟩, some ⟨[.fn (.func 56) [] [.ps 0 0 0 0, .ps 1 0 0 0, .ps 2 0 0 0, .ps 3 0 0 0, .ps 4 0 0 0]], true, 88, false, true, none⟩, some ⟨[.sc (.int .i64 p)], true, 3, false, false, none⟩] => l56_8t d l D a n p
  | _, _, _ => .fail
theorem l56_8_ok (d : Nat) {T : Tab} (hT : TabOK T) (hlo : loopOf T.fn 56 8 = some (lpc T 56 8)) (h : ∀ (l D : List Int) (a n p : Int) (r : Out × List AV × Hp), (l56_8t d l D a n p).val = some r → ∃ mm, lpRun T 56 8 5 (lpc T 56 8) mm [lI l, ps 0, ps 2, ps 3, ps 4, vb false, ps 5] [some (qI a), some (qN), some (qI n), some (rD D), some (qP), some (qI p)] = some r) : ∀ base kv H o kv' H', (l56_8 d base kv H).val = some (o, kv', H') → LoopOK T 56 8 base kv H o kv' H' := by
  intro base kv H o kv' H' hv
  unfold l56_8 at hv
  split at hv
  · rename_i hb
    obtain rfl := Nat.eq_of_beq_eq_true hb
    exact loop_ok hT hlo (h _ _ _ _ _ _ hv)
  · cases hv
noncomputable def V7 (d : Nat) : Tab := (V6 d).addLoop 56 8 (l56_8 d)
theorem nf56 (d : Nat) (l D : List Int) (a n : Int) : evBody (V7 d) 56 [lI l, ps 0, ps 1, ps 2, ps 3, ps 4] [some (qI a), some qN, some (qI n), some (rD D), some qP] = (bif (↑l.length : Int) == IntKind.i64.wrap (a + 1) then some (vb true, [some ⟨[vi a], true, 3, false, false, none⟩, some ⟨[.sl (.int .i64) l false], true, 25, false, false, none⟩, some ⟨[vi n], true, 3, false, false, none⟩, some ⟨[.run (.int .i64) D], true, 74, false, false, none⟩, some ⟨[.fn (Go.Fn.func 56) [] [.ps 0 0 0 0, .ps 1 0 0 0, .ps 2 0 0 0, .ps 3 0 0 0, .ps 4 0 0 0]], true, 88, false, true, none⟩]) else bif decide ((↑l.length : Int) > 0) then bif decide (0 ≤ IntKind.i64.wrap ((↑l.length : Int) - 1)) then bif decide (IntKind.i64.wrap ((↑l.length : Int) - 1) < (↑l.length : Int)) then oM l[(IntKind.i64.wrap ((↑l.length : Int) - 1)).toNat]? fun x => bif Brn.brG n a D l && decide ((↑l.length : Int) < a + 1) && decide (a + 1 - (↑l.length : Int) ≤ (↑d : Int)) && decide (IntKind.i64.wrap (x + 1) = Brn.frm l) then bif (Brn.bR D a n l).isSome then some (vb true, [some ⟨[vi a], true, 3, false, false, none⟩, some ⟨[.sl (.int .i64) (Brn.gotten (Brn.bR D a n l)) false], true, 25, false, false, none⟩, some ⟨[vi n], true, 3, false, false, none⟩, some ⟨[.run (.int .i64) D], true, 74, false, false, none⟩, some ⟨[.fn (Go.Fn.func 56) [] [.ps 0 0 0 0, .ps 1 0 0 0, .ps 2 0 0 0, .ps 3 0 0 0, .ps 4 0 0 0]], true, 88, false, true, none⟩]) else some (vb false, [some ⟨[vi a], true, 3, false, false, none⟩, some ⟨[.sc (.slice none 0 0)], true, 25, false, false, none⟩, some ⟨[vi n], true, 3, false, false, none⟩, some ⟨[.run (.int .i64) D], true, 74, false, false, none⟩, some ⟨[.fn (Go.Fn.func 56) [] [.ps 0 0 0 0, .ps 1 0 0 0, .ps 2 0 0 0, .ps 3 0 0 0, .ps 4 0 0 0]], true, 88, false, true, none⟩]) else none else none else none else bif Brn.brG n a D l && decide ((↑l.length : Int) < a + 1) && decide (a + 1 - (↑l.length : Int) ≤ (↑d : Int)) && decide (0 = Brn.frm l) then bif (Brn.bR D a n l).isSome then some (vb true, [some ⟨[vi a], true, 3, false, false, none⟩, some ⟨[.sl (.int .i64) (Brn.gotten (Brn.bR D a n l)) false], true, 25, false, false, none⟩, some ⟨[vi n], true, 3, false, false, none⟩, some ⟨[.run (.int .i64) D], true, 74, false, false, none⟩, some ⟨[.fn (Go.Fn.func 56) [] [.ps 0 0 0 0, .ps 1 0 0 0, .ps 2 0 0 0, .ps 3 0 0 0, .ps 4 0 0 0]], true, 88, false, true, none⟩]) else some (vb false, [some ⟨[vi a], true, 3, false, false, none⟩, some ⟨[.sc (.slice none 0 0)], true, 25, false, false, none⟩, some ⟨[vi n], true, 3, false, false, none⟩, some ⟨[.run (.int .i64) D], true, 74, false, false, none⟩, some ⟨[.fn (Go.Fn.func 56) [] [.ps 0 0 0 0, .ps 1 0 0 0, .ps 2 0 0 0, .ps 3 0 0 0, .ps 4 0 0 0]], true, 88, false, true, none⟩]) else none) := by kernel_rfl
theorem nl59' (again : Ag) (m i : Int) (l : List Int) : lpStep V3 59 5 0 (lpc V3 59 5) again [lI l, vi m, vi i] [] = (bif decide (i < (↑l.length : Int)) then bif decide (0 ≤ i) then bif decide (i < (↑l.length : Int)) then oM l[i.toNat]? fun x => again [.sl (.int .i64) l false, vi (if x > m then x else m), vi (IntKind.i64.wrap (i + 1))] [] else none else none else some (.ext 0, [.sl (.int .i64) l false, vi m, vi i], [])) := by kernel_rfl
noncomputable def V8 : Tab := V5.addCall 56 (c56 11)
theorem nl12 (again : Ag) (k lo le n q i : Int) (D : List Int) : lpStep V8 12 14 0 (lpc V8 12 14) again [ps 0, ps 1, vi k, vi lo, vi le, vi q, vi i] [some (rD D), some (qI n)] = (bif decide (i < q) then bif decide (0 ≤ i) then bif decide (i < (↑9 : Int)) then bif decide (0 ≤ n) then bif decide (n ≤ (↑9 : Int)) then bif decide (9 + i.toNat * 9 ≤ D.length) then bif decide (i.toNat * 9 + n.toNat ≤ D.length) then bif sm (dropTake D (i.toNat * 9) n.toNat) && decide (0 < (dropTake D (i.toNat * 9) n.toNat).length) then again [.ps 0 0 0 0, .ps 1 0 0 0, vi k, vi (if Brn.maxL (dropTake D (i.toNat * 9) n.toNat) > lo then Brn.maxL (dropTake D (i.toNat * 9) n.toNat) else lo), vi (if Brn.maxL (dropTake D (i.toNat * 9) n.toNat) < le then Brn.maxL (dropTake D (i.toNat * 9) n.toNat) else le), vi q, vi (IntKind.i64.wrap (i + 1))] [some ⟨[.run (.int .i64) D], true, 74, false, false, none⟩, some ⟨[vi n], true, 3, false, false, none⟩] else none else none else none else none else none else none else none else some (.ext 0, [.ps 0 0 0 0, .ps 1 0 0 0, vi k, vi lo, vi le, vi q, vi i], [some ⟨[.run (.int .i64) D], true, 74, false, false, none⟩, some ⟨[vi n], true, 3, false, false, none⟩])) := by kernel_rfl
def _root_.Brn.mostP (D : List Int) (n : Int) (i : Nat) : Int := Brn.maxL ((List.range n.toNat).map fun j => Brn.at9 D i j)
def _root_.Brn.longP (D : List Int) (n : Int) : Int := (List.range n.toNat).foldl (fun s i => max s (Brn.mostP D n i)) 0
def _root_.Brn.leastP (D : List Int) (n : Int) : Int := (List.range n.toNat).foldl (fun s i => min s (Brn.mostP D n i)) 100
def l12_14t (k n q : Int) (D : List Int) : Tree (Out × List AV × Hp) := .br (decide (q = n) && decide (1 ≤ n) && decide (n ≤ 9) && decide (D.length = 81)) (.leaf (.ext 0, [ps 0, ps 1, vi k, vi (Brn.longP D n), vi (Brn.leastP D n), vi q, vi q], [some (rD D), some (qI n)])) .fail
def l12_14 (base : Nat) (kv : List AV) (H : Hp) : Tree (Out × List AV × Hp) := match Nat.beq base 0, kv, H with
  | true, [(.ps 0 0 0 0), (.ps 1 0 0 0), (.sc (.int .i64 k)), (.sc (.int .i64 0)), (.sc (.int .i64 100)), (.sc (.int .i64 q)), (.sc (.int .i64 0))], [some ⟨[.run (.int .i64) D], true, 74, false, false, none⟩, some ⟨[.sc (.int .i64 n)], true, 3, false, false, none⟩] => l12_14t k n q D
  | _, _, _ => .fail
theorem l12_14_ok {T : Tab} (hT : TabOK T) (hlo : loopOf T.fn 12 14 = some (lpc T 12 14)) (h : ∀ (k n q : Int) (D : List Int) (r : Out × List AV × Hp), (l12_14t k n q D).val = some r → ∃ mm, lpRun T 12 14 0 (lpc T 12 14) mm [ps 0, ps 1, vi k, vi 0, vi 100, vi q, vi 0] [some (rD D), some (qI n)] = some r) : ∀ base kv H o kv' H', (l12_14 base kv H).val = some (o, kv', H') → LoopOK T 12 14 base kv H o kv' H' := by
  intro base kv H o kv' H' hv
  unfold l12_14 at hv
  split at hv
  · rename_i hb
    obtain rfl := Nat.eq_of_beq_eq_true hb
    exact loop_ok hT hlo (h _ _ _ _ _ hv)
  · cases hv
noncomputable def V9 (N : Int) (W : Ws) (D : List Int) : Tab := (V8.addLoop 12 14 l12_14).addCall 50 (c50w N W D)
theorem nf12 (N : Int) (W : Ws) (D : List Int) (pl x q : Int) (b m : List Int) : evBody (V9 N W D) 12 [.agg [.sc (.int .u8 pl), .run (.int .u8) b, .run (.int .u8) m, .sc (.int .u8 x)] false, vint .u8 q] [] = (bif decide (List.map (fun (x : AV) => match x with | .run e l => l.length * e.size | _ => 1) [.sc (.int .u8 pl), .run (.int .u8) b, .run (.int .u8) m, .sc (.int .u8 x)] = List.map (fun (x : AV) => match x with | .run e l => l.length * e.size | _ => 1) ((List.foldl (fun acc f => match acc, zeroC (Burn.V9 N W D).P 7 f.type with | some a, some c => some (a ++ c) | x, x_1 => none) (some []) [{ name := "Places", type := 5, offset := 0, embedded := false, tag := "", pkgPath := "", byteOffset := 0 : Go.Field }, { name := "Back", type := 68, offset := 1, embedded := false, tag := "", pkgPath := "", byteOffset := 1 : Go.Field }, { name := "More", type := 70, offset := 10, embedded := false, tag := "", pkgPath := "", byteOffset := 10 : Go.Field }, { name := "Extra", type := 5, offset := 18, embedded := false, tag := "", pkgPath := "", byteOffset := 18 : Go.Field }]).getD [])) then bif Brn.skG pl x 9 b m N W D then bif decide (List.map (fun (x : AV) => match x with | .run e l => l.length * e.size | _ => 1) [.run (.int .i64) D] = List.map (fun (x : AV) => match x with | .run e l => l.length * e.size | _ => 1) ((some [.run (.int .i64) (List.replicate 81 0)]).getD [])) then bif Brn.brG N (IntKind.i64.wrap (1 + (IntKind.i64.wrap q).tmod 4)) D [] && decide (IntKind.i64.wrap (1 + (IntKind.i64.wrap q).tmod 4) + 1 - (↑0 : Int) < (↑11 : Int)) then bif (Brn.bR D (IntKind.i64.wrap (1 + (IntKind.i64.wrap q).tmod 4)) N []).isSome then bif sm W then bif Brn.barE N W (IntKind.i64.wrap (1 + (IntKind.i64.wrap q).tmod 4)) == 0 then bif sm W then bif Brn.chk N W != 0 then some (vb false, []) else bif !true == (Brn.barE N W (IntKind.i64.wrap (1 + (IntKind.i64.wrap q).tmod 4)) == 0) then some (vb false, []) else bif sm (Brn.barV N W (IntKind.i64.wrap (1 + (IntKind.i64.wrap q).tmod 4))) then bif !decide (Brn.barV N W (IntKind.i64.wrap (1 + (IntKind.i64.wrap q).tmod 4)) = Brn.gotten (Brn.bR D (IntKind.i64.wrap (1 + (IntKind.i64.wrap q).tmod 4)) N [])) then some (vb false, []) else bif decide (Brn.dayV N W ≤ IntKind.i64.wrap (1 + (IntKind.i64.wrap q).tmod 4)) then some (vb false, []) else bif sm W && sm (Brn.barV N W (IntKind.i64.wrap (1 + (IntKind.i64.wrap q).tmod 4))) then bif Brn.provE N W (IntKind.i64.wrap (1 + (IntKind.i64.wrap q).tmod 4)) (Brn.barV N W (IntKind.i64.wrap (1 + (IntKind.i64.wrap q).tmod 4))) != 0 then some (vb false, []) else bif decide (N = N) && decide (1 ≤ N) && decide (N ≤ 9) && decide (D.length = 81) then bif decide (IntKind.i64.wrap (Brn.dayV N W * Brn.dayV N W) ≥ IntKind.i64.wrap (Brn.longP D N + 1)) then bif decide (Brn.dayV N W ≤ IntKind.i64.wrap (Brn.leastP D N + 1)) then some (vb true, []) else some (vb false, []) else some (vb false, []) else none else none else none else none else bif sm W then bif Brn.chk N W != 0 then some (vb false, []) else bif !true == (Brn.barE N W (IntKind.i64.wrap (1 + (IntKind.i64.wrap q).tmod 4)) == 0) then some (vb false, []) else bif !decide ([] = Brn.gotten (Brn.bR D (IntKind.i64.wrap (1 + (IntKind.i64.wrap q).tmod 4)) N [])) then some (vb false, []) else bif decide (Brn.dayV N W ≤ IntKind.i64.wrap (1 + (IntKind.i64.wrap q).tmod 4)) then some (vb false, []) else bif sm W && sm ([] : List Int) then bif Brn.provE N W (IntKind.i64.wrap (1 + (IntKind.i64.wrap q).tmod 4)) [] != 0 then some (vb false, []) else bif decide (N = N) && decide (1 ≤ N) && decide (N ≤ 9) && decide (D.length = 81) then bif decide (IntKind.i64.wrap (Brn.dayV N W * Brn.dayV N W) ≥ IntKind.i64.wrap (Brn.longP D N + 1)) then bif decide (Brn.dayV N W ≤ IntKind.i64.wrap (Brn.leastP D N + 1)) then some (vb true, []) else some (vb false, []) else some (vb false, []) else none else none else none else none else bif sm W then bif Brn.barE N W (IntKind.i64.wrap (1 + (IntKind.i64.wrap q).tmod 4)) == 0 then bif sm W then bif Brn.chk N W != 0 then some (vb false, []) else bif !false == (Brn.barE N W (IntKind.i64.wrap (1 + (IntKind.i64.wrap q).tmod 4)) == 0) then some (vb false, []) else bif sm (Brn.barV N W (IntKind.i64.wrap (1 + (IntKind.i64.wrap q).tmod 4))) then bif !decide (Brn.barV N W (IntKind.i64.wrap (1 + (IntKind.i64.wrap q).tmod 4)) = []) then some (vb false, []) else bif Brn.barE N W (IntKind.i64.wrap (1 + (IntKind.i64.wrap q).tmod 4)) != 12 then some (vb false, []) else bif decide (N = N) && decide (1 ≤ N) && decide (N ≤ 9) && decide (D.length = 81) then bif decide (IntKind.i64.wrap (Brn.dayV N W * Brn.dayV N W) ≥ IntKind.i64.wrap (Brn.longP D N + 1)) then bif decide (Brn.dayV N W ≤ IntKind.i64.wrap (Brn.leastP D N + 1)) then some (vb true, []) else some (vb false, []) else some (vb false, []) else none else none else none else bif sm W then bif Brn.chk N W != 0 then some (vb false, []) else bif !false == (Brn.barE N W (IntKind.i64.wrap (1 + (IntKind.i64.wrap q).tmod 4)) == 0) then some (vb false, []) else bif Brn.barE N W (IntKind.i64.wrap (1 + (IntKind.i64.wrap q).tmod 4)) != 12 then some (vb false, []) else bif decide (N = N) && decide (1 ≤ N) && decide (N ≤ 9) && decide (D.length = 81) then bif decide (IntKind.i64.wrap (Brn.dayV N W * Brn.dayV N W) ≥ IntKind.i64.wrap (Brn.longP D N + 1)) then bif decide (Brn.dayV N W ≤ IntKind.i64.wrap (Brn.leastP D N + 1)) then some (vb true, []) else some (vb false, []) else some (vb false, []) else none else none else none else none else none else none else none) := by kernel_rfl
end Go.Ev.Burn
namespace Brn
open Go
set_option linter.unusedVariables false
variable {n : Int} {ws : W}
theorem near1_eq (h : Ok n ws) {p q a : Int} (hp : 0 ≤ p ∧ p < n) (hq : 0 ≤ q ∧ q < n) : near1 (distN n ws) p a q = decide ((farN n ws p q : Int) < 2 * a - 1) := by
  unfold near1
  obtain ⟨p, rfl⟩ := Int.eq_ofNat_of_zero_le hp.1
  obtain ⟨q, rfl⟩ := Int.eq_ofNat_of_zero_le hq.1
  rw [Int.toNat_natCast, Int.toNat_natCast, h.dist hp.2 hq.2]
theorem bD_eq (h : Ok n ws) (a : Int) : ∀ (m : Nat) (l : List Int), inP n l → apartB n ws (2 * a - 1) l = true → bD (distN n ws) a n.toNat m l = barF (apartB n ws (2 * a - 1)) n.toNat m l
  | 0, l, _, _ => rfl
  | m + 1, l, hl, ha => by
    simp only [bD, barF]
    refine findSome_congr fun p hp => ?_
    have hlo := h.lo
    have hp := List.mem_range.1 (List.mem_of_mem_drop hp)
    have e : (!l.any (near1 (distN n ws) (p : Int) a)) = apartB n ws (2 * a - 1) (l ++ [(p : Int)]) := by
      rw [apart_snoc, ha, Bool.true_and, List.not_any_eq_all_not]
      rw [Bool.eq_iff_iff, List.all_eq_true, List.all_eq_true]
      have key : ∀ x ∈ l, near1 (distN n ws) (p : Int) a x = decide ((farN n ws (p : Int) x : Int) < 2 * a - 1) := fun x hx => near1_eq h (by omega) (hl x hx)
      constructor
      · intro hh x hx; rw [← key x hx]; exact hh x hx
      · intro hh x hx; rw [key x hx]; exact hh x hx
    rw [e]
    cases hc : apartB n ws (2 * a - 1) (l ++ [(p : Int)]) with
    | false => rfl
    | true =>
      simp only [cond_true]
      refine bD_eq h a m _ (fun x hx => ?_) hc
      rcases List.mem_append.1 hx with hx | hx
      · exact hl x hx
      · rw [List.mem_singleton] at hx; subst hx; omega
def belowL (q : Option Int) (l : List Int) (p : Int) : Prop := match l.getLast? with
  | some x => x < p
  | none => match q with
    | some x => x < p
    | none => True
theorem asc_snoc {p : Int} (hp : 0 ≤ p ∧ p < n) : ∀ (l : List Int) (q : Option Int), ascE n l q = 0 → belowL q l p → ascE n (l ++ [p]) q = 0
  | [], q, _, hb => by
    rw [List.nil_append, ascE_cons, inR_t hp]
    simp only [belowL, List.getLast?_nil] at hb
    cases q with
    | none => rfl
    | some x =>
      simp only at hb
      have : lastLe (some x) p = false := by unfold lastLe; exact decide_eq_false (by omega)
      rw [this]; rfl
  | y :: l, q, he, hb => by
    rw [List.cons_append, ascE_cons]
    rw [ascE_cons] at he
    cases h1 : inR y 0 (n - 1) with
    | false => rw [h1] at he; cases he
    | true =>
      rw [h1] at he
      simp only [Bool.not_true, cond_false] at he ⊢
      cases h2 : lastLe q y with
      | true => rw [h2] at he; cases he
      | false =>
        rw [h2] at he
        simp only [cond_false] at he ⊢
        refine asc_snoc hp l (some y) he ?_
        unfold belowL at hb ⊢
        cases l with
        | nil => simpa using hb
        | cons z t =>
          rw [List.getLast?_cons_cons] at hb
          cases hg : (z :: t).getLast? with
          | none => simp at hg
          | some x => rw [hg] at hb; exact hb
theorem bar_spec {least : Int} (hlo : 0 ≤ n) : ∀ (m : Nat) (l x : List Int), barF (apartB n ws least) n.toNat m l = some x → inP n l → apartB n ws least l = true → ascE n l none = 0 →
    x.length = l.length + m ∧ inP n x ∧ apartB n ws least x = true ∧ ascE n x none = 0
  | 0, l, x, h, a, b, c => by obtain rfl := Option.some.inj h; exact ⟨rfl, a, b, c⟩
  | m + 1, l, x, h, a, b, c => by
    simp only [barF] at h
    obtain ⟨p, hp, hx⟩ := List.exists_of_findSome?_eq_some h
    have hpn := List.mem_range.1 (List.mem_of_mem_drop hp)
    have hpf : (frm l).toNat ≤ p := by
      rw [List.mem_drop_iff_getElem] at hp
      obtain ⟨i, hi, e⟩ := hp
      rw [List.getElem_range] at e
      omega
    cases hc : apartB n ws least (l ++ [(p : Int)]) with
    | false => rw [hc] at hx; cases hx
    | true =>
      rw [hc] at hx
      simp only [cond_true] at hx
      obtain ⟨e1, e2, e3, e4⟩ := bar_spec hlo m _ x hx (fun y hy => by
        rcases List.mem_append.1 hy with hy | hy
        · exact a y hy
        · rw [List.mem_singleton] at hy; subst hy; omega) hc (asc_snoc (by omega) l none c (by
          unfold belowL
          unfold frm at hpf
          cases hg : l.getLast? with
          | none => trivial
          | some y =>
            rw [hg] at hpf
            have := a y (List.mem_of_getLast? hg)
            show y < (p : Int)
            simp only at hpf
            omega))
      exact ⟨by rw [e1, List.length_append, List.length_singleton]; omega, e2, e3, e4⟩
theorem fold_pick {op : Int → Int → Int} (hop : ∀ a b, op a b = a ∨ op a b = b) (f : Nat → Int) : ∀ (l : List Nat) (s : Int), l.foldl (fun s i => op s (f i)) s = s ∨ ∃ i ∈ l, l.foldl (fun s i => op s (f i)) s = f i
  | [], s => .inl rfl
  | x :: l, s => by
    rw [List.foldl_cons]
    rcases fold_pick hop f l (op s (f x)) with h | ⟨i, hi, h⟩
    · rcases hop s (f x) with e | e
      · left; rw [h, e]
      · right; exact ⟨x, by simp, by rw [h, e]⟩
    · exact .inr ⟨i, by simp [hi], h⟩
theorem most_spec (h : Ok n ws) {i : Nat} (hi : i < n.toNat) : (∃ j : Nat, j < n.toNat ∧ mostP (distN n ws) n i = (farN n ws i j : Int)) ∧ ∀ j : Nat, j < n.toNat → (farN n ws i j : Int) ≤ mostP (distN n ws) n i := by
  have hlo := h.lo
  unfold mostP
  have hat : ∀ j, j < n.toNat → at9 (distN n ws) i j = (farN n ws i j : Int) := fun j hj => h.dist (by omega) (by omega)
  constructor
  · have hm := maxL_mem (l := (List.range n.toNat).map fun j => at9 (distN n ws) i j) (by
      intro e
      have := congrArg List.length e
      rw [List.length_map, List.length_range] at this
      simp at this; omega)
    obtain ⟨j, hj, e⟩ := List.mem_map.1 hm
    have hj := List.mem_range.1 hj
    exact ⟨j, hj, by rw [← e, hat j hj]⟩
  · intro j hj
    rw [← hat j hj]
    exact le_maxL (List.mem_map.2 ⟨j, List.mem_range.2 hj, rfl⟩)
theorem long_ok (h : Ok n ws) : longP (distN n ws) n + 1 ≤ (dd n ws : Int) * dd n ws ∧ longP (distN n ws) n ≤ 8 ∧ 0 ≤ longP (distN n ws) n := by
  have hlo := h.lo
  obtain ⟨d1, d2, _⟩ := dd_spec h
  unfold longP
  rcases fold_pick (op := max) (fun a b => by omega) (mostP (distN n ws) n) (List.range n.toNat) 0 with e | ⟨i, hi, e⟩
  · rw [e]
    have : (1 : Int) * 1 ≤ (dd n ws : Int) * dd n ws := Int.mul_le_mul (by omega) (by omega) (by omega) (by omega)
    omega
  · have hi := List.mem_range.1 hi
    obtain ⟨⟨j, hj, e2⟩, _⟩ := most_spec h hi
    rw [e, e2]
    have := long_way h (a := i) (b := j) (by omega) (by omega)
    have f := (h.far (a := i) (b := j) (by omega) (by omega)).2
    have c : ((dd n ws * dd n ws : Nat) : Int) = (dd n ws : Int) * dd n ws := by rw [Int.natCast_mul]
    omega
theorem least_ok (h : Ok n ws) : (dd n ws : Int) ≤ leastP (distN n ws) n + 1 ∧ 0 ≤ leastP (distN n ws) n ∧ leastP (distN n ws) n ≤ 100 := by
  have hlo := h.lo
  have hhi := h.hi
  obtain ⟨d1, d2, _⟩ := dd_spec h
  unfold leastP
  rcases fold_pick (op := min) (fun a b => by omega) (mostP (distN n ws) n) (List.range n.toNat) 100 with e | ⟨i, hi, e⟩
  · rw [e]; omega
  · have hi := List.mem_range.1 hi
    obtain ⟨⟨j, hj, e2⟩, e3⟩ := most_spec h hi
    rw [e, e2]
    rw [e2] at e3
    have f := (h.far (a := i) (b := j) (by omega) (by omega)).2
    have := one_place h (c := i) (e := farN n ws i j) (by omega) (fun v hv => by have := e3 v (by omega); omega) (by omega)
    omega
end Brn
namespace Go.Ev.Burn
open Go Go.Ev
set_option maxRecDepth 1000000
set_option linter.unusedVariables false
set_option linter.unusedSimpArgs false
theorem c83_run : ∀ args H v H', (c83 args H).val = some (v, H') → CallOK S22 83 args H v H' := c83_ok S22_ok (by
  intro l r hv
  cases l with
  | nil =>
    rcases br_val hv with ⟨_, hv⟩ | ⟨h, _⟩
    · rw [leaf_val hv, nf83n 0]
    · cases h
  | cons x l =>
    rcases br_val hv with ⟨h, _⟩ | ⟨_, hv⟩
    · cases h
    · rw [leaf_val hv, nf83c, List.take_length]
      simp only [decide_eq_true (Int.le_refl _), decide_true, cond_true])
theorem getO {l : List Int} {i : Nat} (h : i < l.length) : l[i]? = some (l.getD i 0) := by
  rw [List.getD_eq_getElem?_getD, List.getElem?_eq_getElem h]; rfl
theorem S23_ok : TabOK S23 := by
  have h := S22_ok
  have h := h.addCall (g := 83) (r := c83) fun a H v H' hv => by refine CallOK.tab ?_ ?_ (c83_run a H v H' hv) <;> rfl
  exact h
theorem S24_ok : TabOK S24 := by
  have h := S23_ok
  exact h
theorem S25_ok : TabOK S25 := by
  have h := S24_ok
  exact h
end Go.Ev.Burn
namespace Go.Ev.Burn
open Go Go.Ev
set_option maxRecDepth 1000000
set_option linter.unusedVariables false
set_option linter.unusedSimpArgs false
set_option maxHeartbeats 4000000
theorem andN_bound {f : Int} (h0 : 0 ≤ f) (h : f < 512) (x : Int) : 0 ≤ Brn.andN f x ∧ Brn.andN f x < 512 := by
  obtain ⟨f, rfl⟩ := Int.eq_ofNat_of_zero_le h0
  unfold Brn.andN
  have e : (BitVec.ofInt 64 (f : Int) &&& ~~~ BitVec.ofInt 64 x).toNat ≤ f := by
    rw [BitVec.toNat_and, BitVec.ofInt_natCast, BitVec.toNat_ofNat, Nat.mod_eq_of_lt (by omega)]
    exact Nat.and_le_left
  rw [wrapu (by omega) (by omega)]
  omega
theorem low_lt {f : Nat} (h : f < 512) (h0 : f ≠ 0) : ∃ g : Nat, Brn.low (f : Int) = (g : Int) ∧ g < f := by
  refine ⟨f &&& (f - 1), ?_, (Brn.bits_step f h h0).2.2⟩
  unfold Brn.low
  rw [show ((f : Int) - 1) = ((f - 1 : Nat) : Int) by omega, Brn.andU_nat (by omega) (by omega)]
theorem rad_if {d : Int} (h1 : 1 ≤ d) (h9 : d ≤ 9) : (if 8 < IntKind.i64.wrap (IntKind.i64.wrap (2 * d) - 2) then 8 else IntKind.i64.wrap (IntKind.i64.wrap (2 * d) - 2)) = Brn.rad d := by
  rw [wrapi (x := 2 * d) (by omega) (by omega), wrapi (x := 2 * d - 2) (by omega) (by omega)]
  unfold Brn.rad
  rw [Int.min_def]
  split <;> split <;> omega
theorem l81_4_run (d : Nat) (hT : TabOK (C0 d)) : ∀ base kv H o kv' H', (l81_4 d base kv H).val = some (o, kv', H') → LoopOK (C0 d) 81 4 base kv H o kv' H' := l81_4_ok d hT (by kernel_rfl) (by
  intro l f nb n g r hv
  obtain ⟨hl, hv2⟩ := guard_val hv
  simp only [Bool.and_eq_true, decide_eq_true_eq] at hl
  obtain ⟨⟨⟨⟨⟨⟨a1, a2⟩, a3⟩, a4⟩, a5⟩, a6⟩, a7⟩ := hl
  obtain ⟨f, rfl⟩ := Int.eq_ofNat_of_zero_le a5
  obtain ⟨m, hm⟩ : ∃ m : Nat, (nb + 1 - l.length).toNat = m + 1 := ⟨(nb - l.length).toNat, by omega⟩
  generalize hF : (fun (p c : Int) => Brn.apS g (Brn.rad nb) m (l ++ [p]) (Brn.andN c (g.getD ((Brn.rad nb).toNat + p.toNat * 9) 0))) = F
  have eB : Brn.apG g nb l (f : Int) = Brn.scanP F 512 (f : Int) := by unfold Brn.apG; rw [hm]; simp only [Brn.apS]; rw [hF]
  have eL : Brn.apLast g nb l (f : Int) = Brn.scanF F 512 (f : Int) := by unfold Brn.apLast; rw [hm]; simp only; rw [hF]
  generalize Brn.apG g nb l (f : Int) = B at hv2 eB
  generalize Brn.apLast g nb l (f : Int) = L at hv2 eL
  have hz : ∀ f : Nat, f ≠ 0 → (((f : Nat) : Int) == 0) = false := fun f h => by simpa using h
  obtain ⟨mm, hmm⟩ := lpRun_of (T := C0 d) (fid := 81) (lid := 4) (base := 5) (c := lpc (C0 d) 81 4) (fun s : Nat × Nat => s.2 < s.1 ∧ s.2 < 512 ∧ B = Brn.scanP F s.1 (s.2 : Int) ∧ L = Brn.scanF F s.1 (s.2 : Int))
    (fun s => [lI l, vint .u64 s.2, ps 0, ps 2, ps 3, vb false]) (fun _ => [some (rVi nb 3), some rNil, some rPq, some rPt4, some (rG n g)])
    (fun _ => bif B.isSome then (.ret, [lI l, vint .u64 L, ps 0, ps 2, ps 3, vb true], [some (rVi nb 3), some (rOut (Brn.gotten B)), some rPq, some rPt4, some (rG n g)]) else (.ext 0, [lI l, vint .u64 0, ps 0, ps 2, ps 3, vb false], [some (rVi nb 3), some rNil, some rPq, some rPt4, some (rG n g)])) (fun s => s.2)
    (fun s hs again => by
      obtain ⟨k, f⟩ := s
      obtain ⟨h1, h2, h3, h4⟩ := hs
      simp only at h1 h2 h3 h4
      cases k with
      | zero => omega
      | succ k =>
      simp only [Brn.scanP, Brn.scanF] at h3 h4
      have step : lpStep (C0 d) 81 4 5 (lpc (C0 d) 81 4) again [lI l, vint .u64 f, ps 0, ps 2, ps 3, vb false] [some (rVi nb 3), some rNil, some rPq, some rPt4, some (rG n g)] =
          bif (f : Int) == 0 then some (.ext 0, [lI l, vint .u64 f, ps 0, ps 2, ps 3, vb false], [some (rVi nb 3), some rNil, some rPq, some rPt4, some (rG n g)])
          else bif (F (Brn.tz f : Int) f).isSome then some (.ret, [lI l, vint .u64 f, ps 0, ps 2, ps 3, vb true], [some (rVi nb 3), some (rOut (Brn.gotten (F (Brn.tz f : Int) f))), some rPq, some rPt4, some (rG n g)])
          else again [lI l, vint .u64 (Brn.low f), ps 0, ps 2, ps 3, vb false] [some (rVi nb 3), some rNil, some rPq, some rPt4, some (rG n g)] := by
        by_cases hf0 : f = 0
        · subst hf0
          cases l with
          | nil => rw [nl81n]; rfl
          | cons y l => rw [nl81c]; rfl
        · have ht := (Brn.bits_step f h2 hf0).2.1
          have hx : g[(Brn.rad nb).toNat + Brn.tz f * 9]? = some (g.getD ((Brn.rad nb).toNat + Brn.tz f * 9) 0) := get9 a7 (by unfold Brn.rad; omega)
          have hb := andN_bound (f := (f : Int)) (by omega) (by omega) (g.getD ((Brn.rad nb).toNat + Brn.tz f * 9) 0)
          have hr : 0 ≤ Brn.rad nb ∧ Brn.rad nb < 9 := by unfold Brn.rad; omega
          have hand : IntKind.u64.wrap ((BitVec.ofInt 64 (f : Int) &&& ~~~BitVec.ofInt 64 (g.getD ((Brn.rad nb).toNat + Brn.tz f * 9) 0)).toNat : Int) = Brn.andN f (g.getD ((Brn.rad nb).toNat + Brn.tz f * 9) 0) := rfl
          have hlow : IntKind.u64.wrap ((BitVec.ofInt 64 (f : Int) &&& BitVec.ofInt 64 (IntKind.u64.wrap ((f : Int) - 1))).toNat : Int) = Brn.low f := by
            rw [wrapu (x := (f : Int) - 1) (by omega) (by omega)]; rfl
          have hFe : F (Brn.tz f : Int) f = Brn.apS g (Brn.rad nb) m (l ++ [(Brn.tz f : Int)]) (Brn.andN f (g.getD ((Brn.rad nb).toNat + Brn.tz f * 9) 0)) := by rw [← hF]; simp only [toNat_cast]
          have hG : Brn.apG g nb (l ++ [(Brn.tz f : Int)]) (Brn.andN f (g.getD ((Brn.rad nb).toNat + Brn.tz f * 9) 0)) = F (Brn.tz f : Int) f := by
            rw [hFe]; unfold Brn.apG
            rw [show (nb + 1 - ((l ++ [(Brn.tz f : Int)]).length : Int)).toNat = m by simp; omega]
          have e2 : (((l ++ [(Brn.tz f : Int)]).length : Nat) : Int) = (l.length : Int) + 1 := by simp
          cases l with
          | nil =>
            have hG' : Brn.apG g nb [(Brn.tz f : Int)] (Brn.andN f (g.getD ((Brn.rad nb).toNat + Brn.tz f * 9) 0)) = F (Brn.tz f : Int) f := hG
            rw [nl81n]
            rw [rad_if a3 a4]
            simp only [toNat_cast, List.nil_append, hx, oM, hand, hlow, hG', bne, hz f hf0, Bool.not_false, cond_true, cond_false, decide_eq_true (show (0 : Int) < (f : Int) by omega), decide_eq_true (show (f : Int) < 512 by omega), Bool.and_self, decide_eq_true (show (Brn.tz f : Int) < 9 by omega), decide_eq_true hr.1, decide_eq_true hr.2,
              decide_eq_true (show nb + 1 - 1 < (d : Int) by simp at a1; omega), decide_eq_true (show (1 : Int) ≤ nb + 1 by omega), decide_eq_true a3, decide_eq_true a4, decide_eq_true hb.1, decide_eq_true hb.2, decide_eq_true a7]
          | cons y l =>
            rw [nl81c]
            rw [rad_if a3 a4]
            have hrm : room ((y :: l).length + 1) 8 = true := room_ok (by simp only [List.length_cons] at a2 ⊢; omega) (by omega)
            rw [hrm]
            simp only [toNat_cast, hx, oM, hand, hlow, hG, e2, bne, hz f hf0, Bool.not_false, cond_true, cond_false, decide_eq_true (show (0 : Int) < (f : Int) by omega), decide_eq_true (show (f : Int) < 512 by omega), Bool.and_self, decide_eq_true (show (Brn.tz f : Int) < 9 by omega), decide_eq_true hr.1, decide_eq_true hr.2,
              decide_eq_true (show nb + 1 - (((y :: l).length : Int) + 1) < (d : Int) by omega), decide_eq_true (show (((y :: l).length : Int) + 1) ≤ nb + 1 by omega), decide_eq_true a3, decide_eq_true a4, decide_eq_true hb.1, decide_eq_true hb.2, decide_eq_true a7]
      simp only
      rw [step]
      by_cases hf0 : f = 0
      · subst hf0
        left
        rw [show ((((0 : Nat) : Int)) == 0) = true from rfl] at h3 ⊢
        simp only [cond_true] at h3
        subst h3
        rfl
      · rw [hz f hf0] at h3 h4 ⊢
        simp only [cond_false, toNat_cast] at h3 h4 ⊢
        cases hx : F (Brn.tz f : Int) f with
        | some x =>
          rw [hx] at h3 h4
          simp only at h3 h4
          subst h3
          subst h4
          left; rfl
        | none =>
          rw [hx] at h3 h4
          simp only at h3 h4
          obtain ⟨q, hq1, hq2⟩ := low_lt h2 hf0
          rw [hq1] at h3 h4 ⊢
          exact .inr ⟨(k, q), ⟨by simp only; omega, by simp only; omega, h3, h4⟩, hq2, by trivial, rfl⟩) (512, f) ⟨by simp only; omega, by simp only; omega, eB, eL⟩
  refine ⟨mm, hmm.trans ?_⟩
  rcases br_val hv2 with ⟨h, hv3⟩ | ⟨h, hv3⟩ <;> rw [leaf_val hv3, h] <;> rfl)
theorem c81_run (d : Nat) (hT : TabOK (C1 d)) : ∀ args H v H', (c81 (d + 1) args H).val = some (v, H') → CallOK (C1 d) 81 args H v H' := c81_ok (d + 1) hT (by
  intro l f nb n g r hv
  obtain ⟨hl, hv2⟩ := guard_val hv
  simp only [Bool.and_eq_true, decide_eq_true_eq] at hl
  obtain ⟨⟨⟨⟨⟨⟨a1, a2⟩, a3⟩, a4⟩, a5⟩, a6⟩, a7⟩ := hl
  rw [nf81b]
  by_cases hlen : (l.length : Int) > nb
  · rw [decide_eq_true hlen]
    have e : Brn.apG g nb l f = some l := by unfold Brn.apG; rw [show (nb + 1 - (l.length : Int)).toNat = 0 by omega]; rfl
    rw [e] at hv2
    rw [leaf_val hv2]
    rfl
  · rw [decide_eq_false hlen, decide_eq_true (show nb + 1 - (l.length : Int) ≤ (d : Int) by omega), decide_eq_true (show (l.length : Int) ≤ nb by omega), decide_eq_true a3, decide_eq_true a4, decide_eq_true a5, decide_eq_true a6, decide_eq_true a7]
    rcases br_val hv2 with ⟨h, hv3⟩ | ⟨h, hv3⟩ <;> rw [leaf_val hv3, h] <;> rfl)
theorem c81_zero : ∀ args H, (c81 0 args H).val = none := by
  intro args H
  cases hr : (c81 0 args H).val with
  | none => rfl
  | some r =>
    exfalso
    unfold c81 at hr
    split at hr
    · obtain ⟨hg, _⟩ := guard_val hr
      simp only [Bool.and_eq_true, decide_eq_true_eq] at hg
      omega
    · cases hr
theorem C0_ok : ∀ d, TabOK (C0 d)
  | 0 => S25_ok.addCall fun a H v H' hv => by rw [c81_zero] at hv; cases hv
  | d + 1 => by
    have h0 := C0_ok d
    have h1 : TabOK (C1 d) := h0.addLoop fun b k H o k' H' hv => by refine LoopOK.tab ?_ ?_ ?_ ?_ (l81_4_run d h0 b k H o k' H' hv) <;> rfl
    exact S25_ok.addCall fun a H v H' hv => by refine CallOK.tab ?_ ?_ (c81_run d h1 a H v H' hv) <;> rfl
end Go.Ev.Burn
