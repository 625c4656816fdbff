/- The lane chapter's table: tables and normal forms, by the number of carts. -/
import Derived.Test.YtlckdhlepjimeaaSc
set_option linter.unusedVariables false
set_option linter.unusedSimpArgs false
namespace Go.Ev.Lane
open Go Go.Ev
set_option maxRecDepth 1000000
set_option maxHeartbeats 0
set_option linter.unusedVariables false
abbrev rX (ya ti : List Int) : Row := ⟨[.sl (.int .i64) ya false, .sl (.int .i64) ti false], true, 26, false, false, none⟩
abbrev rowO (c : List AV) : Row := ⟨c, false, 22, false, true, none⟩
abbrev nS : AV := .sc (.slice none 0 0)
noncomputable def T12 : Tab := { U0 16 with il := false, nest := true }
theorem nl18_1a (y0 t0 i : Int) (sh C : List Int) (a b : Int) : lpRun T12 18 10 0 (lpc T12 18 10) 2 [ps 0, ps 1, osT 2 1, osT 3 C.length, lI [t0], vi 1, vi i, lI [y0], vi 1, vi 0] [some (rP a b sh 24), some (rX [y0] [t0]), some (rowO [nS]), some (rowI C 3)] = (bif decide (0 ≤ y0) then bif decide (y0 < (↑C.length : Int)) then oM C[y0.toNat]? fun x => some (.ext 2, [.ps 0 0 0 0, .ps 1 0 0 0, .os 2 0 0 1 true true true, .os 3 0 0 C.length true true true, .sl (.int .i64) [t0] false, vi 1, vi i, .sl (.int .i64) [y0] false, vi 1, vi 1], [some ⟨[vi a, vi b, .sl (.int .i64) sh false], true, 24, false, false, none⟩, some ⟨[.sl (.int .i64) [y0] false, .sl (.int .i64) [t0] false], true, 26, false, false, none⟩, some ⟨[osW 4 1], false, 22, false, true, none⟩, some ⟨[.run (.int .i64) C], false, 3, false, false, none⟩, some ⟨[.run (.int .i64) [x]], false, 3, false, false, none⟩]) else none else none) := by kernel_rfl
def l18_10n1at (y0 t0 i : Int) (sh C : List Int) (a b : Int) (ya ti : List Int) (kc : Nat) : Tree (Out × List AV × Hp) := .br (decide (kc = C.length) && decide (ya = [y0]) && decide (ti = [t0]) && decide (0 ≤ y0) && decide (y0 < (C.length : Int))) (.leaf (.ext 2, [ps 0, ps 1, osT 2 1, osT 3 kc, lI [t0], vi 1, vi i, lI [y0], vi 1, vi 1], [some (rP a b sh 24), some (rX [y0] [t0]), some (rowO [osW 4 1]), some (rowI C 3), some (rowI [C.getD y0.toNat 0] 3)])) .fail
def l18_10n1a (base : Nat) (kv : List AV) (H : Hp) : Tree (Out × List AV × Hp) := match Nat.beq base 0, kv, H with
  | true, [(.ps 0 0 0 0), (.ps 1 0 0 0), (.os 2 0 0 1 true true true), (.os 3 0 0 kc true true true), (.sl (.int .i64) [t0] false), (.sc (.int .i64 1)), (.sc (.int .i64 i)), (.sl (.int .i64) [y0] false), (.sc (.int .i64 1)), (.sc (.int .i64 0))], [some ⟨[.sc (.int .i64 a), .sc (.int .i64 b), .sl (.int .i64) sh false], true, 24, false, false, none⟩, some ⟨[.sl (.int .i64) ya false, .sl (.int .i64) ti false], true, 26, false, false, none⟩, some ⟨[(.sc (.slice none 0 0))], false, 22, false, true, none⟩, some ⟨[.run (.int .i64) C], false, 3, false, false, none⟩] => l18_10n1at y0 t0 i sh C a b ya ti kc
  | _, _, _ => .fail
theorem l18_10n1a_ok {T : Tab} (hT : TabOK T) (hlo : loopOf T.fn 18 10 = some (lpc T 18 10)) (h : ∀ (y0 t0 i : Int) (sh C : List Int) (a b : Int) (ya ti : List Int) (kc : Nat) (r : Out × List AV × Hp), (l18_10n1at y0 t0 i sh C a b ya ti kc).val = some r → ∃ mm, lpRun T 18 10 0 (lpc T 18 10) mm [ps 0, ps 1, osT 2 1, osT 3 kc, lI [t0], vi 1, vi i, lI [y0], vi 1, vi 0] [some (rP a b sh 24), some (rX ya ti), some (rowO [nS]), some (rowI C 3)] = some r) : ∀ base kv H o kv' H', (l18_10n1a base kv H).val = some (o, kv', H') → LoopOK T 18 10 base kv H o kv' H' := by
  intro base kv H o kv' H' hv
  unfold l18_10n1a at hv
  split at hv
  · rename_i hb
    obtain rfl := Nat.eq_of_beq_eq_true hb
    exact loop_ok hT hlo (h _ _ _ _ _ _ _ _ _ _ _ hv)
  · cases hv
theorem nl18_2a (y0 y1 t0 t1 i : Int) (sh C : List Int) (a b : Int) : lpRun T12 18 10 0 (lpc T12 18 10) 3 [ps 0, ps 1, osT 2 2, osT 3 C.length, lI [t0, t1], vi 2, vi i, lI [y0, y1], vi 2, vi 0] [some (rP a b sh 24), some (rX [y0, y1] [t0, t1]), some (rowO [nS, nS]), some (rowI C 3)] = (bif decide (0 ≤ y0) then bif decide (y0 < (↑C.length : Int)) then oM C[y0.toNat]? fun x => bif decide (0 ≤ y1) then bif decide (y1 < (↑C.length : Int)) then oM C[y1.toNat]? fun x_1 => some (.ext 2, [.ps 0 0 0 0, .ps 1 0 0 0, .os 2 0 0 2 true true true, .os 3 0 0 C.length true true true, .sl (.int .i64) [t0, t1] false, vi 2, vi i, .sl (.int .i64) [y0, y1] false, vi 2, vi 2], [some ⟨[vi a, vi b, .sl (.int .i64) sh false], true, 24, false, false, none⟩, some ⟨[.sl (.int .i64) [y0, y1] false, .sl (.int .i64) [t0, t1] false], true, 26, false, false, none⟩, some ⟨[osW 4 1, osW 5 1], false, 22, false, true, none⟩, some ⟨[.run (.int .i64) C], false, 3, false, false, none⟩, some ⟨[.run (.int .i64) [x]], false, 3, false, false, none⟩, some ⟨[.run (.int .i64) [x_1]], false, 3, false, false, none⟩]) else none else none else none else none) := by kernel_rfl
def l18_10n2at (y0 y1 t0 t1 i : Int) (sh C : List Int) (a b : Int) (ya ti : List Int) (kc : Nat) : Tree (Out × List AV × Hp) := .br (decide (kc = C.length) && decide (ya = [y0, y1]) && decide (ti = [t0, t1]) && decide (0 ≤ y0) && decide (y0 < (C.length : Int)) && decide (0 ≤ y1) && decide (y1 < (C.length : Int))) (.leaf (.ext 2, [ps 0, ps 1, osT 2 2, osT 3 kc, lI [t0, t1], vi 2, vi i, lI [y0, y1], vi 2, vi 2], [some (rP a b sh 24), some (rX [y0, y1] [t0, t1]), some (rowO [osW 4 1, osW 5 1]), some (rowI C 3), some (rowI [C.getD y0.toNat 0] 3), some (rowI [C.getD y1.toNat 0] 3)])) .fail
def l18_10n2a (base : Nat) (kv : List AV) (H : Hp) : Tree (Out × List AV × Hp) := match Nat.beq base 0, kv, H with
  | true, [(.ps 0 0 0 0), (.ps 1 0 0 0), (.os 2 0 0 2 true true true), (.os 3 0 0 kc true true true), (.sl (.int .i64) [t0, t1] false), (.sc (.int .i64 2)), (.sc (.int .i64 i)), (.sl (.int .i64) [y0, y1] false), (.sc (.int .i64 2)), (.sc (.int .i64 0))], [some ⟨[.sc (.int .i64 a), .sc (.int .i64 b), .sl (.int .i64) sh false], true, 24, false, false, none⟩, some ⟨[.sl (.int .i64) ya false, .sl (.int .i64) ti false], true, 26, false, false, none⟩, some ⟨[(.sc (.slice none 0 0)), (.sc (.slice none 0 0))], false, 22, false, true, none⟩, some ⟨[.run (.int .i64) C], false, 3, false, false, none⟩] => l18_10n2at y0 y1 t0 t1 i sh C a b ya ti kc
  | _, _, _ => .fail
theorem l18_10n2a_ok {T : Tab} (hT : TabOK T) (hlo : loopOf T.fn 18 10 = some (lpc T 18 10)) (h : ∀ (y0 y1 t0 t1 i : Int) (sh C : List Int) (a b : Int) (ya ti : List Int) (kc : Nat) (r : Out × List AV × Hp), (l18_10n2at y0 y1 t0 t1 i sh C a b ya ti kc).val = some r → ∃ mm, lpRun T 18 10 0 (lpc T 18 10) mm [ps 0, ps 1, osT 2 2, osT 3 kc, lI [t0, t1], vi 2, vi i, lI [y0, y1], vi 2, vi 0] [some (rP a b sh 24), some (rX ya ti), some (rowO [nS, nS]), some (rowI C 3)] = some r) : ∀ base kv H o kv' H', (l18_10n2a base kv H).val = some (o, kv', H') → LoopOK T 18 10 base kv H o kv' H' := by
  intro base kv H o kv' H' hv
  unfold l18_10n2a at hv
  split at hv
  · rename_i hb
    obtain rfl := Nat.eq_of_beq_eq_true hb
    exact loop_ok hT hlo (h _ _ _ _ _ _ _ _ _ _ _ _ _ hv)
  · cases hv
theorem nl18_2b (y0 y1 t0 t1 i : Int) (sh C l0 l1 : List Int) (a b : Int) : lpRun T12 18 10 0 (lpc T12 18 10) 3 [ps 0, ps 1, osT 2 2, osT 3 C.length, lI [t0, t1], vi 2, vi i, lI [y0, y1], vi 2, vi 0] [some (rP a b sh 24), some (rX [y0, y1] [t0, t1]), some (rowO [osW 4 l0.length, osW 5 l1.length]), some (rowI C 3), some (rowI l0 3), some (rowI l1 3)] = (bif decide (0 ≤ y0) then bif decide (y0 < (↑C.length : Int)) then oM C[y0.toNat]? fun x => bif room (l0.length + 1) 8 then bif decide (0 ≤ y1) then bif decide (y1 < (↑C.length : Int)) then oM C[y1.toNat]? fun x_1 => bif room (l1.length + 1) 8 then some (.ext 2, [.ps 0 0 0 0, .ps 1 0 0 0, .os 2 0 0 2 true true true, .os 3 0 0 C.length true true true, .sl (.int .i64) [t0, t1] false, vi 2, vi i, .sl (.int .i64) [y0, y1] false, vi 2, vi 2], [some ⟨[vi a, vi b, .sl (.int .i64) sh false], true, 24, false, false, none⟩, some ⟨[.sl (.int .i64) [y0, y1] false, .sl (.int .i64) [t0, t1] false], true, 26, false, false, none⟩, some ⟨[osW 4 (l0.length + 1), osW 5 (l1.length + 1)], false, 22, false, true, none⟩, some ⟨[.run (.int .i64) C], false, 3, false, false, none⟩, some ⟨[.run (.int .i64) (l0 ++ [x])], false, 3, false, false, none⟩, some ⟨[.run (.int .i64) (l1 ++ [x_1])], false, 3, false, false, none⟩]) else none else none else none else none else none else none) := by kernel_rfl
def l18_10n2bt (y0 y1 t0 t1 i : Int) (sh C l0 l1 : List Int) (a b : Int) (ya ti : List Int) (kc k0 k1 : Nat) : Tree (Out × List AV × Hp) := .br (decide (kc = C.length) && decide (ya = [y0, y1]) && decide (ti = [t0, t1]) && decide (k0 = l0.length) && decide (l0.length ≤ 3) && decide (k1 = l1.length) && decide (l1.length ≤ 3) && decide (0 ≤ y0) && decide (y0 < (C.length : Int)) && decide (0 ≤ y1) && decide (y1 < (C.length : Int))) (.leaf (.ext 2, [ps 0, ps 1, osT 2 2, osT 3 kc, lI [t0, t1], vi 2, vi i, lI [y0, y1], vi 2, vi 2], [some (rP a b sh 24), some (rX [y0, y1] [t0, t1]), some (rowO [osW 4 (k0 + 1), osW 5 (k1 + 1)]), some (rowI C 3), some (rowI (l0 ++ [C.getD y0.toNat 0]) 3), some (rowI (l1 ++ [C.getD y1.toNat 0]) 3)])) .fail
def l18_10n2b (base : Nat) (kv : List AV) (H : Hp) : Tree (Out × List AV × Hp) := match Nat.beq base 0, kv, H with
  | true, [(.ps 0 0 0 0), (.ps 1 0 0 0), (.os 2 0 0 2 true true true), (.os 3 0 0 kc true true true), (.sl (.int .i64) [t0, t1] false), (.sc (.int .i64 2)), (.sc (.int .i64 i)), (.sl (.int .i64) [y0, y1] false), (.sc (.int .i64 2)), (.sc (.int .i64 0))], [some ⟨[.sc (.int .i64 a), .sc (.int .i64 b), .sl (.int .i64) sh false], true, 24, false, false, none⟩, some ⟨[.sl (.int .i64) ya false, .sl (.int .i64) ti false], true, 26, false, false, none⟩, some ⟨[(.os 4 0 0 k0 true false true), (.os 5 0 0 k1 true false true)], false, 22, false, true, none⟩, some ⟨[.run (.int .i64) C], false, 3, false, false, none⟩, some ⟨[.run (.int .i64) l0], false, 3, false, false, none⟩, some ⟨[.run (.int .i64) l1], false, 3, false, false, none⟩] => l18_10n2bt y0 y1 t0 t1 i sh C l0 l1 a b ya ti kc k0 k1
  | _, _, _ => .fail
theorem l18_10n2b_ok {T : Tab} (hT : TabOK T) (hlo : loopOf T.fn 18 10 = some (lpc T 18 10)) (h : ∀ (y0 y1 t0 t1 i : Int) (sh C l0 l1 : List Int) (a b : Int) (ya ti : List Int) (kc k0 k1 : Nat) (r : Out × List AV × Hp), (l18_10n2bt y0 y1 t0 t1 i sh C l0 l1 a b ya ti kc k0 k1).val = some r → ∃ mm, lpRun T 18 10 0 (lpc T 18 10) mm [ps 0, ps 1, osT 2 2, osT 3 kc, lI [t0, t1], vi 2, vi i, lI [y0, y1], vi 2, vi 0] [some (rP a b sh 24), some (rX ya ti), some (rowO [osW 4 k0, osW 5 k1]), some (rowI C 3), some (rowI l0 3), some (rowI l1 3)] = some r) : ∀ base kv H o kv' H', (l18_10n2b base kv H).val = some (o, kv', H') → LoopOK T 18 10 base kv H o kv' H' := by
  intro base kv H o kv' H' hv
  unfold l18_10n2b at hv
  split at hv
  · rename_i hb
    obtain rfl := Nat.eq_of_beq_eq_true hb
    exact loop_ok hT hlo (h _ _ _ _ _ _ _ _ _ _ _ _ _ _ _ _ _ hv)
  · cases hv
theorem nl18_3a (y0 y1 y2 t0 t1 t2 i : Int) (sh C : List Int) (a b : Int) : lpRun T12 18 10 0 (lpc T12 18 10) 4 [ps 0, ps 1, osT 2 3, osT 3 C.length, lI [t0, t1, t2], vi 3, vi i, lI [y0, y1, y2], vi 3, vi 0] [some (rP a b sh 24), some (rX [y0, y1, y2] [t0, t1, t2]), some (rowO [nS, nS, nS]), some (rowI C 3)] = (bif decide (0 ≤ y0) then bif decide (y0 < (↑C.length : Int)) then oM C[y0.toNat]? fun x => bif decide (0 ≤ y1) then bif decide (y1 < (↑C.length : Int)) then oM C[y1.toNat]? fun x_1 => bif decide (0 ≤ y2) then bif decide (y2 < (↑C.length : Int)) then oM C[y2.toNat]? fun x_2 => some (.ext 2, [.ps 0 0 0 0, .ps 1 0 0 0, .os 2 0 0 3 true true true, .os 3 0 0 C.length true true true, .sl (.int .i64) [t0, t1, t2] false, vi 3, vi i, .sl (.int .i64) [y0, y1, y2] false, vi 3, vi 3], [some ⟨[vi a, vi b, .sl (.int .i64) sh false], true, 24, false, false, none⟩, some ⟨[.sl (.int .i64) [y0, y1, y2] false, .sl (.int .i64) [t0, t1, t2] false], true, 26, false, false, none⟩, some ⟨[osW 4 1, osW 5 1, osW 6 1], false, 22, false, true, none⟩, some ⟨[.run (.int .i64) C], false, 3, false, false, none⟩, some ⟨[.run (.int .i64) [x]], false, 3, false, false, none⟩, some ⟨[.run (.int .i64) [x_1]], false, 3, false, false, none⟩, some ⟨[.run (.int .i64) [x_2]], false, 3, false, false, none⟩]) else none else none else none else none else none else none) := by kernel_rfl
def l18_10n3at (y0 y1 y2 t0 t1 t2 i : Int) (sh C : List Int) (a b : Int) (ya ti : List Int) (kc : Nat) : Tree (Out × List AV × Hp) := .br (decide (kc = C.length) && decide (ya = [y0, y1, y2]) && decide (ti = [t0, t1, t2]) && decide (0 ≤ y0) && decide (y0 < (C.length : Int)) && decide (0 ≤ y1) && decide (y1 < (C.length : Int)) && decide (0 ≤ y2) && decide (y2 < (C.length : Int))) (.leaf (.ext 2, [ps 0, ps 1, osT 2 3, osT 3 kc, lI [t0, t1, t2], vi 3, vi i, lI [y0, y1, y2], vi 3, vi 3], [some (rP a b sh 24), some (rX [y0, y1, y2] [t0, t1, t2]), some (rowO [osW 4 1, osW 5 1, osW 6 1]), some (rowI C 3), some (rowI [C.getD y0.toNat 0] 3), some (rowI [C.getD y1.toNat 0] 3), some (rowI [C.getD y2.toNat 0] 3)])) .fail
def l18_10n3a (base : Nat) (kv : List AV) (H : Hp) : Tree (Out × List AV × Hp) := match Nat.beq base 0, kv, H with
  | true, [(.ps 0 0 0 0), (.ps 1 0 0 0), (.os 2 0 0 3 true true true), (.os 3 0 0 kc true true true), (.sl (.int .i64) [t0, t1, t2] false), (.sc (.int .i64 3)), (.sc (.int .i64 i)), (.sl (.int .i64) [y0, y1, y2] false), (.sc (.int .i64 3)), (.sc (.int .i64 0))], [some ⟨[.sc (.int .i64 a), .sc (.int .i64 b), .sl (.int .i64) sh false], true, 24, false, false, none⟩, some ⟨[.sl (.int .i64) ya false, .sl (.int .i64) ti false], true, 26, false, false, none⟩, some ⟨[(.sc (.slice none 0 0)), (.sc (.slice none 0 0)), (.sc (.slice none 0 0))], false, 22, false, true, none⟩, some ⟨[.run (.int .i64) C], false, 3, false, false, none⟩] => l18_10n3at y0 y1 y2 t0 t1 t2 i sh C a b ya ti kc
  | _, _, _ => .fail
theorem l18_10n3a_ok {T : Tab} (hT : TabOK T) (hlo : loopOf T.fn 18 10 = some (lpc T 18 10)) (h : ∀ (y0 y1 y2 t0 t1 t2 i : Int) (sh C : List Int) (a b : Int) (ya ti : List Int) (kc : Nat) (r : Out × List AV × Hp), (l18_10n3at y0 y1 y2 t0 t1 t2 i sh C a b ya ti kc).val = some r → ∃ mm, lpRun T 18 10 0 (lpc T 18 10) mm [ps 0, ps 1, osT 2 3, osT 3 kc, lI [t0, t1, t2], vi 3, vi i, lI [y0, y1, y2], vi 3, vi 0] [some (rP a b sh 24), some (rX ya ti), some (rowO [nS, nS, nS]), some (rowI C 3)] = some r) : ∀ base kv H o kv' H', (l18_10n3a base kv H).val = some (o, kv', H') → LoopOK T 18 10 base kv H o kv' H' := by
  intro base kv H o kv' H' hv
  unfold l18_10n3a at hv
  split at hv
  · rename_i hb
    obtain rfl := Nat.eq_of_beq_eq_true hb
    exact loop_ok hT hlo (h _ _ _ _ _ _ _ _ _ _ _ _ _ _ _ hv)
  · cases hv
theorem nl18_3b (y0 y1 y2 t0 t1 t2 i : Int) (sh C l0 l1 l2 : List Int) (a b : Int) : lpRun T12 18 10 0 (lpc T12 18 10) 4 [ps 0, ps 1, osT 2 3, osT 3 C.length, lI [t0, t1, t2], vi 3, vi i, lI [y0, y1, y2], vi 3, vi 0] [some (rP a b sh 24), some (rX [y0, y1, y2] [t0, t1, t2]), some (rowO [osW 4 l0.length, osW 5 l1.length, osW 6 l2.length]), some (rowI C 3), some (rowI l0 3), some (rowI l1 3), some (rowI l2 3)] = (bif decide (0 ≤ y0) then bif decide (y0 < (↑C.length : Int)) then oM C[y0.toNat]? fun x => bif room (l0.length + 1) 8 then bif decide (0 ≤ y1) then bif decide (y1 < (↑C.length : Int)) then oM C[y1.toNat]? fun x_1 => bif room (l1.length + 1) 8 then bif decide (0 ≤ y2) then bif decide (y2 < (↑C.length : Int)) then oM C[y2.toNat]? fun x_2 => bif room (l2.length + 1) 8 then some (.ext 2, [.ps 0 0 0 0, .ps 1 0 0 0, .os 2 0 0 3 true true true, .os 3 0 0 C.length true true true, .sl (.int .i64) [t0, t1, t2] false, vi 3, vi i, .sl (.int .i64) [y0, y1, y2] false, vi 3, vi 3], [some ⟨[vi a, vi b, .sl (.int .i64) sh false], true, 24, false, false, none⟩, some ⟨[.sl (.int .i64) [y0, y1, y2] false, .sl (.int .i64) [t0, t1, t2] false], true, 26, false, false, none⟩, some ⟨[osW 4 (l0.length + 1), osW 5 (l1.length + 1), osW 6 (l2.length + 1)], false, 22, false, true, none⟩, some ⟨[.run (.int .i64) C], false, 3, false, false, none⟩, some ⟨[.run (.int .i64) (l0 ++ [x])], false, 3, false, false, none⟩, some ⟨[.run (.int .i64) (l1 ++ [x_1])], false, 3, false, false, none⟩, some ⟨[.run (.int .i64) (l2 ++ [x_2])], false, 3, false, false, none⟩]) else none else none else none else none else none else none else none else none else none) := by kernel_rfl
def l18_10n3bt (y0 y1 y2 t0 t1 t2 i : Int) (sh C l0 l1 l2 : List Int) (a b : Int) (ya ti : List Int) (kc k0 k1 k2 : Nat) : Tree (Out × List AV × Hp) := .br (decide (kc = C.length) && decide (ya = [y0, y1, y2]) && decide (ti = [t0, t1, t2]) && decide (k0 = l0.length) && decide (l0.length ≤ 3) && decide (k1 = l1.length) && decide (l1.length ≤ 3) && decide (k2 = l2.length) && decide (l2.length ≤ 3) && decide (0 ≤ y0) && decide (y0 < (C.length : Int)) && decide (0 ≤ y1) && decide (y1 < (C.length : Int)) && decide (0 ≤ y2) && decide (y2 < (C.length : Int))) (.leaf (.ext 2, [ps 0, ps 1, osT 2 3, osT 3 kc, lI [t0, t1, t2], vi 3, vi i, lI [y0, y1, y2], vi 3, vi 3], [some (rP a b sh 24), some (rX [y0, y1, y2] [t0, t1, t2]), some (rowO [osW 4 (k0 + 1), osW 5 (k1 + 1), osW 6 (k2 + 1)]), some (rowI C 3), some (rowI (l0 ++ [C.getD y0.toNat 0]) 3), some (rowI (l1 ++ [C.getD y1.toNat 0]) 3), some (rowI (l2 ++ [C.getD y2.toNat 0]) 3)])) .fail
def l18_10n3b (base : Nat) (kv : List AV) (H : Hp) : Tree (Out × List AV × Hp) := match Nat.beq base 0, kv, H with
  | true, [(.ps 0 0 0 0), (.ps 1 0 0 0), (.os 2 0 0 3 true true true), (.os 3 0 0 kc true true true), (.sl (.int .i64) [t0, t1, t2] false), (.sc (.int .i64 3)), (.sc (.int .i64 i)), (.sl (.int .i64) [y0, y1, y2] false), (.sc (.int .i64 3)), (.sc (.int .i64 0))], [some ⟨[.sc (.int .i64 a), .sc (.int .i64 b), .sl (.int .i64) sh false], true, 24, false, false, none⟩, some ⟨[.sl (.int .i64) ya false, .sl (.int .i64) ti false], true, 26, false, false, none⟩, some ⟨[(.os 4 0 0 k0 true false true), (.os 5 0 0 k1 true false true), (.os 6 0 0 k2 true false true)], false, 22, false, true, none⟩, some ⟨[.run (.int .i64) C], false, 3, false, false, none⟩, some ⟨[.run (.int .i64) l0], false, 3, false, false, none⟩, some ⟨[.run (.int .i64) l1], false, 3, false, false, none⟩, some ⟨[.run (.int .i64) l2], false, 3, false, false, none⟩] => l18_10n3bt y0 y1 y2 t0 t1 t2 i sh C l0 l1 l2 a b ya ti kc k0 k1 k2
  | _, _, _ => .fail
theorem l18_10n3b_ok {T : Tab} (hT : TabOK T) (hlo : loopOf T.fn 18 10 = some (lpc T 18 10)) (h : ∀ (y0 y1 y2 t0 t1 t2 i : Int) (sh C l0 l1 l2 : List Int) (a b : Int) (ya ti : List Int) (kc k0 k1 k2 : Nat) (r : Out × List AV × Hp), (l18_10n3bt y0 y1 y2 t0 t1 t2 i sh C l0 l1 l2 a b ya ti kc k0 k1 k2).val = some r → ∃ mm, lpRun T 18 10 0 (lpc T 18 10) mm [ps 0, ps 1, osT 2 3, osT 3 kc, lI [t0, t1, t2], vi 3, vi i, lI [y0, y1, y2], vi 3, vi 0] [some (rP a b sh 24), some (rX ya ti), some (rowO [osW 4 k0, osW 5 k1, osW 6 k2]), some (rowI C 3), some (rowI l0 3), some (rowI l1 3), some (rowI l2 3)] = some r) : ∀ base kv H o kv' H', (l18_10n3b base kv H).val = some (o, kv', H') → LoopOK T 18 10 base kv H o kv' H' := by
  intro base kv H o kv' H' hv
  unfold l18_10n3b at hv
  split at hv
  · rename_i hb
    obtain rfl := Nat.eq_of_beq_eq_true hb
    exact loop_ok hT hlo (h _ _ _ _ _ _ _ _ _ _ _ _ _ _ _ _ _ _ _ _ _ hv)
  · cases hv
def l18_10 (base : Nat) (kv : List AV) (H : Hp) : Tree (Out × List AV × Hp) := match H with
  | _ :: _ :: some row :: _ => match row.c with
    | [.sc _] => l18_10n1a base kv H
    | [.sc _, .sc _] => l18_10n2a base kv H
    | [.os _ _ _ _ _ _ _, .os _ _ _ _ _ _ _] => l18_10n2b base kv H
    | [.sc _, .sc _, .sc _] => l18_10n3a base kv H
    | [.os _ _ _ _ _ _ _, .os _ _ _ _ _ _ _, .os _ _ _ _ _ _ _] => l18_10n3b base kv H
    | _ => .fail
  | _ => .fail
noncomputable def T13 : Tab := T12.addLoop 18 10 l18_10
theorem nl18_1 (y0 t0 : Int) (sh : List Int) (a b : Int) : lpRun T13 18 6 0 (lpc T13 18 6) 2 [ps 0, ps 1, osT 2 1, lI [t0], vi 1, vi 0] [some (rP a b sh 24), some (rX [y0] [t0]), some (rowO [nS])] = (bif Lan.side a b && decide (0 ≤ t0) && decide (t0 < a * b) && sm sh && Lan.in16 sh then bif decide ((a * b).toNat = (Lan.cntL a b t0 (Lan.ofN sh)).length) && decide ([y0] = [y0]) && decide ([t0] = [t0]) && decide (0 ≤ y0) && decide (y0 < (↑(Lan.cntL a b t0 (Lan.ofN sh)).length : Int)) then some (.ext 0, [.ps 0 0 0 0, .ps 1 0 0 0, .os 2 0 0 1 true true true, .sl (.int .i64) [t0] false, vi 1, vi 1], [some ⟨[vi a, vi b, .sl (.int .i64) sh false], true, 24, false, false, none⟩, some ⟨[.sl (.int .i64) [y0] false, .sl (.int .i64) [t0] false], true, 26, false, false, none⟩, some ⟨[osW 3 1], false, 22, false, true, none⟩, some ⟨[.run (.int .i64) [(Lan.cntL a b t0 (Lan.ofN sh)).getD y0.toNat 0]], false, 3, false, false, none⟩]) else none else none) := by kernel_rfl
theorem nl18_2 (y0 y1 t0 t1 : Int) (sh : List Int) (a b : Int) : lpRun T13 18 6 0 (lpc T13 18 6) 3 [ps 0, ps 1, osT 2 2, lI [t0, t1], vi 2, vi 0] [some (rP a b sh 24), some (rX [y0, y1] [t0, t1]), some (rowO [nS, nS])] = (bif Lan.side a b && decide (0 ≤ t0) && decide (t0 < a * b) && sm sh && Lan.in16 sh then bif decide ((a * b).toNat = (Lan.cntL a b t0 (Lan.ofN sh)).length) && decide ([y0, y1] = [y0, y1]) && decide ([t0, t1] = [t0, t1]) && decide (0 ≤ y0) && decide (y0 < (↑(Lan.cntL a b t0 (Lan.ofN sh)).length : Int)) && decide (0 ≤ y1) && decide (y1 < (↑(Lan.cntL a b t0 (Lan.ofN sh)).length : Int)) then bif Lan.side a b && decide (0 ≤ t1) && decide (t1 < a * b) && sm sh && Lan.in16 sh then bif decide ((a * b).toNat = (Lan.cntL a b t1 (Lan.ofN sh)).length) && decide ([y0, y1] = [y0, y1]) && decide ([t0, t1] = [t0, t1]) && decide (1 = 1) && decide (1 ≤ 3) && decide (1 = 1) && decide (1 ≤ 3) && decide (0 ≤ y0) && decide (y0 < (↑(Lan.cntL a b t1 (Lan.ofN sh)).length : Int)) && decide (0 ≤ y1) && decide (y1 < (↑(Lan.cntL a b t1 (Lan.ofN sh)).length : Int)) then some (.ext 0, [.ps 0 0 0 0, .ps 1 0 0 0, .os 2 0 0 2 true true true, .sl (.int .i64) [t0, t1] false, vi 2, vi 2], [some ⟨[vi a, vi b, .sl (.int .i64) sh false], true, 24, false, false, none⟩, some ⟨[.sl (.int .i64) [y0, y1] false, .sl (.int .i64) [t0, t1] false], true, 26, false, false, none⟩, some ⟨[osW 3 2, osW 4 2], false, 22, false, true, none⟩, some ⟨[.run (.int .i64) [(Lan.cntL a b t0 (Lan.ofN sh)).getD y0.toNat 0, (Lan.cntL a b t1 (Lan.ofN sh)).getD y0.toNat 0]], false, 3, false, false, none⟩, some ⟨[.run (.int .i64) [(Lan.cntL a b t0 (Lan.ofN sh)).getD y1.toNat 0, (Lan.cntL a b t1 (Lan.ofN sh)).getD y1.toNat 0]], false, 3, false, false, none⟩]) else none else none else none else none) := by kernel_rfl
theorem nl18_3 (y0 y1 y2 t0 t1 t2 : Int) (sh : List Int) (a b : Int) : lpRun T13 18 6 0 (lpc T13 18 6) 4 [ps 0, ps 1, osT 2 3, lI [t0, t1, t2], vi 3, vi 0] [some (rP a b sh 24), some (rX [y0, y1, y2] [t0, t1, t2]), some (rowO [nS, nS, nS])] = (bif Lan.side a b && decide (0 ≤ t0) && decide (t0 < a * b) && sm sh && Lan.in16 sh then bif decide ((a * b).toNat = (Lan.cntL a b t0 (Lan.ofN sh)).length) && decide ([y0, y1, y2] = [y0, y1, y2]) && decide ([t0, t1, t2] = [t0, t1, t2]) && decide (0 ≤ y0) && decide (y0 < (↑(Lan.cntL a b t0 (Lan.ofN sh)).length : Int)) && decide (0 ≤ y1) && decide (y1 < (↑(Lan.cntL a b t0 (Lan.ofN sh)).length : Int)) && decide (0 ≤ y2) && decide (y2 < (↑(Lan.cntL a b t0 (Lan.ofN sh)).length : Int)) then bif Lan.side a b && decide (0 ≤ t1) && decide (t1 < a * b) && sm sh && Lan.in16 sh then bif decide ((a * b).toNat = (Lan.cntL a b t1 (Lan.ofN sh)).length) && decide ([y0, y1, y2] = [y0, y1, y2]) && decide ([t0, t1, t2] = [t0, t1, t2]) && decide (1 = 1) && decide (1 ≤ 3) && decide (1 = 1) && decide (1 ≤ 3) && decide (1 = 1) && decide (1 ≤ 3) && decide (0 ≤ y0) && decide (y0 < (↑(Lan.cntL a b t1 (Lan.ofN sh)).length : Int)) && decide (0 ≤ y1) && decide (y1 < (↑(Lan.cntL a b t1 (Lan.ofN sh)).length : Int)) && decide (0 ≤ y2) && decide (y2 < (↑(Lan.cntL a b t1 (Lan.ofN sh)).length : Int)) then bif Lan.side a b && decide (0 ≤ t2) && decide (t2 < a * b) && sm sh && Lan.in16 sh then bif decide ((a * b).toNat = (Lan.cntL a b t2 (Lan.ofN sh)).length) && decide ([y0, y1, y2] = [y0, y1, y2]) && decide ([t0, t1, t2] = [t0, t1, t2]) && decide (2 = 2) && decide (2 ≤ 3) && decide (2 = 2) && decide (2 ≤ 3) && decide (2 = 2) && decide (2 ≤ 3) && decide (0 ≤ y0) && decide (y0 < (↑(Lan.cntL a b t2 (Lan.ofN sh)).length : Int)) && decide (0 ≤ y1) && decide (y1 < (↑(Lan.cntL a b t2 (Lan.ofN sh)).length : Int)) && decide (0 ≤ y2) && decide (y2 < (↑(Lan.cntL a b t2 (Lan.ofN sh)).length : Int)) then some (.ext 0, [.ps 0 0 0 0, .ps 1 0 0 0, .os 2 0 0 3 true true true, .sl (.int .i64) [t0, t1, t2] false, vi 3, vi 3], [some ⟨[vi a, vi b, .sl (.int .i64) sh false], true, 24, false, false, none⟩, some ⟨[.sl (.int .i64) [y0, y1, y2] false, .sl (.int .i64) [t0, t1, t2] false], true, 26, false, false, none⟩, some ⟨[osW 3 3, osW 4 3, osW 5 3], false, 22, false, true, none⟩, some ⟨[.run (.int .i64) [(Lan.cntL a b t0 (Lan.ofN sh)).getD y0.toNat 0, (Lan.cntL a b t1 (Lan.ofN sh)).getD y0.toNat 0, (Lan.cntL a b t2 (Lan.ofN sh)).getD y0.toNat 0]], false, 3, false, false, none⟩, some ⟨[.run (.int .i64) [(Lan.cntL a b t0 (Lan.ofN sh)).getD y1.toNat 0, (Lan.cntL a b t1 (Lan.ofN sh)).getD y1.toNat 0, (Lan.cntL a b t2 (Lan.ofN sh)).getD y1.toNat 0]], false, 3, false, false, none⟩, some ⟨[.run (.int .i64) [(Lan.cntL a b t0 (Lan.ofN sh)).getD y2.toNat 0, (Lan.cntL a b t1 (Lan.ofN sh)).getD y2.toNat 0, (Lan.cntL a b t2 (Lan.ofN sh)).getD y2.toNat 0]], false, 3, false, false, none⟩]) else none else none else none else none else none else none) := by kernel_rfl
def l18_6n1t (y0 t0 : Int) (sh tz : List Int) (a b : Int) : Tree (Out × List AV × Hp) := .br (decide (tz = [t0]) && Lan.side a b && sm sh && Lan.in16 sh && Lan.onP a b y0 && Lan.onP a b t0) (.leaf (.ext 0, [ps 0, ps 1, osT 2 1, lI tz, vi 1, vi 1], [some (rP a b sh 24), some (rX [y0] [t0]), some (rowO [osW 3 1]), some (rowI [Lan.cv a b sh y0 t0] 3)])) .fail
def l18_6n1 (base : Nat) (kv : List AV) (H : Hp) : Tree (Out × List AV × Hp) := match Nat.beq base 0, kv, H with
  | true, [(.ps 0 0 0 0), (.ps 1 0 0 0), (.os 2 0 0 1 true true true), (.sl (.int .i64) tz false), (.sc (.int .i64 1)), (.sc (.int .i64 0))], [some ⟨[.sc (.int .i64 a), .sc (.int .i64 b), .sl (.int .i64) sh false], true, 24, false, false, none⟩, some ⟨[.sl (.int .i64) [y0] false, .sl (.int .i64) [t0] false], true, 26, false, false, none⟩, some ⟨[(.sc (.slice none 0 0))], false, 22, false, true, none⟩] => l18_6n1t y0 t0 sh tz a b
  | _, _, _ => .fail
theorem l18_6n1_ok {T : Tab} (hT : TabOK T) (hlo : loopOf T.fn 18 6 = some (lpc T 18 6)) (h : ∀ (y0 t0 : Int) (sh tz : List Int) (a b : Int) (r : Out × List AV × Hp), (l18_6n1t y0 t0 sh tz a b).val = some r → ∃ mm, lpRun T 18 6 0 (lpc T 18 6) mm [ps 0, ps 1, osT 2 1, lI tz, vi 1, vi 0] [some (rP a b sh 24), some (rX [y0] [t0]), some (rowO [nS])] = some r) : ∀ base kv H o kv' H', (l18_6n1 base kv H).val = some (o, kv', H') → LoopOK T 18 6 base kv H o kv' H' := by
  intro base kv H o kv' H' hv
  unfold l18_6n1 at hv
  split at hv
  · rename_i hb
    obtain rfl := Nat.eq_of_beq_eq_true hb
    exact loop_ok hT hlo (h _ _ _ _ _ _ _ hv)
  · cases hv
def l18_6n2t (y0 y1 t0 t1 : Int) (sh tz : List Int) (a b : Int) : Tree (Out × List AV × Hp) := .br (decide (tz = [t0, t1]) && Lan.side a b && sm sh && Lan.in16 sh && Lan.onP a b y0 && Lan.onP a b y1 && Lan.onP a b t0 && Lan.onP a b t1) (.leaf (.ext 0, [ps 0, ps 1, osT 2 2, lI tz, vi 2, vi 2], [some (rP a b sh 24), some (rX [y0, y1] [t0, t1]), some (rowO [osW 3 2, osW 4 2]), some (rowI [Lan.cv a b sh y0 t0, Lan.cv a b sh y0 t1] 3), some (rowI [Lan.cv a b sh y1 t0, Lan.cv a b sh y1 t1] 3)])) .fail
def l18_6n2 (base : Nat) (kv : List AV) (H : Hp) : Tree (Out × List AV × Hp) := match Nat.beq base 0, kv, H with
  | true, [(.ps 0 0 0 0), (.ps 1 0 0 0), (.os 2 0 0 2 true true true), (.sl (.int .i64) tz false), (.sc (.int .i64 2)), (.sc (.int .i64 0))], [some ⟨[.sc (.int .i64 a), .sc (.int .i64 b), .sl (.int .i64) sh false], true, 24, false, false, none⟩, some ⟨[.sl (.int .i64) [y0, y1] false, .sl (.int .i64) [t0, t1] false], true, 26, false, false, none⟩, some ⟨[(.sc (.slice none 0 0)), (.sc (.slice none 0 0))], false, 22, false, true, none⟩] => l18_6n2t y0 y1 t0 t1 sh tz a b
  | _, _, _ => .fail
theorem l18_6n2_ok {T : Tab} (hT : TabOK T) (hlo : loopOf T.fn 18 6 = some (lpc T 18 6)) (h : ∀ (y0 y1 t0 t1 : Int) (sh tz : List Int) (a b : Int) (r : Out × List AV × Hp), (l18_6n2t y0 y1 t0 t1 sh tz a b).val = some r → ∃ mm, lpRun T 18 6 0 (lpc T 18 6) mm [ps 0, ps 1, osT 2 2, lI tz, vi 2, vi 0] [some (rP a b sh 24), some (rX [y0, y1] [t0, t1]), some (rowO [nS, nS])] = some r) : ∀ base kv H o kv' H', (l18_6n2 base kv H).val = some (o, kv', H') → LoopOK T 18 6 base kv H o kv' H' := by
  intro base kv H o kv' H' hv
  unfold l18_6n2 at hv
  split at hv
  · rename_i hb
    obtain rfl := Nat.eq_of_beq_eq_true hb
    exact loop_ok hT hlo (h _ _ _ _ _ _ _ _ _ hv)
  · cases hv
def l18_6n3t (y0 y1 y2 t0 t1 t2 : Int) (sh tz : List Int) (a b : Int) : Tree (Out × List AV × Hp) := .br (decide (tz = [t0, t1, t2]) && Lan.side a b && sm sh && Lan.in16 sh && Lan.onP a b y0 && Lan.onP a b y1 && Lan.onP a b y2 && Lan.onP a b t0 && Lan.onP a b t1 && Lan.onP a b t2) (.leaf (.ext 0, [ps 0, ps 1, osT 2 3, lI tz, vi 3, vi 3], [some (rP a b sh 24), some (rX [y0, y1, y2] [t0, t1, t2]), some (rowO [osW 3 3, osW 4 3, osW 5 3]), some (rowI [Lan.cv a b sh y0 t0, Lan.cv a b sh y0 t1, Lan.cv a b sh y0 t2] 3), some (rowI [Lan.cv a b sh y1 t0, Lan.cv a b sh y1 t1, Lan.cv a b sh y1 t2] 3), some (rowI [Lan.cv a b sh y2 t0, Lan.cv a b sh y2 t1, Lan.cv a b sh y2 t2] 3)])) .fail
def l18_6n3 (base : Nat) (kv : List AV) (H : Hp) : Tree (Out × List AV × Hp) := match Nat.beq base 0, kv, H with
  | true, [(.ps 0 0 0 0), (.ps 1 0 0 0), (.os 2 0 0 3 true true true), (.sl (.int .i64) tz false), (.sc (.int .i64 3)), (.sc (.int .i64 0))], [some ⟨[.sc (.int .i64 a), .sc (.int .i64 b), .sl (.int .i64) sh false], true, 24, false, false, none⟩, some ⟨[.sl (.int .i64) [y0, y1, y2] false, .sl (.int .i64) [t0, t1, t2] false], true, 26, false, false, none⟩, some ⟨[(.sc (.slice none 0 0)), (.sc (.slice none 0 0)), (.sc (.slice none 0 0))], false, 22, false, true, none⟩] => l18_6n3t y0 y1 y2 t0 t1 t2 sh tz a b
  | _, _, _ => .fail
theorem l18_6n3_ok {T : Tab} (hT : TabOK T) (hlo : loopOf T.fn 18 6 = some (lpc T 18 6)) (h : ∀ (y0 y1 y2 t0 t1 t2 : Int) (sh tz : List Int) (a b : Int) (r : Out × List AV × Hp), (l18_6n3t y0 y1 y2 t0 t1 t2 sh tz a b).val = some r → ∃ mm, lpRun T 18 6 0 (lpc T 18 6) mm [ps 0, ps 1, osT 2 3, lI tz, vi 3, vi 0] [some (rP a b sh 24), some (rX [y0, y1, y2] [t0, t1, t2]), some (rowO [nS, nS, nS])] = some r) : ∀ base kv H o kv' H', (l18_6n3 base kv H).val = some (o, kv', H') → LoopOK T 18 6 base kv H o kv' H' := by
  intro base kv H o kv' H' hv
  unfold l18_6n3 at hv
  split at hv
  · rename_i hb
    obtain rfl := Nat.eq_of_beq_eq_true hb
    exact loop_ok hT hlo (h _ _ _ _ _ _ _ _ _ _ _ hv)
  · cases hv
def l18_6 (base : Nat) (kv : List AV) (H : Hp) : Tree (Out × List AV × Hp) := match H with
  | [_, _, some row] => match row.c with
    | [.sc _] => l18_6n1 base kv H
    | [.sc _, .sc _] => l18_6n2 base kv H
    | [.sc _, .sc _, .sc _] => l18_6n3 base kv H
    | _ => .fail
  | _ => .fail
noncomputable def T14 : Tab := T12.addLoop 18 6 l18_6
theorem nf18_1 (y0 t0 : Int) (sh : List Int) (a b : Int) : evBody T14 18 [aP a b sh, aX [y0] [t0]] [] = (bif sm sh && sm [y0] && sm [t0] then bif Lan.chk a b sh [y0] [t0] != 0 then some (.tuple [.sc (.slice none 0 0), vi (Lan.chk a b sh [y0] [t0])], []) else bif decide ([t0] = [t0]) && Lan.side a b && sm sh && Lan.in16 sh && Lan.onP a b y0 && Lan.onP a b t0 then some (.tuple [.os 0 0 0 1 true true true, vi 0], [some ⟨[osW 1 1], false, 22, false, true, none⟩, some ⟨[.run (.int .i64) [Lan.cv a b sh y0 t0]], false, 3, false, false, none⟩]) else none else none) := by kernel_rfl
def c18n1t (y0 t0 : Int) (sh : List Int) (a b : Int) : Tree (AV × Hp) := .br (sm sh && Lan.chk a b sh [y0] [t0] == 0) (.leaf (.tuple [osT 0 1, vi 0], [some (rowO [osW 1 1]), some (rowI [Lan.cv a b sh y0 t0] 3)])) .fail
def c18n1 (args : List AV) (H : Hp) : Tree (AV × Hp) := match args, H with
  | [(.agg [.sc (.int .i64 a), .sc (.int .i64 b), .sl (.int .i64) sh false] false), (.agg [.sl (.int .i64) [y0] false, .sl (.int .i64) [t0] false] false)], [] => c18n1t y0 t0 sh a b
  | _, _ => .fail
theorem c18n1_ok {T : Tab} (hT : TabOK T) (h : ∀ (y0 t0 : Int) (sh : List Int) (a b : Int) (r : AV × Hp), (c18n1t y0 t0 sh a b).val = some r → evBody T 18 [aP a b sh, aX [y0] [t0]] [] = some r) : ∀ args H v H', (c18n1 args H).val = some (v, H') → CallOK T 18 args H v H' := by
  intro args H v H' hv
  unfold c18n1 at hv
  split at hv
  · exact evBody_sound hT (h _ _ _ _ _ _ hv)
  · cases hv
theorem nf18_2 (y0 y1 t0 t1 : Int) (sh : List Int) (a b : Int) : evBody T14 18 [aP a b sh, aX [y0, y1] [t0, t1]] [] = (bif sm sh && sm [y0, y1] && sm [t0, t1] then bif Lan.chk a b sh [y0, y1] [t0, t1] != 0 then some (.tuple [.sc (.slice none 0 0), vi (Lan.chk a b sh [y0, y1] [t0, t1])], []) else bif decide ([t0, t1] = [t0, t1]) && Lan.side a b && sm sh && Lan.in16 sh && Lan.onP a b y0 && Lan.onP a b y1 && Lan.onP a b t0 && Lan.onP a b t1 then some (.tuple [.os 0 0 0 2 true true true, vi 0], [some ⟨[osW 1 2, osW 2 2], false, 22, false, true, none⟩, some ⟨[.run (.int .i64) [Lan.cv a b sh y0 t0, Lan.cv a b sh y0 t1]], false, 3, false, false, none⟩, some ⟨[.run (.int .i64) [Lan.cv a b sh y1 t0, Lan.cv a b sh y1 t1]], false, 3, false, false, none⟩]) else none else none) := by kernel_rfl
def c18n2t (y0 y1 t0 t1 : Int) (sh : List Int) (a b : Int) : Tree (AV × Hp) := .br (sm sh && Lan.chk a b sh [y0, y1] [t0, t1] == 0) (.leaf (.tuple [osT 0 2, vi 0], [some (rowO [osW 1 2, osW 2 2]), some (rowI [Lan.cv a b sh y0 t0, Lan.cv a b sh y0 t1] 3), some (rowI [Lan.cv a b sh y1 t0, Lan.cv a b sh y1 t1] 3)])) .fail
def c18n2 (args : List AV) (H : Hp) : Tree (AV × Hp) := match args, H with
  | [(.agg [.sc (.int .i64 a), .sc (.int .i64 b), .sl (.int .i64) sh false] false), (.agg [.sl (.int .i64) [y0, y1] false, .sl (.int .i64) [t0, t1] false] false)], [] => c18n2t y0 y1 t0 t1 sh a b
  | _, _ => .fail
theorem c18n2_ok {T : Tab} (hT : TabOK T) (h : ∀ (y0 y1 t0 t1 : Int) (sh : List Int) (a b : Int) (r : AV × Hp), (c18n2t y0 y1 t0 t1 sh a b).val = some r → evBody T 18 [aP a b sh, aX [y0, y1] [t0, t1]] [] = some r) : ∀ args H v H', (c18n2 args H).val = some (v, H') → CallOK T 18 args H v H' := by
  intro args H v H' hv
  unfold c18n2 at hv
  split at hv
  · exact evBody_sound hT (h _ _ _ _ _ _ _ _ hv)
  · cases hv
theorem nf18_3 (y0 y1 y2 t0 t1 t2 : Int) (sh : List Int) (a b : Int) : evBody T14 18 [aP a b sh, aX [y0, y1, y2] [t0, t1, t2]] [] = (bif sm sh && sm [y0, y1, y2] && sm [t0, t1, t2] then bif Lan.chk a b sh [y0, y1, y2] [t0, t1, t2] != 0 then some (.tuple [.sc (.slice none 0 0), vi (Lan.chk a b sh [y0, y1, y2] [t0, t1, t2])], []) else bif decide ([t0, t1, t2] = [t0, t1, t2]) && Lan.side a b && sm sh && Lan.in16 sh && Lan.onP a b y0 && Lan.onP a b y1 && Lan.onP a b y2 && Lan.onP a b t0 && Lan.onP a b t1 && Lan.onP a b t2 then some (.tuple [.os 0 0 0 3 true true true, vi 0], [some ⟨[osW 1 3, osW 2 3, osW 3 3], false, 22, false, true, none⟩, some ⟨[.run (.int .i64) [Lan.cv a b sh y0 t0, Lan.cv a b sh y0 t1, Lan.cv a b sh y0 t2]], false, 3, false, false, none⟩, some ⟨[.run (.int .i64) [Lan.cv a b sh y1 t0, Lan.cv a b sh y1 t1, Lan.cv a b sh y1 t2]], false, 3, false, false, none⟩, some ⟨[.run (.int .i64) [Lan.cv a b sh y2 t0, Lan.cv a b sh y2 t1, Lan.cv a b sh y2 t2]], false, 3, false, false, none⟩]) else none else none) := by kernel_rfl
def c18n3t (y0 y1 y2 t0 t1 t2 : Int) (sh : List Int) (a b : Int) : Tree (AV × Hp) := .br (sm sh && Lan.chk a b sh [y0, y1, y2] [t0, t1, t2] == 0) (.leaf (.tuple [osT 0 3, vi 0], [some (rowO [osW 1 3, osW 2 3, osW 3 3]), some (rowI [Lan.cv a b sh y0 t0, Lan.cv a b sh y0 t1, Lan.cv a b sh y0 t2] 3), some (rowI [Lan.cv a b sh y1 t0, Lan.cv a b sh y1 t1, Lan.cv a b sh y1 t2] 3), some (rowI [Lan.cv a b sh y2 t0, Lan.cv a b sh y2 t1, Lan.cv a b sh y2 t2] 3)])) .fail
def c18n3 (args : List AV) (H : Hp) : Tree (AV × Hp) := match args, H with
  | [(.agg [.sc (.int .i64 a), .sc (.int .i64 b), .sl (.int .i64) sh false] false), (.agg [.sl (.int .i64) [y0, y1, y2] false, .sl (.int .i64) [t0, t1, t2] false] false)], [] => c18n3t y0 y1 y2 t0 t1 t2 sh a b
  | _, _ => .fail
theorem c18n3_ok {T : Tab} (hT : TabOK T) (h : ∀ (y0 y1 y2 t0 t1 t2 : Int) (sh : List Int) (a b : Int) (r : AV × Hp), (c18n3t y0 y1 y2 t0 t1 t2 sh a b).val = some r → evBody T 18 [aP a b sh, aX [y0, y1, y2] [t0, t1, t2]] [] = some r) : ∀ args H v H', (c18n3 args H).val = some (v, H') → CallOK T 18 args H v H' := by
  intro args H v H' hv
  unfold c18n3 at hv
  split at hv
  · exact evBody_sound hT (h _ _ _ _ _ _ _ _ _ _ hv)
  · cases hv
end Go.Ev.Lane
namespace Go.Ev.Lane
open Go Go.Ev
set_option maxRecDepth 1000000
set_option linter.unusedVariables false
set_option linter.unusedSimpArgs false
theorem mode_ok {T : Tab} (h : TabOK T) : TabOK { T with il := false, nest := true } :=
  ⟨fun f a H v H' hv => by refine CallOK.tab ?_ ?_ (h.calls f a H v H' hv) <;> rfl, fun f l b k H o k' H' hv => by refine LoopOK.tab ?_ ?_ ?_ ?_ (h.loops f l b k H o k' H' hv) <;> rfl, h.fns, h.mixed⟩
theorem T12_ok : TabOK T12 := mode_ok (U0_ok 16)
theorem cnt_len (a b to : Int) (s : Nat) : (Lan.cntL a b to s).length = (a * b).toNat := Lan.cntW_len a b to s (to.toNat + 1)
theorem l18_10n1a_run : ∀ base kv H o kv' H', (l18_10n1a base kv H).val = some (o, kv', H') → LoopOK T12 18 10 base kv H o kv' H' := l18_10n1a_ok T12_ok (by kernel_rfl) (by
  intro y0 t0 i sh C  a b ya ti kc  r hv
  obtain ⟨hl, hv2⟩ := guard_val hv
  simp only [Bool.and_eq_true, decide_eq_true_eq] at hl
  obtain ⟨⟨⟨⟨rfl, rfl⟩, rfl⟩, u0⟩, w0⟩ := hl
  refine ⟨2, (nl18_1a ..).trans ?_⟩
  rw [leaf_val hv2]
  simp only [oM, cond_true, decide_eq_true u0, decide_eq_true w0, Lan.get_getD (o := C) (n := y0.toNat) (by omega)])
theorem l18_10n2a_run : ∀ base kv H o kv' H', (l18_10n2a base kv H).val = some (o, kv', H') → LoopOK T12 18 10 base kv H o kv' H' := l18_10n2a_ok T12_ok (by kernel_rfl) (by
  intro y0 y1 t0 t1 i sh C  a b ya ti kc  r hv
  obtain ⟨hl, hv2⟩ := guard_val hv
  simp only [Bool.and_eq_true, decide_eq_true_eq] at hl
  obtain ⟨⟨⟨⟨⟨⟨rfl, rfl⟩, rfl⟩, u0⟩, w0⟩, u1⟩, w1⟩ := hl
  refine ⟨3, (nl18_2a ..).trans ?_⟩
  rw [leaf_val hv2]
  simp only [oM, cond_true, decide_eq_true u0, decide_eq_true w0, Lan.get_getD (o := C) (n := y0.toNat) (by omega), decide_eq_true u1, decide_eq_true w1, Lan.get_getD (o := C) (n := y1.toNat) (by omega)])
theorem l18_10n2b_run : ∀ base kv H o kv' H', (l18_10n2b base kv H).val = some (o, kv', H') → LoopOK T12 18 10 base kv H o kv' H' := l18_10n2b_ok T12_ok (by kernel_rfl) (by
  intro y0 y1 t0 t1 i sh C l0 l1 a b ya ti kc k0 k1 r hv
  obtain ⟨hl, hv2⟩ := guard_val hv
  simp only [Bool.and_eq_true, decide_eq_true_eq] at hl
  obtain ⟨⟨⟨⟨⟨⟨⟨⟨⟨⟨rfl, rfl⟩, rfl⟩, rfl⟩, q0⟩, rfl⟩, q1⟩, u0⟩, w0⟩, u1⟩, w1⟩ := hl
  refine ⟨3, (nl18_2b ..).trans ?_⟩
  rw [leaf_val hv2]
  simp only [oM, cond_true, decide_eq_true u0, decide_eq_true w0, Lan.get_getD (o := C) (n := y0.toNat) (by omega), decide_eq_true u1, decide_eq_true w1, Lan.get_getD (o := C) (n := y1.toNat) (by omega), room_ok (n := l0.length + 1) (b := 8) (by omega) (by omega), room_ok (n := l1.length + 1) (b := 8) (by omega) (by omega)])
theorem l18_10n3a_run : ∀ base kv H o kv' H', (l18_10n3a base kv H).val = some (o, kv', H') → LoopOK T12 18 10 base kv H o kv' H' := l18_10n3a_ok T12_ok (by kernel_rfl) (by
  intro y0 y1 y2 t0 t1 t2 i sh C  a b ya ti kc  r hv
  obtain ⟨hl, hv2⟩ := guard_val hv
  simp only [Bool.and_eq_true, decide_eq_true_eq] at hl
  obtain ⟨⟨⟨⟨⟨⟨⟨⟨rfl, rfl⟩, rfl⟩, u0⟩, w0⟩, u1⟩, w1⟩, u2⟩, w2⟩ := hl
  refine ⟨4, (nl18_3a ..).trans ?_⟩
  rw [leaf_val hv2]
  simp only [oM, cond_true, decide_eq_true u0, decide_eq_true w0, Lan.get_getD (o := C) (n := y0.toNat) (by omega), decide_eq_true u1, decide_eq_true w1, Lan.get_getD (o := C) (n := y1.toNat) (by omega), decide_eq_true u2, decide_eq_true w2, Lan.get_getD (o := C) (n := y2.toNat) (by omega)])
theorem l18_10n3b_run : ∀ base kv H o kv' H', (l18_10n3b base kv H).val = some (o, kv', H') → LoopOK T12 18 10 base kv H o kv' H' := l18_10n3b_ok T12_ok (by kernel_rfl) (by
  intro y0 y1 y2 t0 t1 t2 i sh C l0 l1 l2 a b ya ti kc k0 k1 k2 r hv
  obtain ⟨hl, hv2⟩ := guard_val hv
  simp only [Bool.and_eq_true, decide_eq_true_eq] at hl
  obtain ⟨⟨⟨⟨⟨⟨⟨⟨⟨⟨⟨⟨⟨⟨rfl, rfl⟩, rfl⟩, rfl⟩, q0⟩, rfl⟩, q1⟩, rfl⟩, q2⟩, u0⟩, w0⟩, u1⟩, w1⟩, u2⟩, w2⟩ := hl
  refine ⟨4, (nl18_3b ..).trans ?_⟩
  rw [leaf_val hv2]
  simp only [oM, cond_true, decide_eq_true u0, decide_eq_true w0, Lan.get_getD (o := C) (n := y0.toNat) (by omega), decide_eq_true u1, decide_eq_true w1, Lan.get_getD (o := C) (n := y1.toNat) (by omega), decide_eq_true u2, decide_eq_true w2, Lan.get_getD (o := C) (n := y2.toNat) (by omega), room_ok (n := l0.length + 1) (b := 8) (by omega) (by omega), room_ok (n := l1.length + 1) (b := 8) (by omega) (by omega), room_ok (n := l2.length + 1) (b := 8) (by omega) (by omega)])
theorem l18_10_run : ∀ base kv H o kv' H', (l18_10 base kv H).val = some (o, kv', H') → LoopOK T12 18 10 base kv H o kv' H' := by
  intro base kv H o kv' H' hv
  unfold l18_10 at hv
  split at hv
  · split at hv
    · exact l18_10n1a_run _ _ _ _ _ _ hv
    · exact l18_10n2a_run _ _ _ _ _ _ hv
    · exact l18_10n2b_run _ _ _ _ _ _ hv
    · exact l18_10n3a_run _ _ _ _ _ _ hv
    · exact l18_10n3b_run _ _ _ _ _ _ hv
    · cases hv
  · cases hv
theorem T13_ok : TabOK T13 := T12_ok.addLoop fun b k H o k' H' hv => by refine LoopOK.tab ?_ ?_ ?_ ?_ (l18_10_run b k H o k' H' hv) <;> rfl
theorem onP_of {a b x : Int} (h : Lan.onP a b x = true) : 0 ≤ x ∧ x < a * b := by
  unfold Lan.onP at h
  simpa only [Bool.and_eq_true, decide_eq_true_eq] using h
theorem l18_6n1_run : ∀ base kv H o kv' H', (l18_6n1 base kv H).val = some (o, kv', H') → LoopOK T13 18 6 base kv H o kv' H' := l18_6n1_ok T13_ok (by kernel_rfl) (by
  intro y0 t0 sh tz a b r hv
  obtain ⟨hl, hv2⟩ := guard_val hv
  simp only [Bool.and_eq_true, decide_eq_true_eq] at hl
  obtain ⟨⟨⟨⟨⟨rfl, hs⟩, hsm⟩, h16⟩, oy0⟩, ot0⟩ := hl
  have py0 := onP_of oy0
  have pt0 := onP_of ot0
  refine ⟨2, (nl18_1 ..).trans ?_⟩
  rw [leaf_val hv2]
  simp only [cond_true, hs, hsm, h16, cnt_len, decide_true, Bool.and_self, Bool.true_and, Bool.and_true, decide_eq_true pt0.1, decide_eq_true pt0.2, decide_eq_true py0.1, decide_eq_true (show y0 < ((a * b).toNat : Int) by omega)]
  rfl)
theorem l18_6n2_run : ∀ base kv H o kv' H', (l18_6n2 base kv H).val = some (o, kv', H') → LoopOK T13 18 6 base kv H o kv' H' := l18_6n2_ok T13_ok (by kernel_rfl) (by
  intro y0 y1 t0 t1 sh tz a b r hv
  obtain ⟨hl, hv2⟩ := guard_val hv
  simp only [Bool.and_eq_true, decide_eq_true_eq] at hl
  obtain ⟨⟨⟨⟨⟨⟨⟨rfl, hs⟩, hsm⟩, h16⟩, oy0⟩, oy1⟩, ot0⟩, ot1⟩ := hl
  have py0 := onP_of oy0
  have py1 := onP_of oy1
  have pt0 := onP_of ot0
  have pt1 := onP_of ot1
  refine ⟨3, (nl18_2 ..).trans ?_⟩
  rw [leaf_val hv2]
  simp only [cond_true, hs, hsm, h16, cnt_len, decide_true, Bool.and_self, Bool.true_and, Bool.and_true, decide_eq_true pt0.1, decide_eq_true pt0.2, decide_eq_true pt1.1, decide_eq_true pt1.2, decide_eq_true py0.1, decide_eq_true (show y0 < ((a * b).toNat : Int) by omega), decide_eq_true py1.1, decide_eq_true (show y1 < ((a * b).toNat : Int) by omega)]
  rfl)
theorem l18_6n3_run : ∀ base kv H o kv' H', (l18_6n3 base kv H).val = some (o, kv', H') → LoopOK T13 18 6 base kv H o kv' H' := l18_6n3_ok T13_ok (by kernel_rfl) (by
  intro y0 y1 y2 t0 t1 t2 sh tz a b r hv
  obtain ⟨hl, hv2⟩ := guard_val hv
  simp only [Bool.and_eq_true, decide_eq_true_eq] at hl
  obtain ⟨⟨⟨⟨⟨⟨⟨⟨⟨rfl, hs⟩, hsm⟩, h16⟩, oy0⟩, oy1⟩, oy2⟩, ot0⟩, ot1⟩, ot2⟩ := hl
  have py0 := onP_of oy0
  have py1 := onP_of oy1
  have py2 := onP_of oy2
  have pt0 := onP_of ot0
  have pt1 := onP_of ot1
  have pt2 := onP_of ot2
  refine ⟨4, (nl18_3 ..).trans ?_⟩
  rw [leaf_val hv2]
  simp only [cond_true, hs, hsm, h16, cnt_len, decide_true, Bool.and_self, Bool.true_and, Bool.and_true, decide_eq_true pt0.1, decide_eq_true pt0.2, decide_eq_true pt1.1, decide_eq_true pt1.2, decide_eq_true pt2.1, decide_eq_true pt2.2, decide_eq_true py0.1, decide_eq_true (show y0 < ((a * b).toNat : Int) by omega), decide_eq_true py1.1, decide_eq_true (show y1 < ((a * b).toNat : Int) by omega), decide_eq_true py2.1, decide_eq_true (show y2 < ((a * b).toNat : Int) by omega)]
  rfl)
theorem l18_6_run : ∀ base kv H o kv' H', (l18_6 base kv H).val = some (o, kv', H') → LoopOK T13 18 6 base kv H o kv' H' := by
  intro base kv H o kv' H' hv
  unfold l18_6 at hv
  split at hv
  · split at hv
    · exact l18_6n1_run _ _ _ _ _ _ hv
    · exact l18_6n2_run _ _ _ _ _ _ hv
    · exact l18_6n3_run _ _ _ _ _ _ hv
    · cases hv
  · cases hv
theorem T14_ok : TabOK T14 := T12_ok.addLoop fun b k H o k' H' hv => by refine LoopOK.tab ?_ ?_ ?_ ?_ (l18_6_run b k H o k' H' hv) <;> rfl
theorem c18n1_run : ∀ args H v H', (c18n1 args H).val = some (v, H') → CallOK T14 18 args H v H' := c18n1_ok T14_ok (by
  intro y0 t0 sh a b r hv
  obtain ⟨hl, hv2⟩ := guard_val hv
  rw [Bool.and_eq_true] at hl
  have hk := Lan.chk_ok (beq_iff_eq.1 hl.2)
  have h0 : (Lan.chk a b sh [y0] [t0] != 0) = false := by rw [bne, hl.2]; rfl
  have oy0 := hk.yards y0 (by simp)
  have ot0 := hk.tips t0 (by simp)
  rw [nf18_1, leaf_val hv2]
  simp only [h0, hl.1, hk.side, hk.in16, oy0, ot0, cond_true, cond_false, decide_true, Bool.and_self, Bool.true_and, show sm [y0] = true from rfl, show sm [t0] = true from rfl])
theorem c18n2_run : ∀ args H v H', (c18n2 args H).val = some (v, H') → CallOK T14 18 args H v H' := c18n2_ok T14_ok (by
  intro y0 y1 t0 t1 sh a b r hv
  obtain ⟨hl, hv2⟩ := guard_val hv
  rw [Bool.and_eq_true] at hl
  have hk := Lan.chk_ok (beq_iff_eq.1 hl.2)
  have h0 : (Lan.chk a b sh [y0, y1] [t0, t1] != 0) = false := by rw [bne, hl.2]; rfl
  have oy0 := hk.yards y0 (by simp)
  have oy1 := hk.yards y1 (by simp)
  have ot0 := hk.tips t0 (by simp)
  have ot1 := hk.tips t1 (by simp)
  rw [nf18_2, leaf_val hv2]
  simp only [h0, hl.1, hk.side, hk.in16, oy0, oy1, ot0, ot1, cond_true, cond_false, decide_true, Bool.and_self, Bool.true_and, show sm [y0, y1] = true from rfl, show sm [t0, t1] = true from rfl])
theorem c18n3_run : ∀ args H v H', (c18n3 args H).val = some (v, H') → CallOK T14 18 args H v H' := c18n3_ok T14_ok (by
  intro y0 y1 y2 t0 t1 t2 sh a b r hv
  obtain ⟨hl, hv2⟩ := guard_val hv
  rw [Bool.and_eq_true] at hl
  have hk := Lan.chk_ok (beq_iff_eq.1 hl.2)
  have h0 : (Lan.chk a b sh [y0, y1, y2] [t0, t1, t2] != 0) = false := by rw [bne, hl.2]; rfl
  have oy0 := hk.yards y0 (by simp)
  have oy1 := hk.yards y1 (by simp)
  have oy2 := hk.yards y2 (by simp)
  have ot0 := hk.tips t0 (by simp)
  have ot1 := hk.tips t1 (by simp)
  have ot2 := hk.tips t2 (by simp)
  rw [nf18_3, leaf_val hv2]
  simp only [h0, hl.1, hk.side, hk.in16, oy0, oy1, oy2, ot0, ot1, ot2, cond_true, cond_false, decide_true, Bool.and_self, Bool.true_and, show sm [y0, y1, y2] = true from rfl, show sm [t0, t1, t2] = true from rfl])
end Go.Ev.Lane
