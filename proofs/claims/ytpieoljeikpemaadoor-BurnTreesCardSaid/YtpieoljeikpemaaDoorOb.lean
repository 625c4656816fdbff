/- The heaps of the burn chapter's laws by numbers: tables and normal forms. -/
import Derived.Test.YtpieoljeikpemaaDoorSd
import Derived.Test.YtpieoljeikpemaaDoorOa
import Derived.Test.YtpieoljeikpemaaDoorLa
import Derived.Test.YtpieoljeikpemaaDoorEvE
import Derived.OpenShut
set_option linter.unusedVariables false
set_option linter.unusedSimpArgs false
namespace Go.Ev.Burn
open Go Go.Ev
set_option maxRecDepth 1000000
set_option linter.unusedVariables false
abbrev rD (l : List Int) : Row := ⟨[.run (.int .i64) l], true, 74, false, false, none⟩
abbrev aW (a b : Int) : AV := .agg [.run (.int .i64) ([a, b] : List Int)] false
noncomputable def N0 : Tab := { S15 with nest := true }
def l63_6t (n : Int) (ws : Ws) (z l : List Int) (i i2 : Int) : Tree (Out × List AV × Hp) := .br (decide (i = i2) && decide (0 ≤ i) && decide (i < 9) && decide (l.length = 81)) (.leaf (.ext 2, [ps 0, ps 1, ps 2, vi i, vi i2, vi 9], [some (rH n ws 24), some (rD z), some (rD (Brn.f0row i.toNat l))])) .fail
def l63_6 (base : Nat) (kv : List AV) (H : Hp) : Tree (Out × List AV × Hp) := match Nat.beq base 0, kv, H with
  | true, [(.ps 0 0 0 0), (.ps 1 0 0 0), (.ps 2 0 0 0), (.sc (.int .i64 i)), (.sc (.int .i64 i2)), (.sc (.int .i64 0))], [some ⟨[.sc (.int .i64 n), .sl (.pair .i64) ws false], true, 24, false, false, none⟩, some ⟨[.run (.int .i64) z], true, 74, false, false, none⟩, some ⟨[.run (.int .i64) l], true, 74, false, false, none⟩] => l63_6t n ws z l i i2
  | _, _, _ => .fail
theorem l63_6_ok {T : Tab} (hT : TabOK T) (hlo : loopOf T.fn 63 6 = some (lpc T 63 6)) (h : ∀ (n : Int) (ws : Ws) (z l : List Int) (i i2 : Int) (r : Out × List AV × Hp), (l63_6t n ws z l i i2).val = some r → ∃ mm, lpRun T 63 6 0 (lpc T 63 6) mm [ps 0, ps 1, ps 2, vi i, vi i2, vi 0] [some (rH n ws 24), some (rD z), some (rD l)] = some r) : ∀ base kv H o kv' H', (l63_6 base kv H).val = some (o, kv', H') → LoopOK T 63 6 base kv H o kv' H' := by
  intro base kv H o kv' H' hv
  unfold l63_6 at hv
  split at hv
  · rename_i hb
    obtain rfl := Nat.eq_of_beq_eq_true hb
    exact loop_ok hT hlo (h _ _ _ _ _ _ _ hv)
  · cases hv
theorem nl63_6 (again : Ag) (n : Int) (ws : Ws) (z l : List Int) (i k : Int) : lpStep N0 63 6 0 (lpc N0 63 6) again [ps 0, ps 1, ps 2, vi i, vi i, vi k] [some (rH n ws 24), some (rD z), some (rD l)] = (bif decide (k < 9) then bif i != k then bif decide (0 ≤ i) then bif decide (i < (↑9 : Int)) then bif decide (0 ≤ k) then bif decide (k < (↑9 : Int)) then oM l[k.toNat + i.toNat * 9]? fun x => again [.ps 0 0 0 0, .ps 1 0 0 0, .ps 2 0 0 0, vi i, vi i, vi (IntKind.i64.wrap (k + 1))] [some ⟨[vi n, .sl (.pair .i64) ws false], true, 24, false, false, none⟩, some ⟨[.run (.int .i64) z], true, 74, false, false, none⟩, some ⟨[.run (.int .i64) (l.set (k.toNat + i.toNat * 9) 100)], true, 74, false, false, none⟩] else none else none else none else none else again [.ps 0 0 0 0, .ps 1 0 0 0, .ps 2 0 0 0, vi i, vi i, vi (IntKind.i64.wrap (k + 1))] [some ⟨[vi n, .sl (.pair .i64) ws false], true, 24, false, false, none⟩, some ⟨[.run (.int .i64) z], true, 74, false, false, none⟩, some ⟨[.run (.int .i64) l], true, 74, false, false, none⟩] else some (.ext 2, [.ps 0 0 0 0, .ps 1 0 0 0, .ps 2 0 0 0, vi i, vi i, vi k], [some ⟨[vi n, .sl (.pair .i64) ws false], true, 24, false, false, none⟩, some ⟨[.run (.int .i64) z], true, 74, false, false, none⟩, some ⟨[.run (.int .i64) l], true, 74, false, false, none⟩])) := by kernel_rfl
def l63_24t (z l : List Int) (k i u v : Int) : Tree (Out × List AV × Hp) := .br (decide (0 ≤ i) && decide (i < 9) && decide (0 ≤ k) && decide (k < 9) && decide (l.length = 81) && Brn.smallF l) (.leaf (.ext 10, [ps 0, ps 1, vi k, vi i, vi u, vi v, vi 9], [some (rD z), some (rD (Brn.fI k.toNat l i.toNat))])) .fail
def l63_24 (base : Nat) (kv : List AV) (H : Hp) : Tree (Out × List AV × Hp) := match Nat.beq base 0, kv, H with
  | true, [(.ps 0 0 0 0), (.ps 1 0 0 0), (.sc (.int .i64 k)), (.sc (.int .i64 i)), (.sc (.int .i64 u)), (.sc (.int .i64 v)), (.sc (.int .i64 0))], [some ⟨[.run (.int .i64) z], true, 74, false, false, none⟩, some ⟨[.run (.int .i64) l], true, 74, false, false, none⟩] => l63_24t z l k i u v
  | _, _, _ => .fail
theorem l63_24_ok {T : Tab} (hT : TabOK T) (hlo : loopOf T.fn 63 24 = some (lpc T 63 24)) (h : ∀ (z l : List Int) (k i u v : Int) (r : Out × List AV × Hp), (l63_24t z l k i u v).val = some r → ∃ mm, lpRun T 63 24 0 (lpc T 63 24) mm [ps 0, ps 1, vi k, vi i, vi u, vi v, vi 0] [some (rD z), some (rD l)] = some r) : ∀ base kv H o kv' H', (l63_24 base kv H).val = some (o, kv', H') → LoopOK T 63 24 base kv H o kv' H' := by
  intro base kv H o kv' H' hv
  unfold l63_24 at hv
  split at hv
  · rename_i hb
    obtain rfl := Nat.eq_of_beq_eq_true hb
    exact loop_ok hT hlo (h _ _ _ _ _ _ _ hv)
  · cases hv
theorem nl63_24 (again : Ag) (z l : List Int) (k u i v j : Int) : lpStep N0 63 24 0 (lpc N0 63 24) again [ps 0, ps 1, vi k, vi i, vi u, vi v, vi j] [some (rD z), some (rD l)] = (bif decide (j < 9) then bif decide (0 ≤ i) then bif decide (i < (↑9 : Int)) then bif decide (0 ≤ j) then bif decide (j < (↑9 : Int)) then oM l[j.toNat + i.toNat * 9]? fun x => bif decide (0 ≤ i) then bif decide (i < (↑9 : Int)) then bif decide (0 ≤ k) then bif decide (k < (↑9 : Int)) then oM l[k.toNat + i.toNat * 9]? fun x_1 => bif decide (0 ≤ k) then bif decide (k < (↑9 : Int)) then bif decide (0 ≤ j) then bif decide (j < (↑9 : Int)) then oM l[j.toNat + k.toNat * 9]? fun x_2 => bif decide (0 ≤ i) then bif decide (i < (↑9 : Int)) then bif decide (0 ≤ j) then bif decide (j < (↑9 : Int)) then oM l[j.toNat + i.toNat * 9]? fun x_3 => again [.ps 0 0 0 0, .ps 1 0 0 0, vi k, vi i, vi u, vi v, vi (IntKind.i64.wrap (j + 1))] [some ⟨[.run (.int .i64) z], true, 74, false, false, none⟩, some { c := [.run (.int .i64) (l.set (j.toNat + i.toNat * 9) (if IntKind.i64.wrap (x_1 + x_2) < x then IntKind.i64.wrap (x_1 + x_2) else x))], vr := true, ty := 74, fz := false, loose := false : Row }] else none else none else none else none else none else none else none else none else none else none else none else none else none else none else none else none else some (.ext 10, [.ps 0 0 0 0, .ps 1 0 0 0, vi k, vi i, vi u, vi v, vi j], [some ⟨[.run (.int .i64) z], true, 74, false, false, none⟩, some ⟨[.run (.int .i64) l], true, 74, false, false, none⟩])) := by kernel_rfl
theorem nl63_13 (again : Ag) (n : Int) (ws : Ws) (z l : List Int) (k : Int) : lpStep N0 63 13 0 (lpc N0 63 13) again [ps 0, ps 1, lW ws, vi ws.length, vi k] [some (rD z), some (rD l)] = (bif decide (k < (↑(List.length ws) : Int)) then bif decide (0 ≤ k) then bif decide (k < (↑(List.length ws) : Int)) then oM ws[k.toNat]? fun x => bif decide (0 ≤ x.fst) then bif decide (x.fst < (↑9 : Int)) then bif decide (0 ≤ x.snd) then bif decide (x.snd < (↑9 : Int)) then oM l[x.snd.toNat + x.fst.toNat * 9]? fun x_1 => bif decide (0 ≤ x.snd) then bif decide (x.snd < (↑9 : Int)) then bif decide (0 ≤ x.fst) then bif decide (x.fst < (↑9 : Int)) then oM (l.set (x.snd.toNat + x.fst.toNat * 9) 1)[x.fst.toNat + x.snd.toNat * 9]? fun x_2 => again [.ps 0 0 0 0, .ps 1 0 0 0, .sl (.pair .i64) ws false, vi (↑(List.length ws) : Int), vi (IntKind.i64.wrap (k + 1))] [some ⟨[.run (.int .i64) z], true, 74, false, false, none⟩, some ⟨[.run (.int .i64) ((l.set (x.snd.toNat + x.fst.toNat * 9) 1).set (x.fst.toNat + x.snd.toNat * 9) 1)], true, 74, false, false, none⟩] else none else none else none else none else none else none else none else none else none else none else some (.ext 4, [.ps 0 0 0 0, .ps 1 0 0 0, .sl (.pair .i64) ws false, vi (↑(List.length ws) : Int), vi k], [some ⟨[.run (.int .i64) z], true, 74, false, false, none⟩, some ⟨[.run (.int .i64) l], true, 74, false, false, none⟩])) := by kernel_rfl
def l63_13t (ws : Ws) (z l : List Int) (m : Int) : Tree (Out × List AV × Hp) := .br (decide (m = ws.length) && sm ws && decide (l.length = 81) && ws.all (fun w => decide (0 ≤ w.1) && decide (w.1 < 9) && decide (0 ≤ w.2) && decide (w.2 < 9))) (.leaf (.ext 4, [ps 0, ps 1, lW ws, vi m, vi m], [some (rD z), some (rD (ws.foldl Brn.fWay l))])) .fail
def l63_13 (base : Nat) (kv : List AV) (H : Hp) : Tree (Out × List AV × Hp) := match Nat.beq base 0, kv, H with
  | true, [(.ps 0 0 0 0), (.ps 1 0 0 0), (.sl (.pair .i64) ws false), (.sc (.int .i64 m)), (.sc (.int .i64 0))], [some ⟨[.run (.int .i64) z], true, 74, false, false, none⟩, some ⟨[.run (.int .i64) l], true, 74, false, false, none⟩] => l63_13t ws z l m
  | _, _, _ => .fail
theorem l63_13_ok {T : Tab} (hT : TabOK T) (hlo : loopOf T.fn 63 13 = some (lpc T 63 13)) (h : ∀ (ws : Ws) (z l : List Int) (m : Int) (r : Out × List AV × Hp), (l63_13t ws z l m).val = some r → ∃ mm, lpRun T 63 13 0 (lpc T 63 13) mm [ps 0, ps 1, lW ws, vi m, vi 0] [some (rD z), some (rD l)] = some r) : ∀ base kv H o kv' H', (l63_13 base kv H).val = some (o, kv', H') → LoopOK T 63 13 base kv H o kv' H' := by
  intro base kv H o kv' H' hv
  unfold l63_13 at hv
  split at hv
  · rename_i hb
    obtain rfl := Nat.eq_of_beq_eq_true hb
    exact loop_ok hT hlo (h _ _ _ _ _ hv)
  · cases hv
noncomputable def N1 : Tab := (((N0).addLoop 63 6 l63_6).addLoop 63 24 l63_24).addLoop 63 13 l63_13
theorem nl63_3 (again : Ag) (n : Int) (ws : Ws) (z l : List Int) (i : Int) : lpStep N1 63 3 0 (lpc N1 63 3) again [ps 0, ps 1, ps 2, vi i] [some (rH n ws 24), some (rD z), some (rD l)] =
  (bif decide (i < 9) then bif decide (i = i) && decide (0 ≤ i) && decide (i < 9) && decide (l.length = 81) then again [ps 0, ps 1, ps 2, vi (IntKind.i64.wrap (i + 1))] [some (rH n ws 24), some (rD z), some (rD (Brn.f0row i.toNat l))] else none else some (.ext 0, [ps 0, ps 1, ps 2, vi i], [some (rH n ws 24), some (rD z), some (rD l)])) := by kernel_rfl
theorem nl63_21 (again : Ag) (z l : List Int) (k u i : Int) : lpStep N1 63 21 0 (lpc N1 63 21) again [ps 0, ps 1, vi k, vi u, vi i] [some (rD z), some (rD l)] = (bif decide (i < 9) then bif decide (0 ≤ i) && decide (i < 9) && decide (0 ≤ k) && decide (k < 9) && decide (l.length = 81) && Brn.smallF l then again [.ps 0 0 0 0, .ps 1 0 0 0, vi k, vi u, vi (IntKind.i64.wrap (i + 1))] [some ⟨[.run (.int .i64) z], true, 74, false, false, none⟩, some ⟨[.run (.int .i64) (Brn.fI k.toNat l i.toNat)], true, 74, false, false, none⟩] else none else some (.ext 8, [.ps 0 0 0 0, .ps 1 0 0 0, vi k, vi u, vi i], [some ⟨[.run (.int .i64) z], true, 74, false, false, none⟩, some ⟨[.run (.int .i64) l], true, 74, false, false, none⟩])) := by kernel_rfl
def l63_3t (n : Int) (ws : Ws) (z l : List Int) : Tree (Out × List AV × Hp) := .br (decide (l.length = 81)) (.leaf (.ext 0, [ps 0, ps 1, ps 2, vi 9], [some (rH n ws 24), some (rD z), some (rD (Brn.f0 l))])) .fail
def l63_3 (base : Nat) (kv : List AV) (H : Hp) : Tree (Out × List AV × Hp) := match Nat.beq base 0, kv, H with
  | true, [(.ps 0 0 0 0), (.ps 1 0 0 0), (.ps 2 0 0 0), (.sc (.int .i64 0))], [some ⟨[.sc (.int .i64 n), .sl (.pair .i64) ws false], true, 24, false, false, none⟩, some ⟨[.run (.int .i64) z], true, 74, false, false, none⟩, some ⟨[.run (.int .i64) l], true, 74, false, false, none⟩] => l63_3t n ws z l
  | _, _, _ => .fail
theorem l63_3_ok {T : Tab} (hT : TabOK T) (hlo : loopOf T.fn 63 3 = some (lpc T 63 3)) (h : ∀ (n : Int) (ws : Ws) (z l : List Int) (r : Out × List AV × Hp), (l63_3t n ws z l).val = some r → ∃ mm, lpRun T 63 3 0 (lpc T 63 3) mm [ps 0, ps 1, ps 2, vi 0] [some (rH n ws 24), some (rD z), some (rD l)] = some r) : ∀ base kv H o kv' H', (l63_3 base kv H).val = some (o, kv', H') → LoopOK T 63 3 base kv H o kv' H' := by
  intro base kv H o kv' H' hv
  unfold l63_3 at hv
  split at hv
  · rename_i hb
    obtain rfl := Nat.eq_of_beq_eq_true hb
    exact loop_ok hT hlo (h _ _ _ _ _ hv)
  · cases hv
def l63_21t (z l : List Int) (k u : Int) : Tree (Out × List AV × Hp) := .br (decide (0 ≤ k) && decide (k < 9) && decide (l.length = 81) && Brn.smallF l) (.leaf (.ext 8, [ps 0, ps 1, vi k, vi u, vi 9], [some (rD z), some (rD (Brn.fK l k.toNat))])) .fail
def l63_21 (base : Nat) (kv : List AV) (H : Hp) : Tree (Out × List AV × Hp) := match Nat.beq base 0, kv, H with
  | true, [(.ps 0 0 0 0), (.ps 1 0 0 0), (.sc (.int .i64 k)), (.sc (.int .i64 u)), (.sc (.int .i64 0))], [some ⟨[.run (.int .i64) z], true, 74, false, false, none⟩, some ⟨[.run (.int .i64) l], true, 74, false, false, none⟩] => l63_21t z l k u
  | _, _, _ => .fail
theorem l63_21_ok {T : Tab} (hT : TabOK T) (hlo : loopOf T.fn 63 21 = some (lpc T 63 21)) (h : ∀ (z l : List Int) (k u : Int) (r : Out × List AV × Hp), (l63_21t z l k u).val = some r → ∃ mm, lpRun T 63 21 0 (lpc T 63 21) mm [ps 0, ps 1, vi k, vi u, vi 0] [some (rD z), some (rD l)] = some r) : ∀ base kv H o kv' H', (l63_21 base kv H).val = some (o, kv', H') → LoopOK T 63 21 base kv H o kv' H' := by
  intro base kv H o kv' H' hv
  unfold l63_21 at hv
  split at hv
  · rename_i hb
    obtain rfl := Nat.eq_of_beq_eq_true hb
    exact loop_ok hT hlo (h _ _ _ _ _ hv)
  · cases hv
noncomputable def N2 : Tab := ((N1).addLoop 63 3 l63_3).addLoop 63 21 l63_21
theorem nl63_18 (again : Ag) (z l : List Int) (k : Int) : lpStep N2 63 18 0 (lpc N2 63 18) again [ps 0, ps 1, vi k] [some (rD z), some (rD l)] = (bif decide (k < 9) then bif decide (0 ≤ k) && decide (k < 9) && decide (l.length = 81) && Brn.smallF l then again [.ps 0 0 0 0, .ps 1 0 0 0, vi (IntKind.i64.wrap (k + 1))] [some ⟨[.run (.int .i64) z], true, 74, false, false, none⟩, some ⟨[.run (.int .i64) (Brn.fK l k.toNat)], true, 74, false, false, none⟩] else none else some (.ext 6, [.ps 0 0 0 0, .ps 1 0 0 0, vi k], [some ⟨[.run (.int .i64) z], true, 74, false, false, none⟩, some ⟨[.run (.int .i64) l], true, 74, false, false, none⟩])) := by kernel_rfl
def l63_18t (z l : List Int) : Tree (Out × List AV × Hp) := .br (decide (l.length = 81) && Brn.smallF l) (.leaf (.ext 6, [ps 0, ps 1, vi 9], [some (rD z), some (rD ((List.range 9).foldl Brn.fK l))])) .fail
def l63_18 (base : Nat) (kv : List AV) (H : Hp) : Tree (Out × List AV × Hp) := match Nat.beq base 0, kv, H with
  | true, [(.ps 0 0 0 0), (.ps 1 0 0 0), (.sc (.int .i64 0))], [some ⟨[.run (.int .i64) z], true, 74, false, false, none⟩, some ⟨[.run (.int .i64) l], true, 74, false, false, none⟩] => l63_18t z l
  | _, _, _ => .fail
theorem l63_18_ok {T : Tab} (hT : TabOK T) (hlo : loopOf T.fn 63 18 = some (lpc T 63 18)) (h : ∀ (z l : List Int) (r : Out × List AV × Hp), (l63_18t z l).val = some r → ∃ mm, lpRun T 63 18 0 (lpc T 63 18) mm [ps 0, ps 1, vi 0] [some (rD z), some (rD l)] = some r) : ∀ base kv H o kv' H', (l63_18 base kv H).val = some (o, kv', H') → LoopOK T 63 18 base kv H o kv' H' := by
  intro base kv H o kv' H' hv
  unfold l63_18 at hv
  split at hv
  · rename_i hb
    obtain rfl := Nat.eq_of_beq_eq_true hb
    exact loop_ok hT hlo (h _ _ _ hv)
  · cases hv
noncomputable def N3 : Tab := (N2).addLoop 63 18 l63_18
theorem nf63 (n : Int) (ws : Ws) : evBody N3 63 [aH n ws] [] = (bif decide ((↑(List.length ws) : Int) = (↑(List.length ws) : Int)) && sm ws && decide (81 = 81) && List.all ws fun w => decide (0 ≤ w.fst) && decide (w.fst < 9) && decide (0 ≤ w.snd) && decide (w.snd < 9) then bif decide ((List.foldl Brn.fWay (Brn.f0 (List.replicate 81 0)) ws).length = 81) && Brn.smallF (List.foldl Brn.fWay (Brn.f0 (List.replicate 81 0)) ws) then bif decide (List.map (fun (x : AV) => match x with | .run e l => l.length * e.size | _ => 1) (List.take 1 (List.drop 0 [.run (.int .i64) (List.foldl Brn.fK (List.foldl Brn.fWay (Brn.f0 (List.replicate 81 0)) ws) (List.range 9))])) = List.map (fun (x : AV) => match x with | .run e l => l.length * e.size | _ => 1) ((some [.run (.int .i64) (List.replicate 81 0)]).getD [])) then some (.agg [.run (.int .i64) (List.foldl Brn.fK (List.foldl Brn.fWay (Brn.f0 (List.replicate 81 0)) ws) (List.range 9))] false, []) else none else none else none) := by kernel_rfl
def c63t (n : Int) (ws : Ws) : Tree (AV × Hp) := .br (sm ws && decide (1 ≤ n) && ws.all (fun w => decide (0 ≤ w.1) && decide (w.1 < 9) && decide (0 ≤ w.2) && decide (w.2 < 9))) (.leaf (.agg [.run (.int .i64) (Brn.distN n ws)] false, [])) .fail
def c63 (args : List AV) (H : Hp) : Tree (AV × Hp) := match args, H with
  | [(.agg [.sc (.int .i64 n), .sl (.pair .i64) ws false] false)], [] => c63t n ws
  | _, _ => .fail
theorem c63_ok {T : Tab} (hT : TabOK T) (h : ∀ (n : Int) (ws : Ws) (r : AV × Hp), (c63t n ws).val = some r → evBody T 63 [aH n ws] [] = some r) : ∀ args H v H', (c63 args H).val = some (v, H') → CallOK T 63 args H v H' := by
  intro args H v H' hv
  unfold c63 at hv
  split at hv
  · exact evBody_sound hT (h _ _ _ hv)
  · cases hv
end Go.Ev.Burn
namespace Go.Ev.Burn
open Go Go.Ev
set_option maxRecDepth 1000000
set_option linter.unusedVariables false
set_option linter.unusedSimpArgs false
theorem N0_ok : TabOK N0 := by
  have h := S15_ok
  exact ⟨fun f a H v H' hv => by refine CallOK.tab ?_ ?_ (h.calls f a H v H' hv) <;> rfl, fun f l b k H o k' H' hv => by refine LoopOK.tab ?_ ?_ ?_ ?_ (h.loops f l b k H o k' H' hv) <;> rfl, h.fns, h.mixed⟩
theorem get81 {l : List Int} (hl : l.length = 81) {i k : Nat} (hi : i < 9) (hk : k < 9) : l[k + i * 9]? = some (Brn.at9 l i k) := by
  unfold Brn.at9
  rw [List.getD_eq_getElem?_getD, List.getElem?_eq_getElem (by omega)]; rfl
theorem rng9 {i x : Nat} (h : (List.range 9)[i]? = some x) (hlt : i < (List.range 9).length) : x = i ∧ i < 9 := by
  rw [List.length_range] at hlt
  rw [List.getElem?_range hlt] at h
  cases h; exact ⟨rfl, hlt⟩
theorem mif (a b : Int) : (if b < a then b else a) = min a b := by rw [Int.min_def]; split <;> split <;> omega
theorem l63_6_run : ∀ base kv H o kv' H', (l63_6 base kv H).val = some (o, kv', H') → LoopOK N0 63 6 base kv H o kv' H' := l63_6_ok N0_ok (by kernel_rfl) (by
  intro n ws z l i i2 r hv
  obtain ⟨hl, hv2⟩ := guard_val hv
  simp only [Bool.and_eq_true, decide_eq_true_eq] at hl
  obtain ⟨⟨⟨rfl, a1⟩, a2⟩, a3⟩ := hl
  obtain ⟨i, rfl⟩ := Int.eq_ofNat_of_zero_le a1
  obtain ⟨mm, hm⟩ := fold_of (T := N0) (fid := 63) (lid := 6) (base := 0) (c := lpc N0 63 6) (List.range 9) (fun _ (s : List Int) => s.length = 81) (fun (s : List Int) k => bif decide (i = k) then s else Brn.set9 s i k 100)
    (fun k s => [ps 0, ps 1, ps 2, vi i, vi i, vi k]) (fun s => [some (rH n ws 24), some (rD z), some (rD s)]) (fun s => (.ext 2, [ps 0, ps 1, ps 2, vi i, vi i, vi 9], [some (rH n ws 24), some (rD z), some (rD s)]))
    (fun k x s hx hlt hI again => by
      obtain ⟨rfl, hk⟩ := rng9 hx hlt
      rw [nl63_6, wrap_succ (by omega)]
      simp only [toNat_cast, decide_eq_true (show (x : Int) < 9 by omega), decide_eq_true a2, dec_ge, get81 hI (show i < 9 by omega) hk, oM, cond_true]
      by_cases he : i = x
      · subst he
        rw [show ((i : Int) != (i : Int)) = false by simp, decide_eq_true rfl]; rfl
      · rw [show ((i : Int) != (x : Int)) = true by simp [bne]; omega, decide_eq_false he]; rfl)
    (fun k x s hx hlt hI => by cases decide (i = x) <;> simp [Brn.set9_len, hI])
    (fun s hI again => by
      rw [List.length_range, nl63_6]
      rfl) l a3
  refine ⟨mm, hm.trans ?_⟩
  rw [leaf_val hv2, toNat_cast]; rfl)
theorem l63_24_run : ∀ base kv H o kv' H', (l63_24 base kv H).val = some (o, kv', H') → LoopOK N0 63 24 base kv H o kv' H' := l63_24_ok N0_ok (by kernel_rfl) (by
  intro z l k i u v r hv
  obtain ⟨hl, hv2⟩ := guard_val hv
  simp only [Bool.and_eq_true, decide_eq_true_eq] at hl
  obtain ⟨⟨⟨⟨⟨a1, a2⟩, a3⟩, a4⟩, a5⟩, a6⟩ := hl
  obtain ⟨i, rfl⟩ := Int.eq_ofNat_of_zero_le a1
  obtain ⟨k, rfl⟩ := Int.eq_ofNat_of_zero_le a3
  have hi : i < 9 := by omega
  have hk : k < 9 := by omega
  obtain ⟨mm, hm⟩ := fold_of (T := N0) (fid := 63) (lid := 24) (base := 0) (c := lpc N0 63 24) (List.range 9) (fun _ (s : List Int) => s.length = 81 ∧ Brn.smallF s = true) (fun s j => Brn.fIJ k i s j)
    (fun j s => [ps 0, ps 1, vi k, vi i, vi u, vi v, vi j]) (fun s => [some (rD z), some (rD s)]) (fun s => (.ext 10, [ps 0, ps 1, vi k, vi i, vi u, vi v, vi 9], [some (rD z), some (rD s)]))
    (fun j x s hx hlt hI again => by
      obtain ⟨rfl, hj⟩ := rng9 hx hlt
      have b := Brn.small_get hI.2 (k + i * 9)
      have c := Brn.small_get hI.2 (x + k * 9)
      rw [nl63_24, wrap_succ (by omega)]
      simp only [toNat_cast, decide_eq_true (show (x : Int) < 9 by omega), decide_eq_true a2, decide_eq_true a4, dec_ge, get81 hI.1 hi hj, get81 hI.1 hi hk, get81 hI.1 hk hj, oM, cond_true]
      rw [wrapi (by unfold Brn.at9; omega) (by unfold Brn.at9; omega), mif]
      rfl)
    (fun j x s hx hlt hI => ⟨by rw [Brn.fIJ_len]; exact hI.1, Brn.small_fIJ k i s x hI.2⟩)
    (fun s hI again => by
      rw [List.length_range, nl63_24]
      rfl) l ⟨a5, a6⟩
  refine ⟨mm, hm.trans ?_⟩
  rw [leaf_val hv2, toNat_cast, toNat_cast]; rfl)
theorem l63_13_run : ∀ base kv H o kv' H', (l63_13 base kv H).val = some (o, kv', H') → LoopOK N0 63 13 base kv H o kv' H' := l63_13_ok N0_ok (by kernel_rfl) (by
  intro ws z l m r hv
  obtain ⟨hl, hv2⟩ := guard_val hv
  simp only [Bool.and_eq_true, decide_eq_true_eq] at hl
  obtain ⟨⟨⟨rfl, a1⟩, a2⟩, a3⟩ := hl
  have hw := sm_le a1
  rw [List.all_eq_true] at a3
  obtain ⟨mm, hm⟩ := fold_of (T := N0) (fid := 63) (lid := 13) (base := 0) (c := lpc N0 63 13) ws (fun _ (s : List Int) => s.length = 81) Brn.fWay
    (fun k s => [ps 0, ps 1, lW ws, vi ws.length, vi k]) (fun s => [some (rD z), some (rD s)]) (fun s => (.ext 4, [ps 0, ps 1, lW ws, vi ws.length, vi ws.length], [some (rD z), some (rD s)]))
    (fun k x s hx hlt hI again => by
      have hb := a3 x (List.mem_of_getElem? hx)
      simp only [Bool.and_eq_true, decide_eq_true_eq] at hb
      obtain ⟨⟨⟨b1, b2⟩, b3⟩, b4⟩ := hb
      obtain ⟨x0, x1⟩ := x
      simp only at b1 b2 b3 b4
      obtain ⟨p, rfl⟩ := Int.eq_ofNat_of_zero_le b1
      obtain ⟨q, rfl⟩ := Int.eq_ofNat_of_zero_le b3
      have hp : p < 9 := by omega
      have hq : q < 9 := by omega
      rw [nl63_13 again 0, wrap_succ (by omega)]
      have h2 := get81 (l := Brn.set9 s p q 1) (by rw [Brn.set9_len]; exact hI) hq hp
      unfold Brn.set9 at h2
      simp only [dec_lt hlt, toNat_cast, dec_ge, hx, oM, cond_true, decide_eq_true b2, decide_eq_true b4, get81 hI hp hq, h2]
      rfl)
    (fun k x s hx hlt hI => by rw [Brn.fWay_len]; exact hI)
    (fun s hI again => by
      rw [nl63_13 again 0]
      simp only [dec_ll, cond_false]) l a2
  refine ⟨mm, hm.trans ?_⟩
  rw [leaf_val hv2])
theorem N1_ok : TabOK N1 := by
  have h := N0_ok
  have h := h.addLoop (g := 63) (lid := 6) (r := l63_6) fun b k H o k' H' hv => by refine LoopOK.tab ?_ ?_ ?_ ?_ (l63_6_run b k H o k' H' hv) <;> rfl
  have h := h.addLoop (g := 63) (lid := 24) (r := l63_24) fun b k H o k' H' hv => by refine LoopOK.tab ?_ ?_ ?_ ?_ (l63_24_run b k H o k' H' hv) <;> rfl
  have h := h.addLoop (g := 63) (lid := 13) (r := l63_13) fun b k H o k' H' hv => by refine LoopOK.tab ?_ ?_ ?_ ?_ (l63_13_run b k H o k' H' hv) <;> rfl
  exact h
theorem l63_3_run : ∀ base kv H o kv' H', (l63_3 base kv H).val = some (o, kv', H') → LoopOK N1 63 3 base kv H o kv' H' := l63_3_ok N1_ok (by kernel_rfl) (by
  intro n ws z l r hv
  obtain ⟨hl, hv2⟩ := guard_val hv
  obtain ⟨mm, hm⟩ := fold_of (T := N1) (fid := 63) (lid := 3) (base := 0) (c := lpc N1 63 3) (List.range 9) (fun _ (s : List Int) => s.length = 81) (fun (s : List Int) i => Brn.f0row i s)
    (fun i s => [ps 0, ps 1, ps 2, vi i]) (fun s => [some (rH n ws 24), some (rD z), some (rD s)]) (fun s => (.ext 0, [ps 0, ps 1, ps 2, vi 9], [some (rH n ws 24), some (rD z), some (rD s)]))
    (fun i x s hx hlt hI again => by
      obtain ⟨rfl, hk⟩ := rng9 hx hlt
      rw [nl63_3, wrap_succ (by omega)]
      simp only [toNat_cast, decide_eq_true (show (x : Int) < 9 by omega), dec_ge, decide_true, decide_eq_true hI, Bool.and_self, cond_true])
    (fun i x s hx hlt hI => by rw [Brn.f0row_len]; exact hI)
    (fun s hI again => by
      rw [List.length_range, nl63_3]
      rfl) l (of_decide_eq_true hl)
  refine ⟨mm, hm.trans ?_⟩
  rw [leaf_val hv2]; rfl)
theorem l63_21_run : ∀ base kv H o kv' H', (l63_21 base kv H).val = some (o, kv', H') → LoopOK N1 63 21 base kv H o kv' H' := l63_21_ok N1_ok (by kernel_rfl) (by
  intro z l k u r hv
  obtain ⟨hl, hv2⟩ := guard_val hv
  simp only [Bool.and_eq_true, decide_eq_true_eq] at hl
  obtain ⟨⟨⟨a3, a4⟩, a5⟩, a6⟩ := hl
  obtain ⟨k, rfl⟩ := Int.eq_ofNat_of_zero_le a3
  obtain ⟨mm, hm⟩ := fold_of (T := N1) (fid := 63) (lid := 21) (base := 0) (c := lpc N1 63 21) (List.range 9) (fun _ (s : List Int) => s.length = 81 ∧ Brn.smallF s = true) (fun s i => Brn.fI k s i)
    (fun i s => [ps 0, ps 1, vi k, vi u, vi i]) (fun s => [some (rD z), some (rD s)]) (fun s => (.ext 8, [ps 0, ps 1, vi k, vi u, vi 9], [some (rD z), some (rD s)]))
    (fun i x s hx hlt hI again => by
      obtain ⟨rfl, hk⟩ := rng9 hx hlt
      rw [nl63_21, wrap_succ (by omega)]
      simp only [toNat_cast, decide_eq_true (show (x : Int) < 9 by omega), dec_ge, decide_eq_true a4, decide_eq_true hI.1, hI.2, Bool.and_self, cond_true])
    (fun i x s hx hlt hI => ⟨by rw [Brn.fI_len]; exact hI.1, Brn.small_fI k s x hI.2⟩)
    (fun s hI again => by
      rw [List.length_range, nl63_21]
      rfl) l ⟨a5, a6⟩
  refine ⟨mm, hm.trans ?_⟩
  rw [leaf_val hv2, toNat_cast]; rfl)
theorem N2_ok : TabOK N2 := by
  have h := N1_ok
  have h := h.addLoop (g := 63) (lid := 3) (r := l63_3) fun b k H o k' H' hv => by refine LoopOK.tab ?_ ?_ ?_ ?_ (l63_3_run b k H o k' H' hv) <;> rfl
  have h := h.addLoop (g := 63) (lid := 21) (r := l63_21) fun b k H o k' H' hv => by refine LoopOK.tab ?_ ?_ ?_ ?_ (l63_21_run b k H o k' H' hv) <;> rfl
  exact h
theorem l63_18_run : ∀ base kv H o kv' H', (l63_18 base kv H).val = some (o, kv', H') → LoopOK N2 63 18 base kv H o kv' H' := l63_18_ok N2_ok (by kernel_rfl) (by
  intro z l r hv
  obtain ⟨hl, hv2⟩ := guard_val hv
  simp only [Bool.and_eq_true, decide_eq_true_eq] at hl
  obtain ⟨a5, a6⟩ := hl
  obtain ⟨mm, hm⟩ := fold_of (T := N2) (fid := 63) (lid := 18) (base := 0) (c := lpc N2 63 18) (List.range 9) (fun _ (s : List Int) => s.length = 81 ∧ Brn.smallF s = true) Brn.fK
    (fun i s => [ps 0, ps 1, vi i]) (fun s => [some (rD z), some (rD s)]) (fun s => (.ext 6, [ps 0, ps 1, vi 9], [some (rD z), some (rD s)]))
    (fun i x s hx hlt hI again => by
      obtain ⟨rfl, hk⟩ := rng9 hx hlt
      rw [nl63_18, wrap_succ (by omega)]
      simp only [toNat_cast, decide_eq_true (show (x : Int) < 9 by omega), dec_ge, decide_eq_true hI.1, hI.2, Bool.and_self, cond_true])
    (fun i x s hx hlt hI => ⟨by rw [Brn.fK_len]; exact hI.1, Brn.small_fK s x hI.2⟩)
    (fun s hI again => by
      rw [List.length_range, nl63_18]
      rfl) l ⟨a5, a6⟩
  refine ⟨mm, hm.trans ?_⟩
  rw [leaf_val hv2])
theorem N3_ok : TabOK N3 := by
  have h := N2_ok
  have h := h.addLoop (g := 63) (lid := 18) (r := l63_18) fun b k H o k' H' hv => by refine LoopOK.tab ?_ ?_ ?_ ?_ (l63_18_run b k H o k' H' hv) <;> rfl
  exact h
theorem c63_run : ∀ args H v H', (c63 args H).val = some (v, H') → CallOK N3 63 args H v H' := c63_ok N3_ok (by
  intro n ws r hv
  obtain ⟨hl, hv2⟩ := guard_val hv
  simp only [Bool.and_eq_true, decide_eq_true_eq] at hl
  have hd : Brn.distN n ws = Brn.dist9 ws := by unfold Brn.distN; rw [decide_eq_false (show ¬ n = 0 by omega), cond_false]
  rw [leaf_val hv2, nf63, hd]
  have e1 : (ws.foldl Brn.fWay (Brn.f0 (List.replicate 81 0))).length = 81 := by rw [Brn.ways_len, Brn.f0_len]; simp
  have e2 : Brn.smallF (ws.foldl Brn.fWay (Brn.f0 (List.replicate 81 0))) = true := Brn.small_init ws
  have e3 := Brn.dist9_len ws
  unfold Brn.dist9 Brn.z81 at e3
  simp only [hl.1.1, hl.2, e1, e2, decide_true, Bool.and_self, cond_true, List.drop_zero, List.take_succ_cons, List.take_zero, List.map_cons, List.map_nil, e3, Option.getD_some]
  rfl)
end Go.Ev.Burn
namespace Go.Ev
open Go Go.RowKit Go.ChangeShapes Go.WideShapes
set_option linter.unusedVariables false
section
variable {H : Type} {enc : TypeId × Value → H} {P : Program} {W : World} {base : Nat} {sp : Nat → Bool} {held : Bool}
def arrI (P : Program) (k : IntKind) : Nat → TypeId → Bool
  | 0, _ => false
  | f + 1, t => match P.underlying t with
    | some (.int k') => decide (k' = k) && Nat.beq (P.cellsOf t) 1
    | some (.array n e) => Nat.beq (P.cellsOf t) (n * P.cellsOf e) && arrI P k f e
    | _ => false
theorem trod_arr {k : IntKind} : ∀ (f : Nat) {t : TypeId} {fuel : Nat} {cs : List Value} {x : DataW H × List MemPlace}, arrI P k f t = true → DataW.trod enc P W base sp held fuel t cs = some x →
    cs.length = P.cellsOf t ∧ ∀ c ∈ cs, ∃ z, c = .int k z ∧ (Lit.int k z).wf = true
  | 0, t, fuel, cs, x, ha, h => by cases ha
  | f + 1, t, fuel, cs, x, ha, h => by
    unfold arrI at ha
    split at ha
    · rename_i k' ht
      simp only [Bool.and_eq_true, decide_eq_true_eq] at ha
      obtain ⟨rfl, hc⟩ := ha
      obtain ⟨n, rfl, hw⟩ := trod_int ht h
      exact ⟨(Nat.eq_of_beq_eq_true hc).symm, fun c hc => by rw [List.mem_singleton] at hc; exact ⟨n, hc, hw⟩⟩
    · rename_i n e ht
      rw [Bool.and_eq_true] at ha
      obtain ⟨hc, ha⟩ := ha
      have hc := Nat.eq_of_beq_eq_true hc
      obtain ⟨xs, m, rfl, rfl, hl, hx, hf⟩ := DataW.trod_array ht h
      refine ⟨hl, fun c hcm => ?_⟩
      obtain ⟨j, hj, rfl⟩ := List.getElem_of_mem hcm
      have he : 0 < P.cellsOf e := Nat.pos_of_ne_zero fun h0 => by rw [h0, Nat.mul_zero] at hc; omega
      have hi : j / P.cellsOf e < n := by
        rw [Nat.div_lt_iff_lt_mul he]; omega
      have h1 := hf _ hi
      rw [List.getElem?_eq_getElem (by omega)] at h1
      obtain ⟨h2, h3⟩ := trod_arr f ha h1
      have hm : cs[j] ∈ (cs.drop (j / P.cellsOf e * P.cellsOf e)).take (P.cellsOf e) := by
        have hmod := Nat.mod_lt j he
        have hdm := Nat.div_add_mod j (P.cellsOf e)
        rw [Nat.mul_comm] at hdm
        rw [List.mem_iff_getElem?]
        refine ⟨j % P.cellsOf e, ?_⟩
        rw [List.getElem?_take, if_pos hmod, List.getElem?_drop, hdm, List.getElem?_eq_getElem hj]
      exact h3 _ hm
    · cases ha
theorem ints_of {k : IntKind} : ∀ {cs : List Value}, (∀ c ∈ cs, ∃ z, c = .int k z ∧ (Lit.int k z).wf = true) → ∃ zs : List Int, cs = zs.map (Value.int k) ∧ ∀ z ∈ zs, (Lit.int k z).wf = true
  | [], _ => ⟨[], rfl, fun z hz => by cases hz⟩
  | c :: cs, h => by
    obtain ⟨z, rfl, hz⟩ := h c (by simp)
    obtain ⟨zs, rfl, hzs⟩ := ints_of (cs := cs) fun c hc => h c (List.mem_cons_of_mem _ hc)
    refine ⟨z :: zs, rfl, fun y hy => ?_⟩
    rcases List.mem_cons.1 hy with rfl | hy
    · exact hz
    · exact hzs y hy
theorem trod_ints {k : IntKind} (f : Nat) {t : TypeId} {fuel : Nat} {cs : List Value} {x : DataW H × List MemPlace} (ha : arrI P k f t = true) (h : DataW.trod enc P W base sp held fuel t cs = some x) :
    ∃ zs : List Int, cs = zs.map (Value.int k) ∧ zs.length = P.cellsOf t ∧ ∀ z ∈ zs, (Lit.int k z).wf = true := by
  obtain ⟨h1, h2⟩ := trod_arr f ha h
  obtain ⟨zs, rfl, h3⟩ := ints_of h2
  exact ⟨zs, rfl, by simpa using h1, h3⟩
theorem cells_run {k : IntKind} {S : Stab} {w : World} {cs : List Value} {o n : Nat} {l : List Int} (h : (cs.drop o).take n = l.map (Value.int k)) : RunR S w (.int k) l (fun i => cs.toArray[i]?) o := by
  intro i x hx
  show (cs.toArray[o + i * 1]?) = some (.int k x)
  have h1 := congrArg (fun l => l[i]?) h
  simp only [List.getElem?_take, List.getElem?_drop, List.getElem?_map] at h1
  rw [Nat.mul_one, List.getElem?_toArray]
  rw [show l[i]? = some x from hx] at h1
  split at h1
  · exact h1
  · cases h1
theorem at_one {cs : List Value} {o : Nat} {v : Value} (h : (cs.drop o).take 1 = [v]) : cs.toArray[o]? = some v := by
  have h1 := congrArg (fun l => l[0]?) h
  simp only [List.getElem?_take, List.getElem?_drop] at h1
  rw [List.getElem?_toArray]
  simpa using h1
theorem wf_u8 {z : Int} (h : (Lit.int .u8 z).wf = true) : 0 ≤ z ∧ z < 256 := by
  simp [Lit.wf, IntKind.min, IntKind.max, IntKind.signed, IntKind.bits] at h; omega
end
end Go.Ev
