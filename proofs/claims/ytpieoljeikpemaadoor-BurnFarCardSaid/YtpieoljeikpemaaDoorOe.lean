/- BurnFar: tables and normal forms. -/
import Derived.Test.YtpieoljeikpemaaDoorOd
set_option linter.unusedVariables false
set_option linter.unusedSimpArgs false
namespace Go.Ev.Burn
open Go Go.Ev
set_option maxRecDepth 1000000
set_option linter.unusedVariables false
noncomputable def F0 : Tab := { S15.addCall 50 c50 with nest := true }
theorem nl10_6s (again : Ag) (n a m i : Int) (ws : Ws) (z : Bool) (d out : List Int) (ty : TypeId) : lpStep F0 10 6 0 (lpc F0 10 6) again [vb false, ps 0, ps 1, vi n, vi a, vi m, osW 2 out.length, vi n, vi i] [some (rHo n 3 ws.length), some (rD d), some (rowI out ty), some (rWz ws 66 z)] = (bif decide (i < n) then bif sm ws then bif sm ws then bif Brn.placeErr n ws [a, i] != 0 then some (.ret, [vb false, .ps 0 0 0 0, .ps 1 0 0 0, vi n, vi a, vi m, osW 2 out.length, vi n, vi i], [some ⟨[vi n, osW 3 (List.length ws)], true, 24, false, true, none⟩, some ⟨[.run (.int .i64) d], true, 74, false, false, none⟩, some ⟨[.run (.int .i64) out], false, ty, false, false, none⟩, some ⟨[.run (.pair .i64) ws], false, 66, z, false, none⟩]) else bif Brn.placeErr n ws [i, a] != 0 then some (.ret, [vb false, .ps 0 0 0 0, .ps 1 0 0 0, vi n, vi a, vi m, osW 2 out.length, vi n, vi i], [some ⟨[vi n, osW 3 (List.length ws)], true, 24, false, true, none⟩, some ⟨[.run (.int .i64) d], true, 74, false, false, none⟩, some ⟨[.run (.int .i64) out], false, ty, false, false, none⟩, some ⟨[.run (.pair .i64) ws], false, 66, z, false, none⟩]) else bif decide (0 ≤ a) then bif decide (a < (↑9 : Int)) then bif decide (0 ≤ i) then bif decide (i < (↑9 : Int)) then oM d[i.toNat + a.toNat * 9]? fun x => bif Brn.farV n ws a i != x then some (.ret, [vb false, .ps 0 0 0 0, .ps 1 0 0 0, vi n, vi a, vi m, osW 2 out.length, vi n, vi i], [some ⟨[vi n, osW 3 (List.length ws)], true, 24, false, true, none⟩, some ⟨[.run (.int .i64) d], true, 74, false, false, none⟩, some ⟨[.run (.int .i64) out], false, ty, false, false, none⟩, some ⟨[.run (.pair .i64) ws], false, 66, z, false, none⟩]) else bif Brn.farV n ws i a != Brn.farV n ws a i then some (.ret, [vb false, .ps 0 0 0 0, .ps 1 0 0 0, vi n, vi a, vi m, osW 2 out.length, vi n, vi i], [some ⟨[vi n, osW 3 (List.length ws)], true, 24, false, true, none⟩, some ⟨[.run (.int .i64) d], true, 74, false, false, none⟩, some ⟨[.run (.int .i64) out], false, ty, false, false, none⟩, some ⟨[.run (.pair .i64) ws], false, 66, z, false, none⟩]) else bif decide (Brn.farV n ws a i ≤ m) then bif room (out.length + 1) 8 then again [vb false, .ps 0 0 0 0, .ps 1 0 0 0, vi n, vi a, vi m, osW 2 (out.length + 1), vi n, vi (IntKind.i64.wrap (i + 1))] [some ⟨[vi n, osW 3 (List.length ws)], true, 24, false, true, none⟩, some ⟨[.run (.int .i64) d], true, 74, false, false, none⟩, some ⟨[.run (.int .i64) (out ++ [i])], false, 3, false, false, none⟩, some ⟨[.run (.pair .i64) ws], false, 66, z, false, none⟩] else none else again [vb false, .ps 0 0 0 0, .ps 1 0 0 0, vi n, vi a, vi m, osW 2 out.length, vi n, vi (IntKind.i64.wrap (i + 1))] [some ⟨[vi n, osW 3 (List.length ws)], true, 24, false, true, none⟩, some ⟨[.run (.int .i64) d], true, 74, false, false, none⟩, some ⟨[.run (.int .i64) out], false, ty, false, false, none⟩, some ⟨[.run (.pair .i64) ws], false, 66, z, false, none⟩] else none else none else none else none else none else none else some (.ext 0, [vb false, .ps 0 0 0 0, .ps 1 0 0 0, vi n, vi a, vi m, osW 2 out.length, vi n, vi i], [some ⟨[vi n, osW 3 (List.length ws)], true, 24, false, true, none⟩, some ⟨[.run (.int .i64) d], true, 74, false, false, none⟩, some ⟨[.run (.int .i64) out], false, ty, false, false, none⟩, some ⟨[.run (.pair .i64) ws], false, 66, z, false, none⟩])) := by kernel_rfl
theorem nl10_6n (again : Ag) (n a m i : Int) (d out : List Int) (ty : TypeId) : lpStep F0 10 6 0 (lpc F0 10 6) again [vb false, ps 0, ps 1, vi n, vi a, vi m, osW 2 out.length, vi n, vi i] [some (rHz n), some (rD d), some (rowI out ty)] = (bif decide (i < n) then bif Brn.placeErr n [] [a, i] != 0 then some (.ret, [vb false, .ps 0 0 0 0, .ps 1 0 0 0, vi n, vi a, vi m, osW 2 out.length, vi n, vi i], [some ⟨[vi n, .sc (.slice none 0 0)], true, 24, false, false, none⟩, some ⟨[.run (.int .i64) d], true, 74, false, false, none⟩, some ⟨[.run (.int .i64) out], false, ty, false, false, none⟩]) else bif Brn.placeErr n [] [i, a] != 0 then some (.ret, [vb false, .ps 0 0 0 0, .ps 1 0 0 0, vi n, vi a, vi m, osW 2 out.length, vi n, vi i], [some ⟨[vi n, .sc (.slice none 0 0)], true, 24, false, false, none⟩, some ⟨[.run (.int .i64) d], true, 74, false, false, none⟩, some ⟨[.run (.int .i64) out], false, ty, false, false, none⟩]) else bif decide (0 ≤ a) then bif decide (a < (↑9 : Int)) then bif decide (0 ≤ i) then bif decide (i < (↑9 : Int)) then oM d[i.toNat + a.toNat * 9]? fun x => bif Brn.farV n [] a i != x then some (.ret, [vb false, .ps 0 0 0 0, .ps 1 0 0 0, vi n, vi a, vi m, osW 2 out.length, vi n, vi i], [some ⟨[vi n, .sc (.slice none 0 0)], true, 24, false, false, none⟩, some ⟨[.run (.int .i64) d], true, 74, false, false, none⟩, some ⟨[.run (.int .i64) out], false, ty, false, false, none⟩]) else bif Brn.farV n [] i a != Brn.farV n [] a i then some (.ret, [vb false, .ps 0 0 0 0, .ps 1 0 0 0, vi n, vi a, vi m, osW 2 out.length, vi n, vi i], [some ⟨[vi n, .sc (.slice none 0 0)], true, 24, false, false, none⟩, some ⟨[.run (.int .i64) d], true, 74, false, false, none⟩, some ⟨[.run (.int .i64) out], false, ty, false, false, none⟩]) else bif decide (Brn.farV n [] a i ≤ m) then bif room (out.length + 1) 8 then again [vb false, .ps 0 0 0 0, .ps 1 0 0 0, vi n, vi a, vi m, osW 2 (out.length + 1), vi n, vi (IntKind.i64.wrap (i + 1))] [some ⟨[vi n, .sc (.slice none 0 0)], true, 24, false, false, none⟩, some ⟨[.run (.int .i64) d], true, 74, false, false, none⟩, some ⟨[.run (.int .i64) (out ++ [i])], false, 3, false, false, none⟩] else none else again [vb false, .ps 0 0 0 0, .ps 1 0 0 0, vi n, vi a, vi m, osW 2 out.length, vi n, vi (IntKind.i64.wrap (i + 1))] [some ⟨[vi n, .sc (.slice none 0 0)], true, 24, false, false, none⟩, some ⟨[.run (.int .i64) d], true, 74, false, false, none⟩, some ⟨[.run (.int .i64) out], false, ty, false, false, none⟩] else none else none else none else none else some (.ext 0, [vb false, .ps 0 0 0 0, .ps 1 0 0 0, vi n, vi a, vi m, osW 2 out.length, vi n, vi i], [some ⟨[vi n, .sc (.slice none 0 0)], true, 24, false, false, none⟩, some ⟨[.run (.int .i64) d], true, 74, false, false, none⟩, some ⟨[.run (.int .i64) out], false, ty, false, false, none⟩])) := by kernel_rfl
def l10_6st (n a m n2 n3 : Int) (ws : Ws) (z : Bool) (d : List Int) (k : Nat) : Tree (Out × List AV × Hp) := .br (decide (n2 = n) && decide (n3 = n) && decide (k = ws.length) && sm ws && (Brn.chk n ws == 0) && decide (0 ≤ a) && decide (a < n) && decide (0 ≤ m) && decide (d = Brn.distN n ws)) (.leaf (.ext 0, [vb false, ps 0, ps 1, vi n, vi a, vi m, osW 2 (Brn.near n ws a m).length, vi n, vi n], [some (rHo n 3 k), some (rD d), some (rI (Brn.near n ws a m)), some (rWz ws 66 z)])) .fail
def l10_6s (base : Nat) (kv : List AV) (H : Hp) : Tree (Out × List AV × Hp) := match Nat.beq base 0, kv, H with
  | true, [(.sc (.bool false)), (.ps 0 0 0 0), (.ps 1 0 0 0), (.sc (.int .i64 n)), (.sc (.int .i64 a)), (.sc (.int .i64 m)), (.os 2 0 0 0 true false true), (.sc (.int .i64 n2)), (.sc (.int .i64 0))], [some ⟨[.sc (.int .i64 n3), .os 3 0 0 k true false true], true, 24, false, true, none⟩, some ⟨[.run (.int .i64) d], true, 74, false, false, none⟩, some ⟨[.run (.int .i64) []], false, 0, false, false, none⟩, some ⟨[.run (.pair .i64) ws], false, 66, z, false, none⟩] => l10_6st n a m n2 n3 ws z d k
  | _, _, _ => .fail
theorem l10_6s_ok {T : Tab} (hT : TabOK T) (hlo : loopOf T.fn 10 6 = some (lpc T 10 6)) (h : ∀ (n a m n2 n3 : Int) (ws : Ws) (z : Bool) (d : List Int) (k : Nat) (r : Out × List AV × Hp), (l10_6st n a m n2 n3 ws z d k).val = some r → ∃ mm, lpRun T 10 6 0 (lpc T 10 6) mm [vb false, ps 0, ps 1, vi n, vi a, vi m, osW 2 0, vi n2, vi 0] [some (rHo n3 3 k), some (rD d), some (rowI [] 0), some (rWz ws 66 z)] = some r) : ∀ base kv H o kv' H', (l10_6s base kv H).val = some (o, kv', H') → LoopOK T 10 6 base kv H o kv' H' := by
  intro base kv H o kv' H' hv
  unfold l10_6s at hv
  split at hv
  · rename_i hb
    obtain rfl := Nat.eq_of_beq_eq_true hb
    exact loop_ok hT hlo (h _ _ _ _ _ _ _ _ _ _ hv)
  · cases hv
def l10_6nt (n a m n2 n3 : Int) (d : List Int) : Tree (Out × List AV × Hp) := .br (decide (n2 = n) && decide (n3 = n) && (Brn.chk n [] == 0) && decide (0 ≤ a) && decide (a < n) && decide (0 ≤ m) && decide (d = Brn.distN n [])) (.leaf (.ext 0, [vb false, ps 0, ps 1, vi n, vi a, vi m, osW 2 (Brn.near n [] a m).length, vi n, vi n], [some (rHz n), some (rD d), some (rI (Brn.near n [] a m))])) .fail
def l10_6n (base : Nat) (kv : List AV) (H : Hp) : Tree (Out × List AV × Hp) := match Nat.beq base 0, kv, H with
  | true, [(.sc (.bool false)), (.ps 0 0 0 0), (.ps 1 0 0 0), (.sc (.int .i64 n)), (.sc (.int .i64 a)), (.sc (.int .i64 m)), (.os 2 0 0 0 true false true), (.sc (.int .i64 n2)), (.sc (.int .i64 0))], [some ⟨[.sc (.int .i64 n3), .sc (.slice none 0 0)], true, 24, false, false, none⟩, some ⟨[.run (.int .i64) d], true, 74, false, false, none⟩, some ⟨[.run (.int .i64) []], false, 0, false, false, none⟩] => l10_6nt n a m n2 n3 d
  | _, _, _ => .fail
theorem l10_6n_ok {T : Tab} (hT : TabOK T) (hlo : loopOf T.fn 10 6 = some (lpc T 10 6)) (h : ∀ (n a m n2 n3 : Int) (d : List Int) (r : Out × List AV × Hp), (l10_6nt n a m n2 n3 d).val = some r → ∃ mm, lpRun T 10 6 0 (lpc T 10 6) mm [vb false, ps 0, ps 1, vi n, vi a, vi m, osW 2 0, vi n2, vi 0] [some (rHz n3), some (rD d), some (rowI [] 0)] = some r) : ∀ base kv H o kv' H', (l10_6n base kv H).val = some (o, kv', H') → LoopOK T 10 6 base kv H o kv' H' := by
  intro base kv H o kv' H' hv
  unfold l10_6n at hv
  split at hv
  · rename_i hb
    obtain rfl := Nat.eq_of_beq_eq_true hb
    exact loop_ok hT hlo (h _ _ _ _ _ _ _ hv)
  · cases hv
def l10_6 (base : Nat) (kv : List AV) (H : Hp) : Tree (Out × List AV × Hp) := cond (Nat.beq H.length 4) (l10_6s base kv H) (l10_6n base kv H)
noncomputable def F1 (N : Int) (W : Ws) (D : List Int) : Tab := { ((S15.addCall 50 (c50v N W D)).addLoop 10 6 l10_6) with nest := true }
theorem nf10 (N : Int) (W : Ws) (D : List Int) (pl x one most : Int) (b m : List Int) : evBody (F1 N W D) 10 [.agg [.sc (.int .u8 pl), .run (.int .u8) b, .run (.int .u8) m, .sc (.int .u8 x)] false, vint .u8 one, vint .u8 most] [] = (bif decide (List.map (fun (x : AV) => match x with | .run e l => l.length * e.size | _ => 1) [.sc (.int .u8 pl), .run (.int .u8) b, .run (.int .u8) m, .sc (.int .u8 x)] = List.map (fun (x : AV) => match x with | .run e l => l.length * e.size | _ => 1) ((List.foldl (fun acc f => match acc, zeroC (Burn.F1 N W D).P 7 f.type with | some a, some c => some (a ++ c) | x, x_1 => none) (some []) [{ name := "Places", type := 5, offset := 0, embedded := false, tag := "", pkgPath := "", byteOffset := 0 : Go.Field }, { name := "Back", type := 68, offset := 1, embedded := false, tag := "", pkgPath := "", byteOffset := 1 : Go.Field }, { name := "More", type := 70, offset := 10, embedded := false, tag := "", pkgPath := "", byteOffset := 10 : Go.Field }, { name := "Extra", type := 5, offset := 18, embedded := false, tag := "", pkgPath := "", byteOffset := 18 : Go.Field }]).getD [])) then bif Brn.skG pl x 9 b m N W D then bif decide (N = 1) then bif decide (List.map (fun (x : AV) => match x with | .run e l => l.length * e.size | _ => 1) [.run (.int .i64) D] = List.map (fun (x : AV) => match x with | .run e l => l.length * e.size | _ => 1) ((some [.run (.int .i64) (List.replicate 81 0)]).getD [])) then bif !decide (N = 0) then bif decide (N = N) && decide (N = N) && Brn.chk N [] == 0 && decide (0 ≤ (IntKind.i64.wrap one).tmod N) && decide ((IntKind.i64.wrap one).tmod N < N) && decide (0 ≤ (IntKind.i64.wrap most).tmod 10) && decide (D = Brn.distN N []) then bif Brn.nearErr N [] ((IntKind.i64.wrap one).tmod N) ((IntKind.i64.wrap most).tmod 10) == 0 then bif Brn.nearErr N [] ((IntKind.i64.wrap one).tmod N) 4611686018427387904 == 0 then bif Brn.nearErr N [] ((IntKind.i64.wrap one).tmod N) (-1) == 1 then bif Brn.placeErr N [] [(IntKind.i64.wrap one).tmod N, N] == 2 then bif sm (Brn.nearV N [] ((IntKind.i64.wrap one).tmod N) ((IntKind.i64.wrap most).tmod 10)) then bif decide (Brn.nearV N [] ((IntKind.i64.wrap one).tmod N) ((IntKind.i64.wrap most).tmod 10) = Brn.near N [] ((IntKind.i64.wrap one).tmod N) ((IntKind.i64.wrap most).tmod 10)) then bif (↑(Brn.nearV N [] ((IntKind.i64.wrap one).tmod N) 4611686018427387904).length : Int) == N then some (vb true, []) else some (vb false, []) else some (vb false, []) else none else some (vb false, []) else some (vb false, []) else some (vb false, []) else some (vb false, []) else none else none else none else bif decide (List.map (fun (x : AV) => match x with | .run e l => l.length * e.size | _ => 1) [.run (.int .i64) D] = List.map (fun (x : AV) => match x with | .run e l => l.length * e.size | _ => 1) ((some [.run (.int .i64) (List.replicate 81 0)]).getD [])) then bif !decide (N = 0) then bif decide (N = N) && decide (N = N) && decide (List.length W = List.length W) && sm W && Brn.chk N W == 0 && decide (0 ≤ (IntKind.i64.wrap one).tmod N) && decide ((IntKind.i64.wrap one).tmod N < N) && decide (0 ≤ (IntKind.i64.wrap most).tmod 10) && decide (D = Brn.distN N W) then bif sm W then bif sm W then bif sm W then bif sm W then bif Brn.nearErr N W ((IntKind.i64.wrap one).tmod N) ((IntKind.i64.wrap most).tmod 10) == 0 then bif Brn.nearErr N W ((IntKind.i64.wrap one).tmod N) 4611686018427387904 == 0 then bif Brn.nearErr N W ((IntKind.i64.wrap one).tmod N) (-1) == 1 then bif Brn.placeErr N W [(IntKind.i64.wrap one).tmod N, N] == 2 then bif sm (Brn.nearV N W ((IntKind.i64.wrap one).tmod N) ((IntKind.i64.wrap most).tmod 10)) then bif decide (Brn.nearV N W ((IntKind.i64.wrap one).tmod N) ((IntKind.i64.wrap most).tmod 10) = Brn.near N W ((IntKind.i64.wrap one).tmod N) ((IntKind.i64.wrap most).tmod 10)) then bif (↑(Brn.nearV N W ((IntKind.i64.wrap one).tmod N) 4611686018427387904).length : Int) == N then some (vb true, []) else some (vb false, []) else some (vb false, []) else none else some (vb false, []) else some (vb false, []) else some (vb false, []) else some (vb false, []) else none else none else none else none else none else none else none else none else none) := by kernel_rfl
end Go.Ev.Burn
namespace Go.Ev.Burn
open Go Go.Ev
set_option maxRecDepth 1000000
set_option linter.unusedVariables false
set_option linter.unusedSimpArgs false
theorem F0_ok : TabOK F0 := by
  have h := S15_ok.addCall (g := 50) (r := c50) fun a H v H' hv => by refine CallOK.tab ?_ ?_ (c50_run a H v H' hv) <;> rfl
  exact nest_ok h
theorem get81' {l : List Int} (hl : l.length = 81) {a i : Int} (ha : 0 ≤ a ∧ a < 9) (hi : 0 ≤ i ∧ i < 9) : l[i.toNat + a.toNat * 9]? = some (Brn.at9 l a.toNat i.toNat) := get81 hl (by omega) (by omega)
theorem far_round {n : Int} {ws : Ws} (h : Brn.Ok n ws) (hc : Brn.chk n ws = 0) {a i : Int} (ha : 0 ≤ a ∧ a < n) (hi : 0 ≤ i ∧ i < n) :
    (Brn.placeErr n ws [a, i] != 0) = false ∧ (Brn.placeErr n ws [i, a] != 0) = false ∧ (Brn.distN n ws)[i.toNat + a.toNat * 9]? = some (Brn.farN n ws a i : Int) ∧
      Brn.farV n ws i a = (Brn.farN n ws a i : Int) ∧ ((Brn.farN n ws a i : Int) != (Brn.farN n ws a i : Int)) = false ∧ Brn.farV n ws a i = (Brn.farN n ws a i : Int) := by
  have hhi := h.hi
  obtain ⟨f1, f2, f3⟩ := Brn.far_sq h ha hi
  have hd : (Brn.distN n ws).length = 81 := by rw [Brn.distN_of h.lo]; exact Brn.dist9_len _
  refine ⟨by rw [Brn.place2 hc ha hi]; rfl, by rw [Brn.place2 hc hi ha]; rfl, ?_, ?_, ?_, Brn.far_val hc ha hi⟩
  · rw [get81' hd ⟨ha.1, by omega⟩ ⟨hi.1, by omega⟩, f1]
  · rw [Brn.far_val hc hi ha, f2]
  · simp
theorem l10_6s_run : ∀ base kv H o kv' H', (l10_6s base kv H).val = some (o, kv', H') → LoopOK F0 10 6 base kv H o kv' H' := l10_6s_ok F0_ok (by kernel_rfl) (by
  intro n a m n2 n3 ws z d k r hv
  obtain ⟨hl, hv2⟩ := guard_val hv
  simp only [Bool.and_eq_true, decide_eq_true_eq, beq_iff_eq] at hl
  obtain ⟨⟨⟨⟨⟨⟨⟨⟨rfl, rfl⟩, rfl⟩, a1⟩, a2⟩, a3⟩, a4⟩, a5⟩, rfl⟩ := hl
  have ok := Brn.ok_of a2
  have hhi := ok.hi
  have hlen := Brn.irange_len n3
  obtain ⟨mm, hm⟩ := fold_of (T := F0) (fid := 10) (lid := 6) (base := 0) (c := lpc F0 10 6) (Brn.irange n3) (fun i s => s.length ≤ i) (fun (s : List Int) i => bif decide ((Brn.farN n3 ws a i : Int) ≤ m) then s ++ [i] else s)
    (fun i s => [vb false, ps 0, ps 1, vi n3, vi a, vi m, osW 2 s.length, vi n3, vi i]) (fun s => [some (rHo n3 3 ws.length), some (rD (Brn.distN n3 ws)), some (rI s), some (rWz ws 66 z)])
    (fun s => (.ext 0, [vb false, ps 0, ps 1, vi n3, vi a, vi m, osW 2 s.length, vi n3, vi n3], [some (rHo n3 3 ws.length), some (rD (Brn.distN n3 ws)), some (rI s), some (rWz ws 66 z)]))
    (fun i x s hx hlt hI again => by
      have hxi := Brn.irange_get hx
      subst hxi
      have hin : (0 : Int) ≤ (i : Int) ∧ (i : Int) < n3 := ⟨by omega, by omega⟩
      obtain ⟨g1, g2, g3, g4, g5, g6⟩ := far_round ok a2 ⟨a3, a4⟩ hin
      have hr : room (s.length + 1) 8 = true := room_ok (by omega) (by omega)
      rw [nl10_6s]
      simp only [decide_eq_true hin.2, cond_true, a1, g1, g2, cond_false, decide_eq_true a3, decide_eq_true (show a < 9 by omega), dec_ge, decide_eq_true (show (i : Int) < 9 by omega), g3, oM, g4, g6, g5, cond_false]
      rw [wrap_succ (by omega)]
      cases decide ((Brn.farN n3 ws a i : Int) ≤ m)
      · rfl
      · simp only [cond_true, hr, rI, tyI_snoc, List.length_append, List.length_cons, List.length_nil, Nat.zero_add])
    (fun i x s hx hlt hI => by
      cases h : decide ((Brn.farN n3 ws a x : Int) ≤ m)
      · simpa [h] using Nat.le_succ_of_le hI
      · simpa [h] using hI)
    (fun s hI again => by
      rw [nl10_6s, hlen]
      have e1 : decide ((n3.toNat : Int) < n3) = false := decide_eq_false (by omega)
      simp only [e1, cond_false]
      rw [show ((n3.toNat : Nat) : Int) = n3 by have := ok.lo; omega]) [] (Nat.zero_le _)
  refine ⟨mm, hm.trans ?_⟩
  rw [leaf_val hv2, Brn.foldl_filter, ← ok.near_filter ⟨a3, a4⟩ a5])
theorem l10_6n_run : ∀ base kv H o kv' H', (l10_6n base kv H).val = some (o, kv', H') → LoopOK F0 10 6 base kv H o kv' H' := l10_6n_ok F0_ok (by kernel_rfl) (by
  intro n a m n2 n3 d r hv
  obtain ⟨hl, hv2⟩ := guard_val hv
  simp only [Bool.and_eq_true, decide_eq_true_eq, beq_iff_eq] at hl
  obtain ⟨⟨⟨⟨⟨⟨rfl, rfl⟩, a2⟩, a3⟩, a4⟩, a5⟩, rfl⟩ := hl
  have ok := Brn.ok_of a2
  have hhi := ok.hi
  have hlen := Brn.irange_len n3
  obtain ⟨mm, hm⟩ := fold_of (T := F0) (fid := 10) (lid := 6) (base := 0) (c := lpc F0 10 6) (Brn.irange n3) (fun i s => s.length ≤ i) (fun (s : List Int) i => bif decide ((Brn.farN n3 [] a i : Int) ≤ m) then s ++ [i] else s)
    (fun i s => [vb false, ps 0, ps 1, vi n3, vi a, vi m, osW 2 s.length, vi n3, vi i]) (fun s => [some (rHz n3), some (rD (Brn.distN n3 [])), some (rI s)])
    (fun s => (.ext 0, [vb false, ps 0, ps 1, vi n3, vi a, vi m, osW 2 s.length, vi n3, vi n3], [some (rHz n3), some (rD (Brn.distN n3 [])), some (rI s)]))
    (fun i x s hx hlt hI again => by
      have hxi := Brn.irange_get hx
      subst hxi
      have hin : (0 : Int) ≤ (i : Int) ∧ (i : Int) < n3 := ⟨by omega, by omega⟩
      obtain ⟨g1, g2, g3, g4, g5, g6⟩ := far_round ok a2 ⟨a3, a4⟩ hin
      have hr : room (s.length + 1) 8 = true := room_ok (by omega) (by omega)
      rw [nl10_6n]
      simp only [decide_eq_true hin.2, cond_true, g1, g2, cond_false, decide_eq_true a3, decide_eq_true (show a < 9 by omega), dec_ge, decide_eq_true (show (i : Int) < 9 by omega), g3, oM, g4, g6, g5, cond_false]
      rw [wrap_succ (by omega)]
      cases decide ((Brn.farN n3 [] a i : Int) ≤ m)
      · rfl
      · simp only [cond_true, hr, rI, tyI_snoc, List.length_append, List.length_cons, List.length_nil, Nat.zero_add])
    (fun i x s hx hlt hI => by
      cases h : decide ((Brn.farN n3 [] a x : Int) ≤ m)
      · simpa [h] using Nat.le_succ_of_le hI
      · simpa [h] using hI)
    (fun s hI again => by
      rw [nl10_6n, hlen]
      have e1 : decide ((n3.toNat : Int) < n3) = false := decide_eq_false (by omega)
      simp only [e1, cond_false]
      rw [show ((n3.toNat : Nat) : Int) = n3 by have := ok.lo; omega]) [] (Nat.zero_le _)
  refine ⟨mm, hm.trans ?_⟩
  rw [leaf_val hv2, Brn.foldl_filter, ← ok.near_filter ⟨a3, a4⟩ a5])
theorem l10_6_run : ∀ base kv H o kv' H', (l10_6 base kv H).val = some (o, kv', H') → LoopOK F0 10 6 base kv H o kv' H' := by
  intro base kv H o kv' H' hv
  unfold l10_6 at hv
  cases hb : Nat.beq H.length 4 with
  | true => rw [hb] at hv; exact l10_6s_run _ _ _ _ _ _ hv
  | false => rw [hb] at hv; exact l10_6n_run _ _ _ _ _ _ hv
theorem F1_ok (N : Int) (W : Ws) (D : List Int) : TabOK (F1 N W D) := by
  have h := S15_ok.addCall (g := 50) (r := c50v N W D) fun a H v H' hv => by refine CallOK.tab ?_ ?_ (c50v_run N W D a H v H' hv) <;> rfl
  have h := h.addLoop (g := 10) (lid := 6) (r := l10_6) fun b k H o k' H' hv => by refine LoopOK.tab ?_ ?_ ?_ ?_ (l10_6_run b k H o k' H' hv) <;> rfl
  exact nest_ok h
theorem far_body {N : Int} {W : Ws} {D : List Int} {pl x one most : Int} {b m : List Int} (hG : Brn.skG pl x 9 b m N W D = true) (ho : 0 ≤ one ∧ one < 256) (hq : 0 ≤ most ∧ most < 256) :
    evBody (F1 N W D) 10 [.agg [.sc (.int .u8 pl), .run (.int .u8) b, .run (.int .u8) m, .sc (.int .u8 x)] false, vint .u8 one, vint .u8 most] [] = some (vb true, []) := by
  have M := made_of hG
  have ok := M.ok
  have hlo := ok.lo
  have hhi := ok.hi
  have e1 : IntKind.i64.wrap one = one := wrapi (by omega) (by omega)
  have e2 : IntKind.i64.wrap most = most := wrapi (by omega) (by omega)
  have ha := Brn.tmod_in ho.1 (show 0 < N by omega)
  have hm0 := Brn.tmod_in hq.1 (show (0 : Int) < 10 by omega)
  rw [nf10, cond_t (decide_eq_true (by show [1, b.length * 1, m.length * 1, 1] = _; rw [M.hb, M.hm]; kernel_rfl)), cond_t hG]
  simp only [e1, e2]
  generalize one.tmod N = a at ha
  generalize most.tmod 10 = q at hm0
  have hD : (decide ([D.length * 1] = ([81] : List Nat))) = true := decide_eq_true (by rw [M.len])
  have core : ∀ ws, W = ws → (Brn.nearErr N ws a q == 0) = true ∧ (Brn.nearErr N ws a 4611686018427387904 == 0) = true ∧ (Brn.nearErr N ws a (-1) == 1) = true ∧ (Brn.placeErr N ws [a, N] == 2) = true ∧
      sm (Brn.nearV N ws a q) = true ∧ decide (Brn.nearV N ws a q = Brn.near N ws a q) = true ∧ (((Brn.nearV N ws a 4611686018427387904).length : Int) == N) = true ∧ (Brn.chk N ws == 0) = true ∧ decide (D = Brn.distN N ws) = true := by
    intro ws hw
    subst hw
    have hk := M.chk
    refine ⟨by rw [Brn.near_err hk ha hm0.1]; rfl, by rw [Brn.near_err hk ha (by omega)]; rfl, by rw [(Brn.near_neg hk ha).1]; rfl, by rw [Brn.place2n hk]; rfl, ?_, ?_, ?_, by rw [hk]; rfl, decide_eq_true M.dist⟩
    · rw [Brn.near_val hk ha hm0.1, ok.near_filter ha hm0.1]
      exact sm_of (k := 9) (Nat.le_trans (List.length_filter_le _ _) (by rw [Brn.irange_len]; omega)) (by omega)
    · rw [Brn.near_val hk ha hm0.1]; exact decide_eq_true rfl
    · rw [Brn.near_val hk ha (by omega), ok.near_all ha (by omega), Brn.irange_len]
      rw [beq_iff_eq]; omega
  cases hN : decide (N = 1) with
  | true =>
    have hW := M.one (of_decide_eq_true hN)
    obtain ⟨f1, f2, f3, f4, f5, f6, f7, f8, f9⟩ := core [] hW
    simp only [cond_true]
    rw [cond_t (by exact hD)]
    simp only [decide_eq_false (show ¬ N = 0 by omega), Bool.not_false, cond_true, decide_true, f8, decide_eq_true ha.1, decide_eq_true ha.2, decide_eq_true hm0.1, f9, Bool.and_self, f1, f2, f3, f4, f5, f6, f7]
  | false =>
    obtain ⟨f1, f2, f3, f4, f5, f6, f7, f8, f9⟩ := core W rfl
    simp only [cond_false]
    rw [cond_t (by exact hD)]
    simp only [decide_eq_false (show ¬ N = 0 by omega), Bool.not_false, cond_true, decide_true, M.sw, f8, decide_eq_true ha.1, decide_eq_true ha.2, decide_eq_true hm0.1, f9, Bool.and_self, f1, f2, f3, f4, f5, f6, f7]
noncomputable def FT (s : Brn.Sk) : Tab := F1 (Brn.skN s 9) (Brn.skW s 9) (Brn.distN (Brn.skN s 9) (Brn.skW s 9))
theorem FT_ok (s : Brn.Sk) : TabOK (FT s) := F1_ok _ _ _
theorem far_law (s : Brn.Sk) (r : s.Fit) (one : Int) (ho : 0 ≤ one ∧ one < 256) (most : Int) (hq : 0 ≤ most ∧ most < 256) : evBody (FT s) 10 [aS s, vint .u8 one, vint .u8 most] [] = some (vb true, []) :=
  far_body (skG_of r (by omega) (by omega)) ho hq
end Go.Ev.Burn
