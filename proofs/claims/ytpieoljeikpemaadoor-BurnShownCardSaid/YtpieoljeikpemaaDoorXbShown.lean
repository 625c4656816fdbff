/- The library's sort of integers, as an entry of a table: out of the kit's contract. -/
import Derived.Test.YtpieoljeikpemaaDoorEvE
import Derived.Sort.Grow
import Derived.Test.YtpieoljeikpemaaDoorXaShown
import Derived.Test.YtpieoljeikpemaaDoorOd
import Derived.Test.YtpieoljeikpemaaDoorChecked
import Derived.Shelf.Sort.Plain
import Derived.Test.YtpieoljeikpemaaDoorSh
import Derived.Test.YtpieoljeikpemaaDoorSg
set_option linter.unusedVariables false
set_option linter.unusedSimpArgs false
namespace Go.Ev
open Go Go.RowKit Go.Sort
set_option linter.unusedVariables false
set_option linter.unusedSimpArgs false
def srt (l : List Int) : List Int := l.mergeSort fun x y => decide (x ≤ y)
theorem srt_len (l : List Int) : (srt l).length = l.length := List.length_mergeSort _
theorem srt_perm (l : List Int) : (srt l).Perm l := List.mergeSort_perm _ _
theorem St.growW {T : Tab} {S : Stab} {w : World} {L : Loc} {h : Hs} {ids : List Nat} (hst : St T S w L h ids) (os : Array Obj) : St T S (grow w os) L h ids ∧ Ext w S L (grow w os) S L := by
  have hstay : Stays S w (grow w os) := fun b q hb => cell?_grow w os _ (hst.inv.stab b q hb)
  refine ⟨⟨⟨fun r row hr => ?_, hst.inv.disj, fun b q hb => ?_⟩, hst.nd, hst.fresh, hst.dom, hst.glob.mono (fun _ _ h => h) hstay⟩, ?_⟩
  · rcases hst.inv.rows r row hr with h1 | ⟨p, h1, h2⟩
    · exact .inl h1
    · exact .inr ⟨p, h1, h2.world (fun _ _ h => h) hstay (Loc.le_refl _) (heap_grow_old w os h2.lt) h2.st⟩
  · have := hst.inv.stab b q hb
    rw [size_grow]; omega
  · exact ⟨fun _ _ h => h, hstay, Loc.le_refl _, fun _ _ h => .inl h, fun b hb _ => heap_grow_old w os hb, by rw [size_grow]; omega, rfl, rfl, rfl, fun r p h => .inl ⟨r, p, h, rfl⟩, fun a ha => frozen?_grow w os a ha,
      fun b arr bt hb => ⟨arr, by rw [heap_grow_old w os (lt_of_heap hb)]; exact hb, rfl⟩⟩
theorem putRow_wr {w : World} {n b : Nat} {arr : Array Value} {bt : TypeId} {d : Array Int} (hb : w.heap[b]? = some (.cells arr bt (0, 0))) : Wr w (putRow (Value.int .i64) (Go.Sort.ahead w n) b 0 d) b arr (putCells (Value.int .i64) 0 d arr) bt := by
  refine ⟨hb, ?_, by simp [putCells], fun x hx => ?_, by simp [putRow, mapBlock, Go.Sort.ahead], rfl, rfl, rfl⟩
  · show ((w.heap.modify b (onCells (putCells (Value.int .i64) 0 d))))[b]? = _
    rw [Array.getElem?_modify, if_pos rfl, hb]
    rfl
  · show ((w.heap.modify b (onCells (putCells (Value.int .i64) 0 d))))[x]? = _
    rw [Array.getElem?_modify, if_neg (fun e => hx e.symm)]
theorem sort_ok {T : Tab} {f : FuncId} (hf : FnIn T.P f)
    (hS : ∀ (blk off cap : Nat) (zs : List Int) (w : World), Holds (Value.int .i64) w blk off zs.toArray → blk < w.heap.size → zs.length < 4611686018427387904 →
      Calls T.P f #[.slice (some ⟨blk, off, none⟩) zs.length cap] w fun e w' => e = .returned (.tuple #[]) ∧ ∃ n os, w' = grow (putRow (Value.int .i64) (Go.Sort.ahead w n) blk off (zs.mergeSort fun x y => decide (x ≤ y)).toArray) os)
    {l : List Int} {ty : TypeId} {tight full : Bool} (hne : l ≠ []) (hl : l.length ≤ 100000) :
    CallOK T f [.os 0 0 0 l.length true tight full] [some (rowI l ty)] (.tuple []) [some (rowI (srt l) ty)] := by
  refine ⟨hf, by simp, fun S w L us hst hr => ?_⟩
  obtain ⟨u, rest, rfl, hu, hrest⟩ := hr
  simp only [RelL] at hrest
  subst hrest
  simp only [Rel] at hu
  have hrow : look [some (rowI l ty)] 0 = some (rowI l ty) := rfl
  unfold OsR at hu
  split at hu
  · exact hu.elim
  · exact absurd hu.1 (fun e => hne (List.length_eq_zero_iff.1 e))
  · rename_i p hl0
    obtain ⟨a, cap, rfl, h1, h2, h3, h4, h5, h6, h7⟩ := hu
    have hok := hst.row hrow hl0
    obtain ⟨arr, bt, hb, has, hc⟩ := hok.blk
    obtain ⟨_, _, e0, e1, _⟩ := h6 rfl
    have hz : p.z = 1 := by rw [← hok.zz 0 (by simp)]; rfl
    have hpos : 0 < l.length := List.length_pos_iff.2 hne
    have ha := h1 (by omega)
    rw [e0, hz] at ha
    simp only [Nat.zero_mul, Nat.add_zero] at ha
    subst ha
    simp only [Cont] at hc
    have hrun := hc.1 (.int .i64) l rfl
    have hcell : ∀ j (hj : j < l.length), arr[j]? = some (.int .i64 l[j]) := fun j hj => by
      have := hrun j l[j] (List.getElem?_eq_getElem hj)
      simpa [ElR, ElR0, ET.size] using this
    have hH : Holds (Value.int .i64) w p.b 0 l.toArray := fun j hj => by
      have hj : j < l.length := by simpa using hj
      refine ⟨?_, ?_⟩
      · rw [Nat.zero_add, cell_of_row w p.b _ arr bt _ hb, hcell j hj, getElem!_pos l.toArray j (by simpa using hj)]
        simp
      · exact frozen_of_row w p.b _ arr bt hb
    refine (hS p.b 0 cap l w hH (lt_of_heap hb) (by omega)).mono ?_
    rintro e w' ⟨rfl, n, os, rfl⟩
    have hwr := putRow_wr (n := n) (d := (srt l).toArray) hb
    have hlen := srt_len l
    have hc' : Cont T.P S w (rowI (srt l) ty).c (lOf (rowI (srt l) ty).loose L) (fun q => (putCells (Value.int .i64) 0 (srt l).toArray arr)[q]?) 0 := by
      simp only [Cont]
      refine ⟨fun e' l' he => ?_, fun hs => by simp [single] at hs, trivial⟩
      injection he with he1 he2
      subst he1
      have he2 := eq_of_heq he2
      subst he2
      intro i x hx
      have hi : i < (srt l).length := by
        rcases Nat.lt_or_ge i (srt l).length with c | c
        · exact c
        · rw [List.getElem?_eq_none c] at hx; cases hx
      have hia : i < arr.size := by
        have := hcell i (by omega)
        rcases Nat.lt_or_ge i arr.size with c | c
        · exact c
        · rw [Array.getElem?_eq_none c] at this; cases this
      simp only [ElR, ElR0, ET.size, Nat.mul_one, Nat.zero_add, putCells, Array.getElem?_mapIdx]
      rw [Array.getElem?_eq_getElem hia, Option.map_some, if_pos ⟨Nat.zero_le _, by simpa using hi⟩]
      rw [Nat.sub_zero, getElem!_pos (srt l).toArray i (by simpa using hi)]
      rw [List.getElem?_eq_getElem hi] at hx
      simp only [List.getElem_toArray]
      exact congrArg (fun z => some (Value.int .i64 z)) (Option.some.inj hx)
    have hsole : Sole L (look [some (rowI l ty)]) 0 p := fun y rowy py hy hly hpb => by
      by_cases e : y = 0
      · exact e
      · have : look [some (rowI l ty)] y = none := by
          cases y with
          | zero => exact absurd rfl e
          | succ y => rfl
        rw [this] at hy; cases hy
    obtain ⟨k1, k2⟩ := hst.writeRow hrow hl0 hsole rfl hwr hc' (by simp only [List.map_cons, List.map_nil, segSize]; rw [hlen]) (fun k => by
      cases k with
      | zero => rfl
      | succ k => rfl) rfl rfl rfl
    obtain ⟨g1, g2⟩ := k1.growW os
    refine ⟨_, S, L, rfl, ?_, ?_, k2.trans g2⟩
    · simp only [Rel]
      exact ⟨#[], rfl, by simp only [RelL]⟩
    · have : upd (look [some (rowI l ty)]) 0 (some (rowI (srt l) ty)) = look [some (rowI (srt l) ty)] := by
        funext r
        cases r with
        | zero => rfl
        | succ r => rfl
      rw [← this]
      exact g1
end Go.Ev
namespace Go.Ev.Burn
open Go Go.Ev
set_option maxRecDepth 1000000
set_option maxHeartbeats 0
set_option linter.unusedVariables false
abbrev rYs (l : List Int) : Row := ⟨[.run (.int .u8) l], true, 68, false, false, none⟩
abbrev osYs (k : Nat) : AV := .os 3 0 0 k false false false
def c64 (args : List AV) (H : Hp) : Tree (AV × Hp) := match args, H with
  | [.os 0 0 0 k true tight full], [some ⟨[.run (.int .i64) l], false, ty, false, false, none⟩] => .br (decide (k = l.length) && sm l && !l.isEmpty) (.leaf (.tuple [], [some (rowI (srt l) ty)])) .fail
  | _, _ => .fail
noncomputable def H0 : Tab := { C4.addCall 64 c64 with nest := true, flat := true, refm := fun f => match f with | 64 => [0] | f => C4.refm f }
theorem nl14_5 (again : Ag) (mn n a i : Int) (k : Nat) (d fs y : List Int) (ws : Ws) (ty : TypeId) : lpStep H0 14 5 0 (lpc H0 14 5) again [vint .u8 mn, ps 0, ps 1, vi a, osW 2 fs.length, osYs k, vi k, vi i] [some (rHo n 4 ws.length), some (rD d), some (rowI fs ty), some (rYs y), some (rW ws 66)] = (bif decide (i < (↑k : Int)) then bif decide (0 ≤ i) then bif decide (i < (↑k : Int)) then oM y[i.toNat]? fun x => bif !decide (IntKind.i64.wrap (n + 1) = 0) then bif room (fs.length + 1) 8 then again [.sc (.int .u8 mn), .ps 0 0 0 0, .ps 1 0 0 0, vi a, osW 2 (fs.length + 1), .os 3 0 0 k false false false, vi (↑k : Int), vi (IntKind.i64.wrap (i + 1))] [some ⟨[vi n, osW 4 (List.length ws)], true, 24, false, true, none⟩, some ⟨[.run (.int .i64) d], true, 74, false, false, none⟩, some ⟨[.run (.int .i64) (fs ++ [(IntKind.i64.wrap x).tmod (IntKind.i64.wrap (n + 1))])], false, 3, false, false, none⟩, some ⟨[.run (.int .u8) y], true, 68, false, false, none⟩, some ⟨[.run (.pair .i64) ws], false, 66, false, false, none⟩] else none else none else none else none else some (.ext 0, [.sc (.int .u8 mn), .ps 0 0 0 0, .ps 1 0 0 0, vi a, osW 2 fs.length, .os 3 0 0 k false false false, vi (↑k : Int), vi i], [some ⟨[vi n, osW 4 (List.length ws)], true, 24, false, true, none⟩, some ⟨[.run (.int .i64) d], true, 74, false, false, none⟩, some ⟨[.run (.int .i64) fs], false, ty, false, false, none⟩, some ⟨[.run (.int .u8) y], true, 68, false, false, none⟩, some ⟨[.run (.pair .i64) ws], false, 66, false, false, none⟩])) := by kernel_rfl
def _root_.Brn.shL (n : Int) (y : List Int) (k : Nat) : List Int := (y.take k).map fun x => x.tmod (n + 1)
def l14_5t (mn n a m : Int) (k q : Nat) (d y : List Int) (ws : Ws) : Tree (Out × List AV × Hp) := .br (decide (m = (k : Int)) && decide (q = ws.length) && decide (k ≤ 9) && decide (y.length = 9) && Brn.u8s y && decide (1 ≤ n) && decide (n ≤ 9)) (.leaf (.ext 0, [vint .u8 mn, ps 0, ps 1, vi a, osW 2 (Brn.shL n y k).length, osYs k, vi k, vi k], [some (rHo n 4 q), some (rD d), some (rI (Brn.shL n y k)), some (rYs y), some (rW ws 66)])) .fail
def l14_5 (base : Nat) (kv : List AV) (H : Hp) : Tree (Out × List AV × Hp) := match Nat.beq base 0, kv, H with
  | true, [(.sc (.int .u8 mn)), (.ps 0 0 0 0), (.ps 1 0 0 0), (.sc (.int .i64 a)), (.os 2 0 0 0 true false true), (.os 3 0 0 k false false false), (.sc (.int .i64 m)), (.sc (.int .i64 0))], [some ⟨[.sc (.int .i64 n), .os 4 0 0 q true false true], true, 24, false, true, none⟩, some ⟨[.run (.int .i64) d], true, 74, false, false, none⟩, some ⟨[.run (.int .i64) []], false, 0, false, false, none⟩, some ⟨[.run (.int .u8) y], true, 68, false, false, none⟩, some ⟨[.run (.pair .i64) ws], false, 66, false, false, none⟩] => l14_5t mn n a m k q d y ws
  | _, _, _ => .fail
theorem l14_5_ok {T : Tab} (hT : TabOK T) (hlo : loopOf T.fn 14 5 = some (lpc T 14 5)) (h : ∀ (mn n a m : Int) (k q : Nat) (d y : List Int) (ws : Ws) (r : Out × List AV × Hp), (l14_5t mn n a m k q d y ws).val = some r → ∃ mm, lpRun T 14 5 0 (lpc T 14 5) mm [vint .u8 mn, ps 0, ps 1, vi a, osW 2 0, osYs k, vi m, vi 0] [some (rHo n 4 q), some (rD d), some (rowI [] 0), some (rYs y), some (rW ws 66)] = some r) : ∀ base kv H o kv' H', (l14_5 base kv H).val = some (o, kv', H') → LoopOK T 14 5 base kv H o kv' H' := by
  intro base kv H o kv' H' hv
  unfold l14_5 at hv
  split at hv
  · rename_i hb
    obtain rfl := Nat.eq_of_beq_eq_true hb
    exact loop_ok hT hlo (h _ _ _ _ _ _ _ _ _ _ hv)
  · cases hv
theorem nl14_13 (again : Ag) (n a m i : Int) (k4 : Nat) (d l : List Int) (ws : Ws) (ty : TypeId) : lpStep H0 14 13 0 (lpc H0 14 13) again [ps 0, ps 1, vi a, osW 2 l.length, vi 0, osW 2 l.length, vi m, vi i] [some (rHo n 3 k4), some (rD d), some (rowI l ty), some (rW ws 66)] = (bif decide (i < m) then bif decide (0 ≤ i) then bif decide (i < (↑l.length : Int)) then oM l[i.toNat]? fun x => bif decide (x ≥ n) then some (.ext 2, [.ps 0 0 0 0, .ps 1 0 0 0, vi a, osW 2 l.length, vi 2, osW 2 l.length, vi m, vi i], [some ⟨[vi n, osW 3 k4], true, 24, false, true, none⟩, some ⟨[.run (.int .i64) d], true, 74, false, false, none⟩, some ⟨[.run (.int .i64) l], false, ty, false, false, none⟩, some ⟨[.run (.pair .i64) ws], false, 66, false, false, none⟩]) else bif decide (i > 0) then bif decide (0 ≤ IntKind.i64.wrap (i - 1)) then bif decide (IntKind.i64.wrap (i - 1) < (↑l.length : Int)) then oM l[(IntKind.i64.wrap (i - 1)).toNat]? fun x_1 => bif decide (x ≤ x_1) then some (.ext 2, [.ps 0 0 0 0, .ps 1 0 0 0, vi a, osW 2 l.length, vi 7, osW 2 l.length, vi m, vi i], [some ⟨[vi n, osW 3 k4], true, 24, false, true, none⟩, some ⟨[.run (.int .i64) d], true, 74, false, false, none⟩, some ⟨[.run (.int .i64) l], false, ty, false, false, none⟩, some ⟨[.run (.pair .i64) ws], false, 66, false, false, none⟩]) else again [.ps 0 0 0 0, .ps 1 0 0 0, vi a, osW 2 l.length, vi 0, osW 2 l.length, vi m, vi (IntKind.i64.wrap (i + 1))] [some ⟨[vi n, osW 3 k4], true, 24, false, true, none⟩, some ⟨[.run (.int .i64) d], true, 74, false, false, none⟩, some ⟨[.run (.int .i64) l], false, ty, false, false, none⟩, some ⟨[.run (.pair .i64) ws], false, 66, false, false, none⟩] else none else none else again [.ps 0 0 0 0, .ps 1 0 0 0, vi a, osW 2 l.length, vi 0, osW 2 l.length, vi m, vi (IntKind.i64.wrap (i + 1))] [some ⟨[vi n, osW 3 k4], true, 24, false, true, none⟩, some ⟨[.run (.int .i64) d], true, 74, false, false, none⟩, some ⟨[.run (.int .i64) l], false, ty, false, false, none⟩, some ⟨[.run (.pair .i64) ws], false, 66, false, false, none⟩] else none else none else some (.ext 2, [.ps 0 0 0 0, .ps 1 0 0 0, vi a, osW 2 l.length, vi 0, osW 2 l.length, vi m, vi i], [some ⟨[vi n, osW 3 k4], true, 24, false, true, none⟩, some ⟨[.run (.int .i64) d], true, 74, false, false, none⟩, some ⟨[.run (.int .i64) l], false, ty, false, false, none⟩, some ⟨[.run (.pair .i64) ws], false, 66, false, false, none⟩])) := by kernel_rfl
theorem nl14_26 (again : Ag) (n a p e k i m j : Int) (c k4 : Nat) (d l : List Int) (ws : Ws) (ty : TypeId) : lpStep H0 14 26 0 (lpc H0 14 26) again [ps 0, ps 1, vi a, osW 2 l.length, vi e, vi p, osW 2 l.length, vi k, vi i, .os 2 0 0 c false false true, vi m, vi j] [some (rHo n 3 k4), some (rD d), some (rowI l ty), some (rW ws 66)] = (bif decide (j < m) then bif decide (0 ≤ j) then bif decide (j < (↑c : Int)) then oM l[j.toNat]? fun x => bif e == 0 then bif decide (0 ≤ p) then bif decide (p < (↑9 : Int)) then bif decide (0 ≤ x) then bif decide (x < (↑9 : Int)) then oM d[Int.toNat x + p.toNat * 9]? fun x => bif decide (x < IntKind.i64.wrap (IntKind.i64.wrap (2 * a) - 1)) then again [.ps 0 0 0 0, .ps 1 0 0 0, vi a, osW 2 l.length, vi 14, vi p, osW 2 l.length, vi k, vi i, .os 2 0 0 c false false true, vi m, vi (IntKind.i64.wrap (j + 1))] [some ⟨[vi n, osW 3 k4], true, 24, false, true, none⟩, some ⟨[.run (.int .i64) d], true, 74, false, false, none⟩, some ⟨[.run (.int .i64) l], false, ty, false, false, none⟩, some ⟨[.run (.pair .i64) ws], false, 66, false, false, none⟩] else again [.ps 0 0 0 0, .ps 1 0 0 0, vi a, osW 2 l.length, vi e, vi p, osW 2 l.length, vi k, vi i, .os 2 0 0 c false false true, vi m, vi (IntKind.i64.wrap (j + 1))] [some ⟨[vi n, osW 3 k4], true, 24, false, true, none⟩, some ⟨[.run (.int .i64) d], true, 74, false, false, none⟩, some ⟨[.run (.int .i64) l], false, ty, false, false, none⟩, some ⟨[.run (.pair .i64) ws], false, 66, false, false, none⟩] else none else none else none else none else again [.ps 0 0 0 0, .ps 1 0 0 0, vi a, osW 2 l.length, vi e, vi p, osW 2 l.length, vi k, vi i, .os 2 0 0 c false false true, vi m, vi (IntKind.i64.wrap (j + 1))] [some ⟨[vi n, osW 3 k4], true, 24, false, true, none⟩, some ⟨[.run (.int .i64) d], true, 74, false, false, none⟩, some ⟨[.run (.int .i64) l], false, ty, false, false, none⟩, some ⟨[.run (.pair .i64) ws], false, 66, false, false, none⟩] else none else none else some (.ext 6, [.ps 0 0 0 0, .ps 1 0 0 0, vi a, osW 2 l.length, vi e, vi p, osW 2 l.length, vi k, vi i, .os 2 0 0 c false false true, vi m, vi j], [some ⟨[vi n, osW 3 k4], true, 24, false, true, none⟩, some ⟨[.run (.int .i64) d], true, 74, false, false, none⟩, some ⟨[.run (.int .i64) l], false, ty, false, false, none⟩, some ⟨[.run (.pair .i64) ws], false, 66, false, false, none⟩])) := by kernel_rfl
end Go.Ev.Burn
namespace Go.Ev.Burn
open Go Go.Ev
set_option maxRecDepth 1000000
set_option maxHeartbeats 0
set_option linter.unusedVariables false
def l14_5v (F : List Int) (base : Nat) (kv : List AV) (H : Hp) : Tree (Out × List AV × Hp) := match Nat.beq base 0, kv, H with
  | true, [.sc (.int .u8 mn), .ps 0 0 0 0, .ps 1 0 0 0, .sc (.int .i64 a), .os 2 0 0 0 true false true, .os 3 0 0 k false false false, .sc (.int .i64 m), .sc (.int .i64 0)], [some ⟨[.sc (.int .i64 n), .os 4 0 0 q true false true], true, 24, false, true, none⟩, some ⟨[.run (.int .i64) d], true, 74, false, false, none⟩, some ⟨[.run (.int .i64) []], false, 0, false, false, none⟩, some ⟨[.run (.int .u8) y], true, 68, false, false, none⟩, some ⟨[.run (.pair .i64) ws], false, 66, false, false, none⟩] =>
    .br (decide (F = Brn.shL n y k)) (.br (decide (m = (k : Int)) && decide (q = ws.length) && decide (k ≤ 9) && decide (y.length = 9) && Brn.u8s y && decide (1 ≤ n) && decide (n ≤ 9)) (.leaf (.ext 0, [vint .u8 mn, ps 0, ps 1, vi a, osW 2 F.length, osYs k, vi k, vi k], [some (rHo n 4 q), some (rD d), some (rI F), some (rYs y), some (rW ws 66)])) .fail) .fail
  | _, _, _ => .fail
def _root_.Brn.shX (n : Int) (l : List Int) : Sum (Int × Nat) Unit := Ev.foldX (fun i (_ : Unit) p => bif Brn.err1 n l i p == 0 then .inr () else .inl (Brn.err1 n l i p, i)) 0 l ()
def _root_.Brn.shE (n : Int) (l : List Int) : Int := match Brn.shX n l with
  | .inl x => x.1
  | .inr _ => 0
def _root_.Brn.shI (n : Int) (l : List Int) : Int := match Brn.shX n l with
  | .inl x => x.2
  | .inr _ => l.length
def l14_13t (n a m : Int) (k1 k2 k4 : Nat) (d l : List Int) (ws : Ws) (ty : TypeId) : Tree (Out × List AV × Hp) := .br (decide (m = (l.length : Int)) && decide (k1 = l.length) && decide (k2 = l.length) && sm l && decide (1 ≤ n) && decide (n ≤ 9) && l.all (fun x => decide (0 ≤ x))) (.leaf (.ext 2, [ps 0, ps 1, vi a, osW 2 k1, vi (Brn.shE n l), osW 2 k2, vi m, vi (Brn.shI n l)], [some (rHo n 3 k4), some (rD d), some (rowI l ty), some (rW ws 66)])) .fail
def l14_13 (base : Nat) (kv : List AV) (H : Hp) : Tree (Out × List AV × Hp) := match Nat.beq base 0, kv, H with
  | true, [(.ps 0 0 0 0), (.ps 1 0 0 0), (.sc (.int .i64 a)), (.os 2 0 0 k1 true false true), (.sc (.int .i64 0)), (.os 2 0 0 k2 true false true), (.sc (.int .i64 m)), (.sc (.int .i64 0))], [some ⟨[.sc (.int .i64 n), .os 3 0 0 k4 true false true], true, 24, false, true, none⟩, some ⟨[.run (.int .i64) d], true, 74, false, false, none⟩, some ⟨[.run (.int .i64) l], false, ty, false, false, none⟩, some ⟨[.run (.pair .i64) ws], false, 66, false, false, none⟩] => l14_13t n a m k1 k2 k4 d l ws ty
  | _, _, _ => .fail
theorem l14_13_ok {T : Tab} (hT : TabOK T) (hlo : loopOf T.fn 14 13 = some (lpc T 14 13)) (h : ∀ (n a m : Int) (k1 k2 k4 : Nat) (d l : List Int) (ws : Ws) (ty : TypeId) (r : Out × List AV × Hp), (l14_13t n a m k1 k2 k4 d l ws ty).val = some r → ∃ mm, lpRun T 14 13 0 (lpc T 14 13) mm [ps 0, ps 1, vi a, osW 2 k1, vi 0, osW 2 k2, vi m, vi 0] [some (rHo n 3 k4), some (rD d), some (rowI l ty), some (rW ws 66)] = some r) : ∀ base kv H o kv' H', (l14_13 base kv H).val = some (o, kv', H') → LoopOK T 14 13 base kv H o kv' H' := by
  intro base kv H o kv' H' hv
  unfold l14_13 at hv
  split at hv
  · rename_i hb
    obtain rfl := Nat.eq_of_beq_eq_true hb
    exact loop_ok hT hlo (h _ _ _ _ _ _ _ _ _ _ _ hv)
  · cases hv
def _root_.Brn.nearS (D : List Int) (p a q : Int) : Bool := decide (Brn.at9 D p.toNat q.toNat < 2 * a - 1)
def _root_.Brn.shN (D : List Int) (a p e : Int) (t : List Int) : Int := bif e == 0 then (bif t.any (Brn.nearS D p a) then 14 else 0) else e
def l14_26t (n a p e k i m : Int) (k1 k2 c k4 : Nat) (d l : List Int) (ws : Ws) (ty : TypeId) : Tree (Out × List AV × Hp) := .br (decide (m = (c : Int)) && decide (k1 = l.length) && decide (k2 = l.length) && decide (c ≤ l.length) && sm l && decide (d.length = 81) && decide (1 ≤ a) && decide (a ≤ 9) && (!(e == 0) || (decide (0 ≤ p) && decide (p < 9) && Brn.in9 (l.take c)))) (.leaf (.ext 6, [ps 0, ps 1, vi a, osW 2 k1, vi (Brn.shN d a p e (l.take c)), vi p, osW 2 k2, vi k, vi i, .os 2 0 0 c false false true, vi m, vi m], [some (rHo n 3 k4), some (rD d), some (rowI l ty), some (rW ws 66)])) .fail
def l14_26 (base : Nat) (kv : List AV) (H : Hp) : Tree (Out × List AV × Hp) := match Nat.beq base 0, kv, H with
  | true, [(.ps 0 0 0 0), (.ps 1 0 0 0), (.sc (.int .i64 a)), (.os 2 0 0 k1 true false true), (.sc (.int .i64 e)), (.sc (.int .i64 p)), (.os 2 0 0 k2 true false true), (.sc (.int .i64 k)), (.sc (.int .i64 i)), .os 2 0 0 c false false true, (.sc (.int .i64 m)), (.sc (.int .i64 0))], [some ⟨[.sc (.int .i64 n), .os 3 0 0 k4 true false true], true, 24, false, true, none⟩, some ⟨[.run (.int .i64) d], true, 74, false, false, none⟩, some ⟨[.run (.int .i64) l], false, ty, false, false, none⟩, some ⟨[.run (.pair .i64) ws], false, 66, false, false, none⟩] => l14_26t n a p e k i m k1 k2 c k4 d l ws ty
  | _, _, _ => .fail
theorem l14_26_ok {T : Tab} (hT : TabOK T) (hlo : loopOf T.fn 14 26 = some (lpc T 14 26)) (h : ∀ (n a p e k i m : Int) (k1 k2 c k4 : Nat) (d l : List Int) (ws : Ws) (ty : TypeId) (r : Out × List AV × Hp), (l14_26t n a p e k i m k1 k2 c k4 d l ws ty).val = some r → ∃ mm, lpRun T 14 26 0 (lpc T 14 26) mm [ps 0, ps 1, vi a, osW 2 k1, vi e, vi p, osW 2 k2, vi k, vi i, .os 2 0 0 c false false true, vi m, vi 0] [some (rHo n 3 k4), some (rD d), some (rowI l ty), some (rW ws 66)] = some r) : ∀ base kv H o kv' H', (l14_26 base kv H).val = some (o, kv', H') → LoopOK T 14 26 base kv H o kv' H' := by
  intro base kv H o kv' H' hv
  unfold l14_26 at hv
  split at hv
  · rename_i hb
    obtain rfl := Nat.eq_of_beq_eq_true hb
    exact loop_ok hT hlo (h _ _ _ _ _ _ _ _ _ _ _ _ _ _ _ _ hv)
  · cases hv
noncomputable def H1 : Tab := ((H0).addLoop 14 13 l14_13).addLoop 14 26 l14_26
theorem nl14_23 (again : Ag) (n a e m i : Int) (k4 : Nat) (d l : List Int) (ws : Ws) (ty : TypeId) : lpStep H1 14 23 0 (lpc H1 14 23) again [ps 0, ps 1, vi a, osW 2 l.length, vi e, osW 2 l.length, vi m, vi i] [some (rHo n 3 k4), some (rD d), some (rowI l ty), some (rW ws 66)] = (bif decide (i < m) then bif decide (0 ≤ i) then bif decide (i < (↑l.length : Int)) then oM l[i.toNat]? fun x => bif decide (0 ≤ i) then bif decide (i ≤ (↑l.length : Int)) then bif decide ((↑i.toNat : Int) = (↑i.toNat : Int)) && decide (l.length = l.length) && decide (l.length = l.length) && decide (i.toNat ≤ l.length) && sm l && decide (d.length = 81) && decide (1 ≤ a) && decide (a ≤ 9) && (!e == 0 || decide (0 ≤ x) && decide (x < 9) && Brn.in9 (List.take i.toNat l)) then again [.ps 0 0 0 0, .ps 1 0 0 0, vi a, osW 2 l.length, vi (Brn.shN d a x e (List.take i.toNat l)), osW 2 l.length, vi m, vi (IntKind.i64.wrap (i + 1))] [some ⟨[vi n, osW 3 k4], true, 24, false, true, none⟩, some ⟨[.run (.int .i64) d], true, 74, false, false, none⟩, some ⟨[.run (.int .i64) l], false, ty, false, false, none⟩, some ⟨[.run (.pair .i64) ws], false, 66, false, false, none⟩] else none else none else none else none else none else some (.ext 4, [.ps 0 0 0 0, .ps 1 0 0 0, vi a, osW 2 l.length, vi e, osW 2 l.length, vi m, vi i], [some ⟨[vi n, osW 3 k4], true, 24, false, true, none⟩, some ⟨[.run (.int .i64) d], true, 74, false, false, none⟩, some ⟨[.run (.int .i64) l], false, ty, false, false, none⟩, some ⟨[.run (.pair .i64) ws], false, 66, false, false, none⟩])) := by kernel_rfl
def _root_.Brn.apDn (D : List Int) (a : Int) (l : List Int) (i : Nat) : Bool := !(l.take i).any (Brn.nearS D (l.getD i 0) a)
def _root_.Brn.apD (D : List Int) (a : Int) (l : List Int) : Bool := (List.range l.length).all (Brn.apDn D a l)
def _root_.Brn.shP (D : List Int) (a e : Int) (l : List Int) : Int := bif e == 0 then (bif Brn.apD D a l then 0 else 14) else e
def l14_23t (n a e m : Int) (k1 k2 k4 : Nat) (d l : List Int) (ws : Ws) (ty : TypeId) : Tree (Out × List AV × Hp) := .br (decide (m = (l.length : Int)) && decide (k1 = l.length) && decide (k2 = l.length) && sm l && decide (d.length = 81) && decide (1 ≤ a) && decide (a ≤ 9) && (!(e == 0) || Brn.in9 l)) (.leaf (.ext 4, [ps 0, ps 1, vi a, osW 2 k1, vi (Brn.shP d a e l), osW 2 k2, vi m, vi m], [some (rHo n 3 k4), some (rD d), some (rowI l ty), some (rW ws 66)])) .fail
def l14_23 (base : Nat) (kv : List AV) (H : Hp) : Tree (Out × List AV × Hp) := match Nat.beq base 0, kv, H with
  | true, [(.ps 0 0 0 0), (.ps 1 0 0 0), (.sc (.int .i64 a)), (.os 2 0 0 k1 true false true), (.sc (.int .i64 e)), (.os 2 0 0 k2 true false true), (.sc (.int .i64 m)), (.sc (.int .i64 0))], [some ⟨[.sc (.int .i64 n), .os 3 0 0 k4 true false true], true, 24, false, true, none⟩, some ⟨[.run (.int .i64) d], true, 74, false, false, none⟩, some ⟨[.run (.int .i64) l], false, ty, false, false, none⟩, some ⟨[.run (.pair .i64) ws], false, 66, false, false, none⟩] => l14_23t n a e m k1 k2 k4 d l ws ty
  | _, _, _ => .fail
theorem l14_23_ok {T : Tab} (hT : TabOK T) (hlo : loopOf T.fn 14 23 = some (lpc T 14 23)) (h : ∀ (n a e m : Int) (k1 k2 k4 : Nat) (d l : List Int) (ws : Ws) (ty : TypeId) (r : Out × List AV × Hp), (l14_23t n a e m k1 k2 k4 d l ws ty).val = some r → ∃ mm, lpRun T 14 23 0 (lpc T 14 23) mm [ps 0, ps 1, vi a, osW 2 k1, vi e, osW 2 k2, vi m, vi 0] [some (rHo n 3 k4), some (rD d), some (rowI l ty), some (rW ws 66)] = some r) : ∀ base kv H o kv' H', (l14_23 base kv H).val = some (o, kv', H') → LoopOK T 14 23 base kv H o kv' H' := by
  intro base kv H o kv' H' hv
  unfold l14_23 at hv
  split at hv
  · rename_i hb
    obtain rfl := Nat.eq_of_beq_eq_true hb
    exact loop_ok hT hlo (h _ _ _ _ _ _ _ _ _ _ _ _ hv)
  · cases hv
noncomputable def H2 : Tab := (H1).addLoop 14 23 l14_23
noncomputable def H3 (N : Int) (W : Ws) (D F : List Int) : Tab := (H2.addLoop 14 5 (l14_5v F)).addCall 50 (c50w N W D)
theorem nf14 (N : Int) (W : Ws) (D F : List Int) (pl x dy mn : Int) (b m y : List Int) : evBody (H3 N W D F) 14 [.agg [.sc (.int .u8 pl), .run (.int .u8) b, .run (.int .u8) m, .sc (.int .u8 x)] false, vint .u8 dy, .agg [.run (.int .u8) y] false, vint .u8 mn] [] = (bif decide (List.map (fun (x : AV) => match x with | .run e l => l.length * e.size | _ => 1) [.sc (.int .u8 pl), .run (.int .u8) b, .run (.int .u8) m, .sc (.int .u8 x)] = List.map (fun (x : AV) => match x with | .run e l => l.length * e.size | _ => 1) ((List.foldl (fun acc f => match acc, zeroC (Burn.H3 N W D F).P 7 f.type with | some a, some c => some (a ++ c) | x, x_1 => none) (some []) [{ name := "Places", type := 5, offset := 0, embedded := false, tag := "", pkgPath := "", byteOffset := 0 : Go.Field }, { name := "Back", type := 68, offset := 1, embedded := false, tag := "", pkgPath := "", byteOffset := 1 : Go.Field }, { name := "More", type := 70, offset := 10, embedded := false, tag := "", pkgPath := "", byteOffset := 10 : Go.Field }, { name := "Extra", type := 5, offset := 18, embedded := false, tag := "", pkgPath := "", byteOffset := 18 : Go.Field }]).getD [])) then bif decide (List.map (fun (x : AV) => match x with | .run e l => l.length * e.size | _ => 1) [.run (.int .u8) y] = List.map (fun (x : AV) => match x with | .run e l => l.length * e.size | _ => 1) ((some [.run (.int .u8) (List.replicate 9 0)]).getD [])) then bif Brn.skG pl x 9 b m N W D then bif decide (List.map (fun (x : AV) => match x with | .run e l => l.length * e.size | _ => 1) [.run (.int .i64) D] = List.map (fun (x : AV) => match x with | .run e l => l.length * e.size | _ => 1) ((some [.run (.int .i64) (List.replicate 81 0)]).getD [])) then bif decide (0 ≤ (IntKind.i64.wrap mn).tmod 6) then bif decide ((IntKind.i64.wrap mn).tmod 6 ≤ (↑9 : Int)) then bif decide (9 ≤ y.length) then bif decide (F = Brn.shL N y ((IntKind.i64.wrap mn).tmod 6).toNat) then bif decide ((↑((IntKind.i64.wrap mn).tmod 6).toNat : Int) = (↑((IntKind.i64.wrap mn).tmod 6).toNat : Int)) && decide (List.length W = List.length W) && decide (((IntKind.i64.wrap mn).tmod 6).toNat ≤ 9) && decide (y.length = 9) && Brn.u8s y && decide (1 ≤ N) && decide (N ≤ 9) then bif decide (mn.tmod 3 > 0) then bif decide (F.length = F.length) && sm F && !F.isEmpty then bif decide ((↑F.length : Int) = (↑(F.mergeSort fun x y => decide (x ≤ y)).length : Int)) && decide (F.length = (F.mergeSort fun x y => decide (x ≤ y)).length) && decide (F.length = (F.mergeSort fun x y => decide (x ≤ y)).length) && sm (F.mergeSort fun x y => decide (x ≤ y)) && decide (1 ≤ N) && decide (N ≤ 9) && (F.mergeSort fun x y => decide (x ≤ y)).all fun x => decide (0 ≤ x) then bif Brn.shE N (F.mergeSort fun x y => decide (x ≤ y)) == 0 then bif decide ((↑F.length : Int) ≤ IntKind.i64.wrap (1 + (IntKind.i64.wrap dy).tmod 3)) then bif decide ((↑F.length : Int) = (↑(F.mergeSort fun x y => decide (x ≤ y)).length : Int)) && decide (F.length = (F.mergeSort fun x y => decide (x ≤ y)).length) && decide (F.length = (F.mergeSort fun x y => decide (x ≤ y)).length) && sm (F.mergeSort fun x y => decide (x ≤ y)) && decide (D.length = 81) && decide (1 ≤ IntKind.i64.wrap (1 + (IntKind.i64.wrap dy).tmod 3)) && decide (IntKind.i64.wrap (1 + (IntKind.i64.wrap dy).tmod 3) ≤ 9) && (!14 == 0 || Brn.in9 (F.mergeSort fun x y => decide (x ≤ y))) then bif sm W && sm (F.mergeSort fun x y => decide (x ≤ y)) then bif Brn.provE N W (IntKind.i64.wrap (1 + (IntKind.i64.wrap dy).tmod 3)) (F.mergeSort fun x y => decide (x ≤ y)) == Brn.shP D (IntKind.i64.wrap (1 + (IntKind.i64.wrap dy).tmod 3)) 14 (F.mergeSort fun x y => decide (x ≤ y)) then bif sm W && sm (F.mergeSort fun x y => decide (x ≤ y)) then bif Brn.provE N W 0 (F.mergeSort fun x y => decide (x ≤ y)) == 1 then some (vb true, []) else some (vb false, []) else none else some (vb false, []) else none else none else bif decide ((↑F.length : Int) = (↑(F.mergeSort fun x y => decide (x ≤ y)).length : Int)) && decide (F.length = (F.mergeSort fun x y => decide (x ≤ y)).length) && decide (F.length = (F.mergeSort fun x y => decide (x ≤ y)).length) && sm (F.mergeSort fun x y => decide (x ≤ y)) && decide (D.length = 81) && decide (1 ≤ IntKind.i64.wrap (1 + (IntKind.i64.wrap dy).tmod 3)) && decide (IntKind.i64.wrap (1 + (IntKind.i64.wrap dy).tmod 3) ≤ 9) && (!Brn.shE N (F.mergeSort fun x y => decide (x ≤ y)) == 0 || Brn.in9 (F.mergeSort fun x y => decide (x ≤ y))) then bif sm W && sm (F.mergeSort fun x y => decide (x ≤ y)) then bif Brn.provE N W (IntKind.i64.wrap (1 + (IntKind.i64.wrap dy).tmod 3)) (F.mergeSort fun x y => decide (x ≤ y)) == Brn.shP D (IntKind.i64.wrap (1 + (IntKind.i64.wrap dy).tmod 3)) (Brn.shE N (F.mergeSort fun x y => decide (x ≤ y))) (F.mergeSort fun x y => decide (x ≤ y)) then bif sm W && sm (F.mergeSort fun x y => decide (x ≤ y)) then bif Brn.provE N W 0 (F.mergeSort fun x y => decide (x ≤ y)) == 1 then some (vb true, []) else some (vb false, []) else none else some (vb false, []) else none else none else bif decide ((↑F.length : Int) = (↑(F.mergeSort fun x y => decide (x ≤ y)).length : Int)) && decide (F.length = (F.mergeSort fun x y => decide (x ≤ y)).length) && decide (F.length = (F.mergeSort fun x y => decide (x ≤ y)).length) && sm (F.mergeSort fun x y => decide (x ≤ y)) && decide (D.length = 81) && decide (1 ≤ IntKind.i64.wrap (1 + (IntKind.i64.wrap dy).tmod 3)) && decide (IntKind.i64.wrap (1 + (IntKind.i64.wrap dy).tmod 3) ≤ 9) && (!Brn.shE N (F.mergeSort fun x y => decide (x ≤ y)) == 0 || Brn.in9 (F.mergeSort fun x y => decide (x ≤ y))) then bif sm W && sm (F.mergeSort fun x y => decide (x ≤ y)) then bif Brn.provE N W (IntKind.i64.wrap (1 + (IntKind.i64.wrap dy).tmod 3)) (F.mergeSort fun x y => decide (x ≤ y)) == Brn.shP D (IntKind.i64.wrap (1 + (IntKind.i64.wrap dy).tmod 3)) (Brn.shE N (F.mergeSort fun x y => decide (x ≤ y))) (F.mergeSort fun x y => decide (x ≤ y)) then bif sm W && sm (F.mergeSort fun x y => decide (x ≤ y)) then bif Brn.provE N W 0 (F.mergeSort fun x y => decide (x ≤ y)) == 1 then some (vb true, []) else some (vb false, []) else none else some (vb false, []) else none else none else none else none else bif decide ((↑F.length : Int) = (↑F.length : Int)) && decide (F.length = F.length) && decide (F.length = F.length) && sm F && decide (1 ≤ N) && decide (N ≤ 9) && F.all fun x => decide (0 ≤ x) then bif Brn.shE N F == 0 then bif decide ((↑F.length : Int) ≤ IntKind.i64.wrap (1 + (IntKind.i64.wrap dy).tmod 3)) then bif decide ((↑F.length : Int) = (↑F.length : Int)) && decide (F.length = F.length) && decide (F.length = F.length) && sm F && decide (D.length = 81) && decide (1 ≤ IntKind.i64.wrap (1 + (IntKind.i64.wrap dy).tmod 3)) && decide (IntKind.i64.wrap (1 + (IntKind.i64.wrap dy).tmod 3) ≤ 9) && (!14 == 0 || Brn.in9 F) then bif sm W && sm F then bif Brn.provE N W (IntKind.i64.wrap (1 + (IntKind.i64.wrap dy).tmod 3)) F == Brn.shP D (IntKind.i64.wrap (1 + (IntKind.i64.wrap dy).tmod 3)) 14 F then bif sm W && sm F then bif Brn.provE N W 0 F == 1 then some (vb true, []) else some (vb false, []) else none else some (vb false, []) else none else none else bif decide ((↑F.length : Int) = (↑F.length : Int)) && decide (F.length = F.length) && decide (F.length = F.length) && sm F && decide (D.length = 81) && decide (1 ≤ IntKind.i64.wrap (1 + (IntKind.i64.wrap dy).tmod 3)) && decide (IntKind.i64.wrap (1 + (IntKind.i64.wrap dy).tmod 3) ≤ 9) && (!Brn.shE N F == 0 || Brn.in9 F) then bif sm W && sm F then bif Brn.provE N W (IntKind.i64.wrap (1 + (IntKind.i64.wrap dy).tmod 3)) F == Brn.shP D (IntKind.i64.wrap (1 + (IntKind.i64.wrap dy).tmod 3)) (Brn.shE N F) F then bif sm W && sm F then bif Brn.provE N W 0 F == 1 then some (vb true, []) else some (vb false, []) else none else some (vb false, []) else none else none else bif decide ((↑F.length : Int) = (↑F.length : Int)) && decide (F.length = F.length) && decide (F.length = F.length) && sm F && decide (D.length = 81) && decide (1 ≤ IntKind.i64.wrap (1 + (IntKind.i64.wrap dy).tmod 3)) && decide (IntKind.i64.wrap (1 + (IntKind.i64.wrap dy).tmod 3) ≤ 9) && (!Brn.shE N F == 0 || Brn.in9 F) then bif sm W && sm F then bif Brn.provE N W (IntKind.i64.wrap (1 + (IntKind.i64.wrap dy).tmod 3)) F == Brn.shP D (IntKind.i64.wrap (1 + (IntKind.i64.wrap dy).tmod 3)) (Brn.shE N F) F then bif sm W && sm F then bif Brn.provE N W 0 F == 1 then some (vb true, []) else some (vb false, []) else none else some (vb false, []) else none else none else none else none else none else none else none else none else none else none else none else none) := by kernel_rfl
end Go.Ev.Burn
namespace Go.Ev.Burn
open Go Go.Ev Go.Proofs
set_option linter.unusedVariables false
def lay189Ren : Go.Shelf.Ren := { f := fun x => match x with | 189 => 64 | 125 => 92 | 257 => 91 | 128 => 111 | 129 => 112 | 294 => 102 | 295 => 103 | 296 => 104 | 297 => 105 | 298 => 106 | 299 => 107 | 216 => 108 | 300 => 109 | 301 => 110 | 328 => 114 | 329 => 115 | 330 => 116 | 331 => 117 | 332 => 118 | 215 => 119 | 343 => 120 | n => n, t := fun x => match x with | 28 => 25 | 3 => 3 | 46 => 106 | 0 => 0 | 51 => 141 | 53 => 143 | 4 => 4 | 183 => 147 | 182 => 146 | 131 => 152 | 5 => 5 | 9 => 9 | 218 => 156 | 222 => 160 | 228 => 162 | 229 => 163 | n => n, g := fun x => x }
theorem lay189 : Go.Proofs.Lays.n189 Tryd.prog lay189Ren where
  mixed := by kernel_rfl
  f125 := Tryd.func92.trans (congrArg some (by kernel_rfl))
  f128 := Tryd.func111.trans (congrArg some (by kernel_rfl))
  f129 := Tryd.func112.trans (congrArg some (by kernel_rfl))
  f189 := Tryd.func64.trans (congrArg some (by kernel_rfl))
  f215 := Tryd.func119.trans (congrArg some (by kernel_rfl))
  f216 := Tryd.func108.trans (congrArg some (by kernel_rfl))
  f257 := Tryd.func91.trans (congrArg some (by kernel_rfl))
  f294 := Tryd.func102.trans (congrArg some (by kernel_rfl))
  f295 := Tryd.func103.trans (congrArg some (by kernel_rfl))
  f296 := Tryd.func104.trans (congrArg some (by kernel_rfl))
  f297 := Tryd.func105.trans (congrArg some (by kernel_rfl))
  f298 := Tryd.func106.trans (congrArg some (by kernel_rfl))
  f299 := Tryd.func107.trans (congrArg some (by kernel_rfl))
  f300 := Tryd.func109.trans (congrArg some (by kernel_rfl))
  f301 := Tryd.func110.trans (congrArg some (by kernel_rfl))
  f328 := Tryd.func114.trans (congrArg some (by kernel_rfl))
  f329 := Tryd.func115.trans (congrArg some (by kernel_rfl))
  f330 := Tryd.func116.trans (congrArg some (by kernel_rfl))
  f331 := Tryd.func117.trans (congrArg some (by kernel_rfl))
  f332 := Tryd.func118.trans (congrArg some (by kernel_rfl))
  f343 := Tryd.func120.trans (congrArg some (by kernel_rfl))
  t0 := Tryd.underlying0
  a0 := Tryd.isAgg0
  z0 := Tryd.sizeOf0
  v0 := Tryd.zeroValue0
  t3 := Tryd.underlying3
  a3 := Tryd.isAgg3
  z3 := Tryd.sizeOf3
  v3 := Tryd.zeroValue3
  t4 := Tryd.underlying4
  a4 := Tryd.isAgg4
  z4 := Tryd.sizeOf4
  v4 := Tryd.zeroValue4
  t5 := Tryd.underlying5
  a5 := Tryd.isAgg5
  z5 := Tryd.sizeOf5
  v5 := Tryd.zeroValue5
  t9 := Tryd.underlying9
  a9 := Tryd.isAgg9
  z9 := Tryd.sizeOf9
  v9 := Tryd.zeroValue9
  t28 := Tryd.underlying25
  a28 := Tryd.isAgg25
  z28 := Tryd.sizeOf25
  v28 := Tryd.zeroValue25
  t46 := Tryd.underlying106
  a46 := Tryd.isAgg106
  z46 := Tryd.sizeOf106
  v46 := Tryd.zeroValue106
  t51 := Tryd.underlying141
  a51 := Tryd.isAgg141
  z51 := Tryd.sizeOf141
  v51 := Tryd.zeroValue141
  t53 := Tryd.underlying143
  a53 := Tryd.isAgg143
  z53 := Tryd.sizeOf143
  v53 := Tryd.zeroValue143
  t131 := Tryd.underlying152
  a131 := Tryd.isAgg152
  z131 := Tryd.sizeOf152
  v131 := Tryd.zeroValue152
  t182 := Tryd.underlying146
  a182 := Tryd.isAgg146
  z182 := Tryd.sizeOf146
  v182 := Tryd.zeroValue146
  t183 := Tryd.underlying147
  a183 := Tryd.isAgg147
  z183 := Tryd.sizeOf147
  v183 := Tryd.zeroValue147
  t218 := Tryd.underlying156
  a218 := Tryd.isAgg156
  z218 := Tryd.sizeOf156
  v218 := Tryd.zeroValue156
  t222 := Tryd.underlying160
  a222 := Tryd.isAgg160
  z222 := Tryd.sizeOf160
  v222 := Tryd.zeroValue160
  t228 := Tryd.underlying162
  a228 := Tryd.isAgg162
  z228 := Tryd.sizeOf162
  v228 := Tryd.zeroValue162
  t229 := Tryd.underlying163
  a229 := Tryd.isAgg163
  z229 := Tryd.sizeOf163
  v229 := Tryd.zeroValue163
theorem c64_run : ∀ args H v H', (c64 args H).val = some (v, H') → CallOK C4 64 args H v H' := by
  intro args H v H' hv
  unfold c64 at hv
  split at hv
  · rename_i k tight full l ty
    obtain ⟨hl, hv2⟩ := guard_val hv
    simp only [Bool.and_eq_true, decide_eq_true_eq, Bool.not_eq_true'] at hl
    obtain ⟨⟨rfl, hsm⟩, hne⟩ := hl
    have e := leaf_val hv2
    simp only [Prod.mk.injEq] at e
    obtain ⟨rfl, rfl⟩ := e
    exact sort_ok (T := C4) ⟨_, _, Tryd.func64, rfl, rfl⟩ (fun blk off cap zs w hH hb hz => Any.slices_Sort_int lay189 blk off cap zs w hH hb hz) (fun e => by rw [e] at hne; cases hne) (sm_le hsm)
  · cases hv
end Go.Ev.Burn
namespace Go.Ev.Burn
open Go Go.Ev
set_option maxRecDepth 1000000
set_option linter.unusedVariables false
set_option linter.unusedSimpArgs false
theorem getO {l : List Int} {i : Nat} (h : i < l.length) : l[i]? = some (l.getD i 0) := by
  rw [List.getD_eq_getElem?_getD, List.getElem?_eq_getElem h]; rfl
theorem S23_ok : TabOK S23 := by
  have h := S22_ok
  exact h
theorem S24_ok : TabOK S24 := by
  have h := S23_ok
  exact h
theorem S25_ok : TabOK S25 := by
  have h := S24_ok
  exact h
end Go.Ev.Burn
