/- The claim chapter: what the laws by numbers call: tables and normal forms. -/
import Derived.Test.YtfemekpcgieldaaTh
import Derived.Test.YtfemekpcgieldaaSc
set_option linter.unusedVariables false
set_option linter.unusedSimpArgs false
namespace Go.Ev.Clm
open Go Go.Ev
set_option maxRecDepth 1000000
set_option linter.unusedVariables false
abbrev osQ (r k : Nat) : AV := .os r 1 0 k false false false
abbrev rQ (h : Int) (c : List Int) (w : Int) : Row := ⟨[.sc (.int .u8 h), .run (.int .u16) c, .sc (.int .u16 w)], true, 40, false, false, none⟩
abbrev rB (l : List Int) : Row := ⟨[.run (.int .u32) l], true, 42, false, false, none⟩
abbrev aQ3 (h : Int) (c : List Int) (w : Int) : AV := .agg [.sc (.int .u8 h), .run (.int .u16) c, .sc (.int .u16 w)] false
abbrev aB (l : List Int) : AV := .agg [.run (.int .u32) l] false
theorem nf42 (w a b : Int) : evBody T28 42 [vi w, vi a, vi b] [] = (some (.sc (.int .i64 (IntKind.i64.wrap (IntKind.i64.wrap ((if IntKind.i64.wrap (w - b) > 0 then IntKind.i64.wrap (w - b) else 0) + w) - if IntKind.i64.wrap (w - a) > 0 then IntKind.i64.wrap (w - a) else 0))), [])) := by kernel_rfl
theorem nf46 (l : List Int) : evBody T28 46 [lI l] [] = (some (.sl (.int .i64) l false, [])) := by kernel_rfl
theorem nl44 (again : Ag) (l : List Int) (n i : Int) : lpStep T28 44 3 0 (lpc T28 44 3) again [vi n, lI l, vi l.length, vi i] [] = (bif decide (i < (↑l.length : Int)) then bif decide (0 ≤ i) then bif decide (i < (↑l.length : Int)) then oM l[i.toNat]? fun x => again [vi (IntKind.i64.wrap (n + x)), .sl (.int .i64) l false, vi (↑l.length : Int), vi (IntKind.i64.wrap (i + 1))] [] else none else none else some (.ext 0, [vi n, .sl (.int .i64) l false, vi (↑l.length : Int), vi i], [])) := by kernel_rfl
def l44_3t (l : List Int) (m : Int) : Tree (Out × List AV × Hp) := .br (decide (m = l.length) && sm l && Clm.sb l) (.leaf (.ext 0, [vi (Clm.sumI l), lI l, vi m, vi m], [])) .fail
def l44_3 (base : Nat) (kv : List AV) (H : Hp) : Tree (Out × List AV × Hp) := match Nat.beq base 0, kv, H with
  | true, [(.sc (.int .i64 0)), (.sl (.int .i64) l false), (.sc (.int .i64 m)), (.sc (.int .i64 0))], [] => l44_3t l m
  | _, _, _ => .fail
theorem l44_3_ok {T : Tab} (hT : TabOK T) (hlo : loopOf T.fn 44 3 = some (lpc T 44 3)) (h : ∀ (l : List Int) (m : Int) (r : Out × List AV × Hp), (l44_3t l m).val = some r → ∃ mm, lpRun T 44 3 0 (lpc T 44 3) mm [vi 0, lI l, vi m, vi 0] [] = some r) : ∀ base kv H o kv' H', (l44_3 base kv H).val = some (o, kv', H') → LoopOK T 44 3 base kv H o kv' H' := by
  intro base kv H o kv' H' hv
  unfold l44_3 at hv
  split at hv
  · rename_i hb
    obtain rfl := Nat.eq_of_beq_eq_true hb
    exact loop_ok hT hlo (h _ _ _ hv)
  · cases hv
def c42t (w a b : Int) : Tree (AV × Hp) := .br (Clm.sm3 w a b) (.leaf (vi (Clm.pairV w a b), [])) .fail
def c42 (args : List AV) (H : Hp) : Tree (AV × Hp) := match args, H with
  | [(.sc (.int .i64 w)), (.sc (.int .i64 a)), (.sc (.int .i64 b))], [] => c42t w a b
  | _, _ => .fail
theorem c42_ok {T : Tab} (hT : TabOK T) (h : ∀ (w a b : Int) (r : AV × Hp), (c42t w a b).val = some r → evBody T 42 [vi w, vi a, vi b] [] = some r) : ∀ args H v H', (c42 args H).val = some (v, H') → CallOK T 42 args H v H' := by
  intro args H v H' hv
  unfold c42 at hv
  split at hv
  · exact evBody_sound hT (h _ _ _ _ hv)
  · cases hv
def c46t (l : List Int) : Tree (AV × Hp) := .leaf (lI l, [])
def c46 (args : List AV) (H : Hp) : Tree (AV × Hp) := match args, H with
  | [(.sl (.int .i64) l false)], [] => c46t l
  | _, _ => .fail
theorem c46_ok {T : Tab} (hT : TabOK T) (h : ∀ (l : List Int) (r : AV × Hp), (c46t l).val = some r → evBody T 46 [lI l] [] = some r) : ∀ args H v H', (c46 args H).val = some (v, H') → CallOK T 46 args H v H' := by
  intro args H v H' hv
  unfold c46 at hv
  split at hv
  · exact evBody_sound hT (h _ _ hv)
  · cases hv
theorem nl39 (again : Ag) (cs gs : List Int) (w i : Int) : lpStep T28 39 4 0 (lpc T28 39 4) again [vi w, lI cs, lI gs, vb false, lI gs, vi gs.length, vi i] [] = (bif decide (i < (↑gs.length : Int)) then bif decide (0 ≤ i) then bif decide (i < (↑gs.length : Int)) then oM gs[i.toNat]? fun x => bif decide (x < 0) then some (.ret, [vi w, .sl (.int .i64) cs false, .sl (.int .i64) gs false, vb false, .sl (.int .i64) gs false, vi (↑gs.length : Int), vi i], []) else bif decide (0 ≤ i) then bif decide (i < (↑cs.length : Int)) then oM cs[i.toNat]? fun x_1 => bif decide (x > IntKind.i64.wrap (120 * x_1)) then some (.ret, [vi w, .sl (.int .i64) cs false, .sl (.int .i64) gs false, vb false, .sl (.int .i64) gs false, vi (↑gs.length : Int), vi i], []) else again [vi w, .sl (.int .i64) cs false, .sl (.int .i64) gs false, vb false, .sl (.int .i64) gs false, vi (↑gs.length : Int), vi (IntKind.i64.wrap (i + 1))] [] else none else none else none else none else some (.ext 0, [vi w, .sl (.int .i64) cs false, .sl (.int .i64) gs false, vb false, .sl (.int .i64) gs false, vi (↑gs.length : Int), vi i], [])) := by kernel_rfl
def l39_4t (cs gs gs2 : List Int) (w m : Int) : Tree (Out × List AV × Hp) := .br (decide (gs2 = gs) && decide (m = gs.length) && decide (gs.length = cs.length) && decide (cs.length ≤ 5) && Clm.sb cs && Clm.okG cs gs) (.leaf (.ext 0, [vi w, lI cs, lI gs, vb false, lI gs, vi m, vi m], [])) .fail
def l39_4 (base : Nat) (kv : List AV) (H : Hp) : Tree (Out × List AV × Hp) := match Nat.beq base 0, kv, H with
  | true, [(.sc (.int .i64 w)), (.sl (.int .i64) cs false), (.sl (.int .i64) gs false), (.sc (.bool false)), (.sl (.int .i64) gs2 false), (.sc (.int .i64 m)), (.sc (.int .i64 0))], [] => l39_4t cs gs gs2 w m
  | _, _, _ => .fail
theorem l39_4_ok {T : Tab} (hT : TabOK T) (hlo : loopOf T.fn 39 4 = some (lpc T 39 4)) (h : ∀ (cs gs gs2 : List Int) (w m : Int) (r : Out × List AV × Hp), (l39_4t cs gs gs2 w m).val = some r → ∃ mm, lpRun T 39 4 0 (lpc T 39 4) mm [vi w, lI cs, lI gs, vb false, lI gs2, vi m, vi 0] [] = some r) : ∀ base kv H o kv' H', (l39_4 base kv H).val = some (o, kv', H') → LoopOK T 39 4 base kv H o kv' H' := by
  intro base kv H o kv' H' hv
  unfold l39_4 at hv
  split at hv
  · rename_i hb
    obtain rfl := Nat.eq_of_beq_eq_true hb
    exact loop_ok hT hlo (h _ _ _ _ _ _ hv)
  · cases hv
noncomputable def T29 : Tab := ((((T28).addCall 42 c42).addCall 46 c46).addLoop 44 3 l44_3).addLoop 39 4 l39_4
theorem nf44 (l : List Int) : evBody T29 44 [lI l] [] = (bif decide ((↑l.length : Int) = (↑l.length : Int)) && sm l && Clm.sb l then some (vi (Clm.sumI l), []) else none) := by kernel_rfl
def c44t (l : List Int) : Tree (AV × Hp) := .br (sm l && Clm.sb l) (.leaf (vi (Clm.sumI l), [])) .fail
def c44 (args : List AV) (H : Hp) : Tree (AV × Hp) := match args, H with
  | [(.sl (.int .i64) l false)], [] => c44t l
  | _, _ => .fail
theorem c44_ok {T : Tab} (hT : TabOK T) (h : ∀ (l : List Int) (r : AV × Hp), (c44t l).val = some r → evBody T 44 [lI l] [] = some r) : ∀ args H v H', (c44 args H).val = some (v, H') → CallOK T 44 args H v H' := by
  intro args H v H' hv
  unfold c44 at hv
  split at hv
  · exact evBody_sound hT (h _ _ hv)
  · cases hv
theorem nl40_5 (again : Ag) (cs gs : List Int) (i j m u : Int) : lpStep T29 40 5 0 (lpc T29 40 5) again [lI cs, lI gs, vi 0, vi 0, vb false, vi i, vi j, vi m, vi u] [] = (bif decide (j < (↑cs.length : Int)) then bif decide (0 ≤ i) then bif decide (i < (↑gs.length : Int)) then oM gs[i.toNat]? fun x => bif decide (0 ≤ i) then bif decide (i < (↑gs.length : Int)) then oM gs[i.toNat]? fun x_1 => bif decide (0 ≤ j) then bif decide (j < (↑gs.length : Int)) then oM gs[j.toNat]? fun x_2 => bif decide (0 ≤ i) then bif decide (i < (↑cs.length : Int)) then oM cs[i.toNat]? fun x_3 => bif decide (0 ≤ j) then bif decide (j < (↑cs.length : Int)) then oM cs[j.toNat]? fun x_4 => bif Clm.sm3 (IntKind.i64.wrap (x_1 + x_2)) (IntKind.i64.wrap (120 * x_3)) (IntKind.i64.wrap (120 * x_4)) then bif IntKind.i64.wrap (2 * x) != Clm.pairV (IntKind.i64.wrap (x_1 + x_2)) (IntKind.i64.wrap (120 * x_3)) (IntKind.i64.wrap (120 * x_4)) then some (.ret, [.sl (.int .i64) cs false, .sl (.int .i64) gs false, vi i, vi j, vb true, vi i, vi j, vi m, vi u], []) else again [.sl (.int .i64) cs false, .sl (.int .i64) gs false, vi 0, vi 0, vb false, vi i, vi (IntKind.i64.wrap (j + 1)), vi m, vi u] [] else none else none else none else none else none else none else none else none else none else none else none else some (.ext 2, [.sl (.int .i64) cs false, .sl (.int .i64) gs false, vi 0, vi 0, vb false, vi i, vi j, vi m, vi u], [])) := by kernel_rfl
def l40_5t (cs gs : List Int) (i j m u : Int) : Tree (Out × List AV × Hp) := .br (Clm.sb cs && Clm.sb gs && decide (gs.length = cs.length) && decide (cs.length ≤ 5) && decide (0 ≤ i) && decide (i < cs.length) && decide (j = i + 1)) (.br (decide (Clm.jOf cs gs i.toNat < cs.length)) (.leaf (.ret, [lI cs, lI gs, vi i, vi (Clm.jOf cs gs i.toNat : Nat), vb true, vi i, vi (Clm.jOf cs gs i.toNat : Nat), vi m, vi u], [])) (.leaf (.ext 2, [lI cs, lI gs, vi 0, vi 0, vb false, vi i, vi cs.length, vi m, vi u], []))) .fail
def l40_5 (base : Nat) (kv : List AV) (H : Hp) : Tree (Out × List AV × Hp) := match Nat.beq base 0, kv, H with
  | true, [(.sl (.int .i64) cs false), (.sl (.int .i64) gs false), (.sc (.int .i64 0)), (.sc (.int .i64 0)), (.sc (.bool false)), (.sc (.int .i64 i)), (.sc (.int .i64 j)), (.sc (.int .i64 m)), (.sc (.int .i64 u))], [] => l40_5t cs gs i j m u
  | _, _, _ => .fail
theorem l40_5_ok {T : Tab} (hT : TabOK T) (hlo : loopOf T.fn 40 5 = some (lpc T 40 5)) (h : ∀ (cs gs : List Int) (i j m u : Int) (r : Out × List AV × Hp), (l40_5t cs gs i j m u).val = some r → ∃ mm, lpRun T 40 5 0 (lpc T 40 5) mm [lI cs, lI gs, vi 0, vi 0, vb false, vi i, vi j, vi m, vi u] [] = some r) : ∀ base kv H o kv' H', (l40_5 base kv H).val = some (o, kv', H') → LoopOK T 40 5 base kv H o kv' H' := by
  intro base kv H o kv' H' hv
  unfold l40_5 at hv
  split at hv
  · rename_i hb
    obtain rfl := Nat.eq_of_beq_eq_true hb
    exact loop_ok hT hlo (h _ _ _ _ _ _ _ hv)
  · cases hv
noncomputable def T30 : Tab := ((T29).addCall 44 c44).addLoop 40 5 l40_5
theorem nf39 (cs gs : List Int) (w : Int) : evBody T30 39 [vi w, lI cs, lI gs] [] = (bif (↑gs.length : Int) != (↑cs.length : Int) then some (vb false, []) else bif decide (gs = gs) && decide ((↑gs.length : Int) = (↑gs.length : Int)) && decide (gs.length = cs.length) && decide (cs.length ≤ 5) && Clm.sb cs && Clm.okG cs gs then bif sm gs && Clm.sb gs then some (vb (Clm.sumI gs == IntKind.i64.wrap (120 * w)), []) else none else none) := by kernel_rfl
def c39t (cs gs : List Int) (w : Int) : Tree (AV × Hp) := .br (Clm.divB w cs gs) (.leaf (vb true, [])) .fail
def c39 (args : List AV) (H : Hp) : Tree (AV × Hp) := match args, H with
  | [(.sc (.int .i64 w)), (.sl (.int .i64) cs false), (.sl (.int .i64) gs false)], [] => c39t cs gs w
  | _, _ => .fail
theorem c39_ok {T : Tab} (hT : TabOK T) (h : ∀ (cs gs : List Int) (w : Int) (r : AV × Hp), (c39t cs gs w).val = some r → evBody T 39 [vi w, lI cs, lI gs] [] = some r) : ∀ args H v H', (c39 args H).val = some (v, H') → CallOK T 39 args H v H' := by
  intro args H v H' hv
  unfold c39 at hv
  split at hv
  · exact evBody_sound hT (h _ _ _ _ hv)
  · cases hv
theorem nl40_2 (again : Ag) (cs gs : List Int) (i : Int) : lpStep T30 40 2 0 (lpc T30 40 2) again [lI cs, lI gs, vi 0, vi 0, vb false, vi cs.length, vi i] [] = (bif decide (i < (↑cs.length : Int)) then bif Clm.sb cs && Clm.sb gs && decide (gs.length = cs.length) && decide (cs.length ≤ 5) && decide (0 ≤ i) && decide (i < (↑cs.length : Int)) && decide (IntKind.i64.wrap (i + 1) = i + 1) then bif decide (Clm.jOf cs gs i.toNat < cs.length) then some (.ret, [.sl (.int .i64) cs false, .sl (.int .i64) gs false, vi i, vi (↑(Clm.jOf cs gs i.toNat) : Int), vb true, vi (↑cs.length : Int), vi i], []) else again [.sl (.int .i64) cs false, .sl (.int .i64) gs false, vi 0, vi 0, vb false, vi (↑cs.length : Int), vi (IntKind.i64.wrap (i + 1))] [] else none else some (.ext 0, [.sl (.int .i64) cs false, .sl (.int .i64) gs false, vi 0, vi 0, vb false, vi (↑cs.length : Int), vi i], [])) := by kernel_rfl
def l40_2t (cs gs : List Int) (m : Int) : Tree (Out × List AV × Hp) := .br (decide (m = cs.length) && Clm.sb cs && Clm.sb gs && decide (gs.length = cs.length) && decide (cs.length ≤ 5)) (.br (Clm.foundV cs gs) (.leaf (.ret, [lI cs, lI gs, vi (Clm.iOf cs gs : Nat), vi (Clm.jOf cs gs (Clm.iOf cs gs) : Nat), vb true, vi m, vi (Clm.iOf cs gs : Nat)], [])) (.leaf (.ext 0, [lI cs, lI gs, vi 0, vi 0, vb false, vi m, vi m], []))) .fail
def l40_2 (base : Nat) (kv : List AV) (H : Hp) : Tree (Out × List AV × Hp) := match Nat.beq base 0, kv, H with
  | true, [(.sl (.int .i64) cs false), (.sl (.int .i64) gs false), (.sc (.int .i64 0)), (.sc (.int .i64 0)), (.sc (.bool false)), (.sc (.int .i64 m)), (.sc (.int .i64 0))], [] => l40_2t cs gs m
  | _, _, _ => .fail
theorem l40_2_ok {T : Tab} (hT : TabOK T) (hlo : loopOf T.fn 40 2 = some (lpc T 40 2)) (h : ∀ (cs gs : List Int) (m : Int) (r : Out × List AV × Hp), (l40_2t cs gs m).val = some r → ∃ mm, lpRun T 40 2 0 (lpc T 40 2) mm [lI cs, lI gs, vi 0, vi 0, vb false, vi m, vi 0] [] = some r) : ∀ base kv H o kv' H', (l40_2 base kv H).val = some (o, kv', H') → LoopOK T 40 2 base kv H o kv' H' := by
  intro base kv H o kv' H' hv
  unfold l40_2 at hv
  split at hv
  · rename_i hb
    obtain rfl := Nat.eq_of_beq_eq_true hb
    exact loop_ok hT hlo (h _ _ _ _ hv)
  · cases hv
theorem nl38 (again : Ag) (out cl : List Int) (most h x m i : Int) (k : Nat) : lpStep T30 38 3 0 (lpc T30 38 3) again [vi most, ps 0, osW 1 out.length, osQ 0 k, vi m, vi i] [some (rQ h cl x), some (rI out)] = (bif decide (i < m) then bif decide (0 ≤ i) then bif decide (i < (↑k : Int)) then oM cl[i.toNat]? fun x_1 => bif !decide (most = 0) then bif room (out.length + 1) 8 then again [vi most, .ps 0 0 0 0, osW 1 (out.length + 1), .os 0 1 0 k false false false, vi m, vi (IntKind.i64.wrap (i + 1))] [some ⟨[.sc (.int .u8 h), .run (.int .u16) cl, .sc (.int .u16 x)], true, 40, false, false, none⟩, some ⟨[.run (.int .i64) (out ++ [IntKind.i64.wrap (1 + (IntKind.i64.wrap x_1).tmod most)])], false, 3, false, false, none⟩] else none else none else none else none else some (.ext 0, [vi most, .ps 0 0 0 0, osW 1 out.length, .os 0 1 0 k false false false, vi m, vi i], [some ⟨[.sc (.int .u8 h), .run (.int .u16) cl, .sc (.int .u16 x)], true, 40, false, false, none⟩, some ⟨[.run (.int .i64) out], false, Clm.tyI out, false, false, none⟩])) := by kernel_rfl
def l38_3t (cl : List Int) (most h x m : Int) (k : Nat) : Tree (Out × List AV × Hp) := .br (decide (m = k) && decide (k ≤ 5) && decide (cl.length = 5) && Clm.u16B cl && decide (1 ≤ most) && decide (most ≤ 1000)) (.leaf (.ext 0, [vi most, ps 0, osW 1 k, osQ 0 k, vi m, vi m], [some (rQ h cl x), some (rI ((cl.take k).map fun c => 1 + c.tmod most))])) .fail
def l38_3 (base : Nat) (kv : List AV) (H : Hp) : Tree (Out × List AV × Hp) := match Nat.beq base 0, kv, H with
  | true, [(.sc (.int .i64 most)), (.ps 0 0 0 0), (.os 1 0 0 0 true false true), (.os 0 1 0 k false false false), (.sc (.int .i64 m)), (.sc (.int .i64 0))], [some ⟨[.sc (.int .u8 h), .run (.int .u16) cl, .sc (.int .u16 x)], true, 40, false, false, none⟩, some ⟨[.run (.int .i64) []], false, 0, false, false, none⟩] => l38_3t cl most h x m k
  | _, _, _ => .fail
theorem l38_3_ok {T : Tab} (hT : TabOK T) (hlo : loopOf T.fn 38 3 = some (lpc T 38 3)) (h : ∀ (cl : List Int) (most h x m : Int) (k : Nat) (r : Out × List AV × Hp), (l38_3t cl most h x m k).val = some r → ∃ mm, lpRun T 38 3 0 (lpc T 38 3) mm [vi most, ps 0, osW 1 0, osQ 0 k, vi m, vi 0] [some (rQ h cl x), some (rowI [] 0)] = some r) : ∀ base kv H o kv' H', (l38_3 base kv H).val = some (o, kv', H') → LoopOK T 38 3 base kv H o kv' H' := by
  intro base kv H o kv' H' hv
  unfold l38_3 at hv
  split at hv
  · rename_i hb
    obtain rfl := Nat.eq_of_beq_eq_true hb
    exact loop_ok hT hlo (h _ _ _ _ _ _ _ hv)
  · cases hv
theorem nl41 (again : Ag) (out cs bs : List Int) (left rest i : Int) : lpStep T30 41 4 0 (lpc T30 41 4) again [ps 0, vi left, vi rest, osW 1 out.length, lI cs, vi cs.length, vi i] [some (rB bs), some (rI out)] = (bif decide (i < (↑cs.length : Int)) then bif decide (0 ≤ i) then bif decide (i < (↑cs.length : Int)) then oM cs[i.toNat]? fun x => bif decide (0 ≤ i) then bif decide (i < (↑5 : Int)) then oM bs[i.toNat]? fun x_1 => bif !decide (IntKind.i64.wrap (IntKind.i64.wrap ((if IntKind.i64.wrap (120 * x) < left then IntKind.i64.wrap (120 * x) else left) - if IntKind.i64.wrap (left - IntKind.i64.wrap (rest - IntKind.i64.wrap (120 * x))) > 0 then IntKind.i64.wrap (left - IntKind.i64.wrap (rest - IntKind.i64.wrap (120 * x))) else 0) + 1) = 0) then bif room (out.length + 1) 8 then again [.ps 0 0 0 0, .sc (.int .i64 (IntKind.i64.wrap (left - IntKind.i64.wrap ((if IntKind.i64.wrap (left - IntKind.i64.wrap (rest - IntKind.i64.wrap (120 * x))) > 0 then IntKind.i64.wrap (left - IntKind.i64.wrap (rest - IntKind.i64.wrap (120 * x))) else 0) + (IntKind.i64.wrap x_1).tmod (IntKind.i64.wrap (IntKind.i64.wrap ((if IntKind.i64.wrap (120 * x) < left then IntKind.i64.wrap (120 * x) else left) - if IntKind.i64.wrap (left - IntKind.i64.wrap (rest - IntKind.i64.wrap (120 * x))) > 0 then IntKind.i64.wrap (left - IntKind.i64.wrap (rest - IntKind.i64.wrap (120 * x))) else 0) + 1)))))), vi (IntKind.i64.wrap (rest - IntKind.i64.wrap (120 * x))), osW 1 (out.length + 1), .sl (.int .i64) cs false, vi (↑cs.length : Int), vi (IntKind.i64.wrap (i + 1))] [some ⟨[.run (.int .u32) bs], true, 42, false, false, none⟩, some ⟨[.run (.int .i64) (out ++ [IntKind.i64.wrap ((if IntKind.i64.wrap (left - IntKind.i64.wrap (rest - IntKind.i64.wrap (120 * x))) > 0 then IntKind.i64.wrap (left - IntKind.i64.wrap (rest - IntKind.i64.wrap (120 * x))) else 0) + (IntKind.i64.wrap x_1).tmod (IntKind.i64.wrap (IntKind.i64.wrap ((if IntKind.i64.wrap (120 * x) < left then IntKind.i64.wrap (120 * x) else left) - if IntKind.i64.wrap (left - IntKind.i64.wrap (rest - IntKind.i64.wrap (120 * x))) > 0 then IntKind.i64.wrap (left - IntKind.i64.wrap (rest - IntKind.i64.wrap (120 * x))) else 0) + 1)))])], false, 3, false, false, none⟩] else none else none else none else none else none else none else some (.ext 0, [.ps 0 0 0 0, vi left, vi rest, osW 1 out.length, .sl (.int .i64) cs false, vi (↑cs.length : Int), vi i], [some ⟨[.run (.int .u32) bs], true, 42, false, false, none⟩, some ⟨[.run (.int .i64) out], false, Clm.tyI out, false, false, none⟩])) := by kernel_rfl
def l41_4t (cs bs : List Int) (left rest m : Int) : Tree (Out × List AV × Hp) := .br (decide (m = cs.length) && Clm.sprG left rest cs bs) (.leaf (.ext 0, [ps 0, vi 0, vi 0, osW 1 cs.length, lI cs, vi m, vi m], [some (rB bs), some (rI (Clm.sprR left rest (cs.zip bs)))])) .fail
def l41_4 (base : Nat) (kv : List AV) (H : Hp) : Tree (Out × List AV × Hp) := match Nat.beq base 0, kv, H with
  | true, [(.ps 0 0 0 0), (.sc (.int .i64 left)), (.sc (.int .i64 rest)), (.os 1 0 0 0 true false true), (.sl (.int .i64) cs false), (.sc (.int .i64 m)), (.sc (.int .i64 0))], [some ⟨[.run (.int .u32) bs], true, 42, false, false, none⟩, some ⟨[.run (.int .i64) []], false, 0, false, false, none⟩] => l41_4t cs bs left rest m
  | _, _, _ => .fail
theorem l41_4_ok {T : Tab} (hT : TabOK T) (hlo : loopOf T.fn 41 4 = some (lpc T 41 4)) (h : ∀ (cs bs : List Int) (left rest m : Int) (r : Out × List AV × Hp), (l41_4t cs bs left rest m).val = some r → ∃ mm, lpRun T 41 4 0 (lpc T 41 4) mm [ps 0, vi left, vi rest, osW 1 0, lI cs, vi m, vi 0] [some (rB bs), some (rowI [] 0)] = some r) : ∀ base kv H o kv' H', (l41_4 base kv H).val = some (o, kv', H') → LoopOK T 41 4 base kv H o kv' H' := by
  intro base kv H o kv' H' hv
  unfold l41_4 at hv
  split at hv
  · rename_i hb
    obtain rfl := Nat.eq_of_beq_eq_true hb
    exact loop_ok hT hlo (h _ _ _ _ _ _ hv)
  · cases hv
noncomputable def T31 : Tab := ((((T30).addCall 39 c39).addLoop 40 2 l40_2).addLoop 38 3 l38_3).addLoop 41 4 l41_4
theorem nf40 (cs gs : List Int) : evBody T31 40 [lI cs, lI gs] [] = (bif decide ((↑cs.length : Int) = (↑cs.length : Int)) && Clm.sb cs && Clm.sb gs && decide (gs.length = cs.length) && decide (cs.length ≤ 5) then bif Clm.foundV cs gs then some (.tuple [vi (↑(Clm.iOf cs gs) : Int), vi (↑(Clm.jOf cs gs (Clm.iOf cs gs)) : Int), vb true], []) else some (.tuple [vi 0, vi 0, vb false], []) else none) := by kernel_rfl
def c40t (cs gs : List Int) : Tree (AV × Hp) := .br (Clm.sb cs && Clm.sb gs && decide (gs.length = cs.length) && decide (cs.length ≤ 5)) (.br (Clm.foundV cs gs) (.leaf (.tuple [vi (Clm.iOf cs gs : Nat), vi (Clm.jOf cs gs (Clm.iOf cs gs) : Nat), vb true], [])) (.leaf (.tuple [vi 0, vi 0, vb false], []))) .fail
def c40 (args : List AV) (H : Hp) : Tree (AV × Hp) := match args, H with
  | [(.sl (.int .i64) cs false), (.sl (.int .i64) gs false)], [] => c40t cs gs
  | _, _ => .fail
theorem c40_ok {T : Tab} (hT : TabOK T) (h : ∀ (cs gs : List Int) (r : AV × Hp), (c40t cs gs).val = some r → evBody T 40 [lI cs, lI gs] [] = some r) : ∀ args H v H', (c40 args H).val = some (v, H') → CallOK T 40 args H v H' := by
  intro args H v H' hv
  unfold c40 at hv
  split at hv
  · exact evBody_sound hT (h _ _ _ hv)
  · cases hv
theorem nf38 (cl : List Int) (most h x : Int) : evBody T31 38 [aQ3 h cl x, vi most] [] = (bif decide (List.map (fun (x : AV) => match x with | .run e l => l.length * e.size | _ => 1) [.sc (.int .u8 h), .run (.int .u16) cl, .sc (.int .u16 x)] = List.map (fun (x : AV) => match x with | .run e l => l.length * e.size | _ => 1) ((List.foldl (fun acc f => match acc, zeroC Clm.T31.P 7 f.type with | some a, some c => some (a ++ c) | x, x_1 => none) (some []) [{ name := "Houses", type := 5, offset := 0, embedded := false, tag := "", pkgPath := "", byteOffset := 0 : Go.Field }, { name := "Claims", type := 38, offset := 1, embedded := false, tag := "", pkgPath := "", byteOffset := 2 : Go.Field }, { name := "Worth", type := 37, offset := 6, embedded := false, tag := "", pkgPath := "", byteOffset := 12 : Go.Field }]).getD [])) then bif decide (0 ≤ IntKind.i64.wrap (1 + (IntKind.i64.wrap h).tmod 5)) then bif decide (IntKind.i64.wrap (1 + (IntKind.i64.wrap h).tmod 5) ≤ (↑5 : Int)) then bif decide (5 ≤ cl.length) then bif decide ((↑(IntKind.i64.wrap (1 + (IntKind.i64.wrap h).tmod 5)).toNat : Int) = (↑(IntKind.i64.wrap (1 + (IntKind.i64.wrap h).tmod 5)).toNat : Int)) && decide ((IntKind.i64.wrap (1 + (IntKind.i64.wrap h).tmod 5)).toNat ≤ 5) && decide (cl.length = 5) && Clm.u16B cl && decide (1 ≤ most) && decide (most ≤ 1000) then bif sm (List.map (fun c => 1 + c.tmod most) (List.take (IntKind.i64.wrap (1 + (IntKind.i64.wrap h).tmod 5)).toNat cl)) && Clm.sb (List.map (fun c => 1 + c.tmod most) (List.take (IntKind.i64.wrap (1 + (IntKind.i64.wrap h).tmod 5)).toNat cl)) then bif !decide (IntKind.i64.wrap (Clm.sumI (List.map (fun c => 1 + c.tmod most) (List.take (IntKind.i64.wrap (1 + (IntKind.i64.wrap h).tmod 5)).toNat cl)) + 1) = 0) then some (.tuple [.sc (.int .i64 ((IntKind.i64.wrap x).tmod (IntKind.i64.wrap (Clm.sumI (List.map (fun c => 1 + c.tmod most) (List.take (IntKind.i64.wrap (1 + (IntKind.i64.wrap h).tmod 5)).toNat cl)) + 1)))), .os 0 0 0 (IntKind.i64.wrap (1 + (IntKind.i64.wrap h).tmod 5)).toNat true false true], [some ⟨[.run (.int .i64) (List.map (fun c => 1 + c.tmod most) (List.take (IntKind.i64.wrap (1 + (IntKind.i64.wrap h).tmod 5)).toNat cl))], false, Clm.tyI (List.map (fun c => 1 + c.tmod most) (List.take (IntKind.i64.wrap (1 + (IntKind.i64.wrap h).tmod 5)).toNat cl)), false, false, none⟩]) else none else none else none else none else none else none else none) := by kernel_rfl
def c38t (cl : List Int) (most h x : Int) : Tree (AV × Hp) := .br (Clm.fitB ⟨h, cl, x⟩ && decide (1 ≤ most) && decide (most ≤ 1000)) (.leaf (.tuple [vi (Clm.quW ⟨h, cl, x⟩ most), osW 0 (Clm.quC ⟨h, cl, x⟩ most).length], [some (rI (Clm.quC ⟨h, cl, x⟩ most))])) .fail
def c38 (args : List AV) (H : Hp) : Tree (AV × Hp) := match args, H with
  | [(.agg [.sc (.int .u8 h), .run (.int .u16) cl, .sc (.int .u16 x)] false), (.sc (.int .i64 most))], [] => c38t cl most h x
  | _, _ => .fail
theorem c38_ok {T : Tab} (hT : TabOK T) (h : ∀ (cl : List Int) (most h x : Int) (r : AV × Hp), (c38t cl most h x).val = some r → evBody T 38 [aQ3 h cl x, vi most] [] = some r) : ∀ args H v H', (c38 args H).val = some (v, H') → CallOK T 38 args H v H' := by
  intro args H v H' hv
  unfold c38 at hv
  split at hv
  · exact evBody_sound hT (h _ _ _ _ _ hv)
  · cases hv
theorem nf41 (cs bs : List Int) (w : Int) : evBody T31 41 [vi w, lI cs, aB bs] [] = (bif decide (List.map (fun (x : AV) => match x with | .run e l => l.length * e.size | _ => 1) [.run (.int .u32) bs] = List.map (fun (x : AV) => match x with | .run e l => l.length * e.size | _ => 1) ((some [.run (.int .u32) (List.replicate 5 0)]).getD [])) then bif sm cs && Clm.sb cs then bif decide ((↑cs.length : Int) = (↑cs.length : Int)) && Clm.sprG (IntKind.i64.wrap (120 * w)) (IntKind.i64.wrap (120 * Clm.sumI cs)) cs bs then some (osW 0 cs.length, [some ⟨[.run (.int .i64) (Clm.sprR (IntKind.i64.wrap (120 * w)) (IntKind.i64.wrap (120 * Clm.sumI cs)) (cs.zip bs))], false, Clm.tyI (Clm.sprR (IntKind.i64.wrap (120 * w)) (IntKind.i64.wrap (120 * Clm.sumI cs)) (cs.zip bs)), false, false, none⟩]) else none else none else none) := by kernel_rfl
def c41t (cs bs : List Int) (w : Int) : Tree (AV × Hp) := .br ((Clm.chk w cs == 0) && Clm.u32B bs && decide (bs.length = 5)) (.leaf (osW 0 cs.length, [some (rI (Clm.spread w cs bs))])) .fail
def c41 (args : List AV) (H : Hp) : Tree (AV × Hp) := match args, H with
  | [(.sc (.int .i64 w)), (.sl (.int .i64) cs false), (.agg [.run (.int .u32) bs] false)], [] => c41t cs bs w
  | _, _ => .fail
theorem c41_ok {T : Tab} (hT : TabOK T) (h : ∀ (cs bs : List Int) (w : Int) (r : AV × Hp), (c41t cs bs w).val = some r → evBody T 41 [vi w, lI cs, aB bs] [] = some r) : ∀ args H v H', (c41 args H).val = some (v, H') → CallOK T 41 args H v H' := by
  intro args H v H' hv
  unfold c41 at hv
  split at hv
  · exact evBody_sound hT (h _ _ _ _ hv)
  · cases hv
noncomputable def T32 : Tab := (((T31).addCall 40 c40).addCall 38 c38).addCall 41 c41
theorem nf10 (a b x : Int) : evBody T32 10 [vint .u16 a, vint .u16 b, vint .u16 x] [] = (bif !decide (IntKind.i64.wrap (IntKind.i64.wrap (IntKind.i64.wrap (1 + (IntKind.i64.wrap a).tmod 1000) + IntKind.i64.wrap (1 + (IntKind.i64.wrap b).tmod 1000)) + 1) = 0) then bif Clm.chk ((IntKind.i64.wrap x).tmod (IntKind.i64.wrap (IntKind.i64.wrap (IntKind.i64.wrap (1 + (IntKind.i64.wrap a).tmod 1000) + IntKind.i64.wrap (1 + (IntKind.i64.wrap b).tmod 1000)) + 1))) [IntKind.i64.wrap (1 + (IntKind.i64.wrap a).tmod 1000), IntKind.i64.wrap (1 + (IntKind.i64.wrap b).tmod 1000)] == 0 then bif decide (2 * (IntKind.i64.wrap x).tmod (IntKind.i64.wrap (IntKind.i64.wrap (IntKind.i64.wrap (1 + (IntKind.i64.wrap a).tmod 1000) + IntKind.i64.wrap (1 + (IntKind.i64.wrap b).tmod 1000)) + 1)) ≤ Clm.sumI [IntKind.i64.wrap (1 + (IntKind.i64.wrap a).tmod 1000), IntKind.i64.wrap (1 + (IntKind.i64.wrap b).tmod 1000)]) then bif Clm.chk ((IntKind.i64.wrap x).tmod (IntKind.i64.wrap (IntKind.i64.wrap (IntKind.i64.wrap (1 + (IntKind.i64.wrap a).tmod 1000) + IntKind.i64.wrap (1 + (IntKind.i64.wrap b).tmod 1000)) + 1))) [IntKind.i64.wrap (1 + (IntKind.i64.wrap a).tmod 1000), IntKind.i64.wrap (1 + (IntKind.i64.wrap b).tmod 1000)] == 0 then bif Clm.chk ((IntKind.i64.wrap x).tmod (IntKind.i64.wrap (IntKind.i64.wrap (IntKind.i64.wrap (1 + (IntKind.i64.wrap a).tmod 1000) + IntKind.i64.wrap (1 + (IntKind.i64.wrap b).tmod 1000)) + 1))) [IntKind.i64.wrap (1 + (IntKind.i64.wrap a).tmod 1000), IntKind.i64.wrap (1 + (IntKind.i64.wrap b).tmod 1000)] == 0 then bif Clm.chk (IntKind.i64.wrap (IntKind.i64.wrap (IntKind.i64.wrap (1 + (IntKind.i64.wrap a).tmod 1000) + IntKind.i64.wrap (1 + (IntKind.i64.wrap b).tmod 1000)) + 1)) [IntKind.i64.wrap (1 + (IntKind.i64.wrap a).tmod 1000), IntKind.i64.wrap (1 + (IntKind.i64.wrap b).tmod 1000)] == 1 then bif Clm.sm3 (IntKind.i64.wrap (120 * (IntKind.i64.wrap x).tmod (IntKind.i64.wrap (IntKind.i64.wrap (IntKind.i64.wrap (1 + (IntKind.i64.wrap a).tmod 1000) + IntKind.i64.wrap (1 + (IntKind.i64.wrap b).tmod 1000)) + 1)))) (IntKind.i64.wrap (120 * IntKind.i64.wrap (1 + (IntKind.i64.wrap a).tmod 1000))) (IntKind.i64.wrap (120 * IntKind.i64.wrap (1 + (IntKind.i64.wrap b).tmod 1000))) then bif IntKind.i64.wrap (2 * Clm.two1 ((IntKind.i64.wrap x).tmod (IntKind.i64.wrap (IntKind.i64.wrap (IntKind.i64.wrap (1 + (IntKind.i64.wrap a).tmod 1000) + IntKind.i64.wrap (1 + (IntKind.i64.wrap b).tmod 1000)) + 1))) (IntKind.i64.wrap (1 + (IntKind.i64.wrap a).tmod 1000)) (IntKind.i64.wrap (1 + (IntKind.i64.wrap b).tmod 1000))) == Clm.pairV (IntKind.i64.wrap (120 * (IntKind.i64.wrap x).tmod (IntKind.i64.wrap (IntKind.i64.wrap (IntKind.i64.wrap (1 + (IntKind.i64.wrap a).tmod 1000) + IntKind.i64.wrap (1 + (IntKind.i64.wrap b).tmod 1000)) + 1)))) (IntKind.i64.wrap (120 * IntKind.i64.wrap (1 + (IntKind.i64.wrap a).tmod 1000))) (IntKind.i64.wrap (120 * IntKind.i64.wrap (1 + (IntKind.i64.wrap b).tmod 1000))) then bif IntKind.i64.wrap (Clm.two1 ((IntKind.i64.wrap x).tmod (IntKind.i64.wrap (IntKind.i64.wrap (IntKind.i64.wrap (1 + (IntKind.i64.wrap a).tmod 1000) + IntKind.i64.wrap (1 + (IntKind.i64.wrap b).tmod 1000)) + 1))) (IntKind.i64.wrap (1 + (IntKind.i64.wrap a).tmod 1000)) (IntKind.i64.wrap (1 + (IntKind.i64.wrap b).tmod 1000)) + Clm.two2 ((IntKind.i64.wrap x).tmod (IntKind.i64.wrap (IntKind.i64.wrap (IntKind.i64.wrap (1 + (IntKind.i64.wrap a).tmod 1000) + IntKind.i64.wrap (1 + (IntKind.i64.wrap b).tmod 1000)) + 1))) (IntKind.i64.wrap (1 + (IntKind.i64.wrap a).tmod 1000)) (IntKind.i64.wrap (1 + (IntKind.i64.wrap b).tmod 1000))) == IntKind.i64.wrap (120 * (IntKind.i64.wrap x).tmod (IntKind.i64.wrap (IntKind.i64.wrap (IntKind.i64.wrap (1 + (IntKind.i64.wrap a).tmod 1000) + IntKind.i64.wrap (1 + (IntKind.i64.wrap b).tmod 1000)) + 1))) then bif sm (Clm.divV ((IntKind.i64.wrap x).tmod (IntKind.i64.wrap (IntKind.i64.wrap (IntKind.i64.wrap (1 + (IntKind.i64.wrap a).tmod 1000) + IntKind.i64.wrap (1 + (IntKind.i64.wrap b).tmod 1000)) + 1))) [IntKind.i64.wrap (1 + (IntKind.i64.wrap a).tmod 1000), IntKind.i64.wrap (1 + (IntKind.i64.wrap b).tmod 1000)]) then bif decide (Clm.divV ((IntKind.i64.wrap x).tmod (IntKind.i64.wrap (IntKind.i64.wrap (IntKind.i64.wrap (1 + (IntKind.i64.wrap a).tmod 1000) + IntKind.i64.wrap (1 + (IntKind.i64.wrap b).tmod 1000)) + 1))) [IntKind.i64.wrap (1 + (IntKind.i64.wrap a).tmod 1000), IntKind.i64.wrap (1 + (IntKind.i64.wrap b).tmod 1000)] = [Clm.two1 ((IntKind.i64.wrap x).tmod (IntKind.i64.wrap (IntKind.i64.wrap (IntKind.i64.wrap (1 + (IntKind.i64.wrap a).tmod 1000) + IntKind.i64.wrap (1 + (IntKind.i64.wrap b).tmod 1000)) + 1))) (IntKind.i64.wrap (1 + (IntKind.i64.wrap a).tmod 1000)) (IntKind.i64.wrap (1 + (IntKind.i64.wrap b).tmod 1000)), Clm.two2 ((IntKind.i64.wrap x).tmod (IntKind.i64.wrap (IntKind.i64.wrap (IntKind.i64.wrap (1 + (IntKind.i64.wrap a).tmod 1000) + IntKind.i64.wrap (1 + (IntKind.i64.wrap b).tmod 1000)) + 1))) (IntKind.i64.wrap (1 + (IntKind.i64.wrap a).tmod 1000)) (IntKind.i64.wrap (1 + (IntKind.i64.wrap b).tmod 1000))]) then bif sm (Clm.avgV ((IntKind.i64.wrap x).tmod (IntKind.i64.wrap (IntKind.i64.wrap (IntKind.i64.wrap (1 + (IntKind.i64.wrap a).tmod 1000) + IntKind.i64.wrap (1 + (IntKind.i64.wrap b).tmod 1000)) + 1))) [IntKind.i64.wrap (1 + (IntKind.i64.wrap a).tmod 1000), IntKind.i64.wrap (1 + (IntKind.i64.wrap b).tmod 1000)]) then bif decide (Clm.avgV ((IntKind.i64.wrap x).tmod (IntKind.i64.wrap (IntKind.i64.wrap (IntKind.i64.wrap (1 + (IntKind.i64.wrap a).tmod 1000) + IntKind.i64.wrap (1 + (IntKind.i64.wrap b).tmod 1000)) + 1))) [IntKind.i64.wrap (1 + (IntKind.i64.wrap a).tmod 1000), IntKind.i64.wrap (1 + (IntKind.i64.wrap b).tmod 1000)] = [Clm.two1 ((IntKind.i64.wrap x).tmod (IntKind.i64.wrap (IntKind.i64.wrap (IntKind.i64.wrap (1 + (IntKind.i64.wrap a).tmod 1000) + IntKind.i64.wrap (1 + (IntKind.i64.wrap b).tmod 1000)) + 1))) (IntKind.i64.wrap (1 + (IntKind.i64.wrap a).tmod 1000)) (IntKind.i64.wrap (1 + (IntKind.i64.wrap b).tmod 1000)), Clm.two2 ((IntKind.i64.wrap x).tmod (IntKind.i64.wrap (IntKind.i64.wrap (IntKind.i64.wrap (1 + (IntKind.i64.wrap a).tmod 1000) + IntKind.i64.wrap (1 + (IntKind.i64.wrap b).tmod 1000)) + 1))) (IntKind.i64.wrap (1 + (IntKind.i64.wrap a).tmod 1000)) (IntKind.i64.wrap (1 + (IntKind.i64.wrap b).tmod 1000))]) then some (vb true, []) else some (vb false, []) else none else some (vb false, []) else none else some (vb false, []) else some (vb false, []) else none else some (vb false, []) else some (vb false, []) else bif Clm.chk ((IntKind.i64.wrap x).tmod (IntKind.i64.wrap (IntKind.i64.wrap (IntKind.i64.wrap (1 + (IntKind.i64.wrap a).tmod 1000) + IntKind.i64.wrap (1 + (IntKind.i64.wrap b).tmod 1000)) + 1))) [IntKind.i64.wrap (1 + (IntKind.i64.wrap a).tmod 1000), IntKind.i64.wrap (1 + (IntKind.i64.wrap b).tmod 1000)] == 0 then bif Clm.chk ((IntKind.i64.wrap x).tmod (IntKind.i64.wrap (IntKind.i64.wrap (IntKind.i64.wrap (1 + (IntKind.i64.wrap a).tmod 1000) + IntKind.i64.wrap (1 + (IntKind.i64.wrap b).tmod 1000)) + 1))) [IntKind.i64.wrap (1 + (IntKind.i64.wrap a).tmod 1000), IntKind.i64.wrap (1 + (IntKind.i64.wrap b).tmod 1000)] == 0 then bif Clm.chk (IntKind.i64.wrap (IntKind.i64.wrap (IntKind.i64.wrap (1 + (IntKind.i64.wrap a).tmod 1000) + IntKind.i64.wrap (1 + (IntKind.i64.wrap b).tmod 1000)) + 1)) [IntKind.i64.wrap (1 + (IntKind.i64.wrap a).tmod 1000), IntKind.i64.wrap (1 + (IntKind.i64.wrap b).tmod 1000)] == 1 then bif Clm.sm3 (IntKind.i64.wrap (120 * (IntKind.i64.wrap x).tmod (IntKind.i64.wrap (IntKind.i64.wrap (IntKind.i64.wrap (1 + (IntKind.i64.wrap a).tmod 1000) + IntKind.i64.wrap (1 + (IntKind.i64.wrap b).tmod 1000)) + 1)))) (IntKind.i64.wrap (120 * IntKind.i64.wrap (1 + (IntKind.i64.wrap a).tmod 1000))) (IntKind.i64.wrap (120 * IntKind.i64.wrap (1 + (IntKind.i64.wrap b).tmod 1000))) then bif IntKind.i64.wrap (2 * Clm.two1 ((IntKind.i64.wrap x).tmod (IntKind.i64.wrap (IntKind.i64.wrap (IntKind.i64.wrap (1 + (IntKind.i64.wrap a).tmod 1000) + IntKind.i64.wrap (1 + (IntKind.i64.wrap b).tmod 1000)) + 1))) (IntKind.i64.wrap (1 + (IntKind.i64.wrap a).tmod 1000)) (IntKind.i64.wrap (1 + (IntKind.i64.wrap b).tmod 1000))) == Clm.pairV (IntKind.i64.wrap (120 * (IntKind.i64.wrap x).tmod (IntKind.i64.wrap (IntKind.i64.wrap (IntKind.i64.wrap (1 + (IntKind.i64.wrap a).tmod 1000) + IntKind.i64.wrap (1 + (IntKind.i64.wrap b).tmod 1000)) + 1)))) (IntKind.i64.wrap (120 * IntKind.i64.wrap (1 + (IntKind.i64.wrap a).tmod 1000))) (IntKind.i64.wrap (120 * IntKind.i64.wrap (1 + (IntKind.i64.wrap b).tmod 1000))) then bif IntKind.i64.wrap (Clm.two1 ((IntKind.i64.wrap x).tmod (IntKind.i64.wrap (IntKind.i64.wrap (IntKind.i64.wrap (1 + (IntKind.i64.wrap a).tmod 1000) + IntKind.i64.wrap (1 + (IntKind.i64.wrap b).tmod 1000)) + 1))) (IntKind.i64.wrap (1 + (IntKind.i64.wrap a).tmod 1000)) (IntKind.i64.wrap (1 + (IntKind.i64.wrap b).tmod 1000)) + Clm.two2 ((IntKind.i64.wrap x).tmod (IntKind.i64.wrap (IntKind.i64.wrap (IntKind.i64.wrap (1 + (IntKind.i64.wrap a).tmod 1000) + IntKind.i64.wrap (1 + (IntKind.i64.wrap b).tmod 1000)) + 1))) (IntKind.i64.wrap (1 + (IntKind.i64.wrap a).tmod 1000)) (IntKind.i64.wrap (1 + (IntKind.i64.wrap b).tmod 1000))) == IntKind.i64.wrap (120 * (IntKind.i64.wrap x).tmod (IntKind.i64.wrap (IntKind.i64.wrap (IntKind.i64.wrap (1 + (IntKind.i64.wrap a).tmod 1000) + IntKind.i64.wrap (1 + (IntKind.i64.wrap b).tmod 1000)) + 1))) then bif sm (Clm.divV ((IntKind.i64.wrap x).tmod (IntKind.i64.wrap (IntKind.i64.wrap (IntKind.i64.wrap (1 + (IntKind.i64.wrap a).tmod 1000) + IntKind.i64.wrap (1 + (IntKind.i64.wrap b).tmod 1000)) + 1))) [IntKind.i64.wrap (1 + (IntKind.i64.wrap a).tmod 1000), IntKind.i64.wrap (1 + (IntKind.i64.wrap b).tmod 1000)]) then bif decide (Clm.divV ((IntKind.i64.wrap x).tmod (IntKind.i64.wrap (IntKind.i64.wrap (IntKind.i64.wrap (1 + (IntKind.i64.wrap a).tmod 1000) + IntKind.i64.wrap (1 + (IntKind.i64.wrap b).tmod 1000)) + 1))) [IntKind.i64.wrap (1 + (IntKind.i64.wrap a).tmod 1000), IntKind.i64.wrap (1 + (IntKind.i64.wrap b).tmod 1000)] = [Clm.two1 ((IntKind.i64.wrap x).tmod (IntKind.i64.wrap (IntKind.i64.wrap (IntKind.i64.wrap (1 + (IntKind.i64.wrap a).tmod 1000) + IntKind.i64.wrap (1 + (IntKind.i64.wrap b).tmod 1000)) + 1))) (IntKind.i64.wrap (1 + (IntKind.i64.wrap a).tmod 1000)) (IntKind.i64.wrap (1 + (IntKind.i64.wrap b).tmod 1000)), Clm.two2 ((IntKind.i64.wrap x).tmod (IntKind.i64.wrap (IntKind.i64.wrap (IntKind.i64.wrap (1 + (IntKind.i64.wrap a).tmod 1000) + IntKind.i64.wrap (1 + (IntKind.i64.wrap b).tmod 1000)) + 1))) (IntKind.i64.wrap (1 + (IntKind.i64.wrap a).tmod 1000)) (IntKind.i64.wrap (1 + (IntKind.i64.wrap b).tmod 1000))]) then some (vb false, []) else some (vb false, []) else none else some (vb false, []) else some (vb false, []) else none else some (vb false, []) else some (vb false, []) else some (vb false, []) else bif Clm.chk ((IntKind.i64.wrap x).tmod (IntKind.i64.wrap (IntKind.i64.wrap (IntKind.i64.wrap (1 + (IntKind.i64.wrap a).tmod 1000) + IntKind.i64.wrap (1 + (IntKind.i64.wrap b).tmod 1000)) + 1))) [IntKind.i64.wrap (1 + (IntKind.i64.wrap a).tmod 1000), IntKind.i64.wrap (1 + (IntKind.i64.wrap b).tmod 1000)] == 0 then bif Clm.chk ((IntKind.i64.wrap x).tmod (IntKind.i64.wrap (IntKind.i64.wrap (IntKind.i64.wrap (1 + (IntKind.i64.wrap a).tmod 1000) + IntKind.i64.wrap (1 + (IntKind.i64.wrap b).tmod 1000)) + 1))) [IntKind.i64.wrap (1 + (IntKind.i64.wrap a).tmod 1000), IntKind.i64.wrap (1 + (IntKind.i64.wrap b).tmod 1000)] == 0 then bif Clm.chk (IntKind.i64.wrap (IntKind.i64.wrap (IntKind.i64.wrap (1 + (IntKind.i64.wrap a).tmod 1000) + IntKind.i64.wrap (1 + (IntKind.i64.wrap b).tmod 1000)) + 1)) [IntKind.i64.wrap (1 + (IntKind.i64.wrap a).tmod 1000), IntKind.i64.wrap (1 + (IntKind.i64.wrap b).tmod 1000)] == 1 then bif Clm.sm3 (IntKind.i64.wrap (120 * (IntKind.i64.wrap x).tmod (IntKind.i64.wrap (IntKind.i64.wrap (IntKind.i64.wrap (1 + (IntKind.i64.wrap a).tmod 1000) + IntKind.i64.wrap (1 + (IntKind.i64.wrap b).tmod 1000)) + 1)))) (IntKind.i64.wrap (120 * IntKind.i64.wrap (1 + (IntKind.i64.wrap a).tmod 1000))) (IntKind.i64.wrap (120 * IntKind.i64.wrap (1 + (IntKind.i64.wrap b).tmod 1000))) then bif IntKind.i64.wrap (2 * Clm.two1 ((IntKind.i64.wrap x).tmod (IntKind.i64.wrap (IntKind.i64.wrap (IntKind.i64.wrap (1 + (IntKind.i64.wrap a).tmod 1000) + IntKind.i64.wrap (1 + (IntKind.i64.wrap b).tmod 1000)) + 1))) (IntKind.i64.wrap (1 + (IntKind.i64.wrap a).tmod 1000)) (IntKind.i64.wrap (1 + (IntKind.i64.wrap b).tmod 1000))) == Clm.pairV (IntKind.i64.wrap (120 * (IntKind.i64.wrap x).tmod (IntKind.i64.wrap (IntKind.i64.wrap (IntKind.i64.wrap (1 + (IntKind.i64.wrap a).tmod 1000) + IntKind.i64.wrap (1 + (IntKind.i64.wrap b).tmod 1000)) + 1)))) (IntKind.i64.wrap (120 * IntKind.i64.wrap (1 + (IntKind.i64.wrap a).tmod 1000))) (IntKind.i64.wrap (120 * IntKind.i64.wrap (1 + (IntKind.i64.wrap b).tmod 1000))) then bif IntKind.i64.wrap (Clm.two1 ((IntKind.i64.wrap x).tmod (IntKind.i64.wrap (IntKind.i64.wrap (IntKind.i64.wrap (1 + (IntKind.i64.wrap a).tmod 1000) + IntKind.i64.wrap (1 + (IntKind.i64.wrap b).tmod 1000)) + 1))) (IntKind.i64.wrap (1 + (IntKind.i64.wrap a).tmod 1000)) (IntKind.i64.wrap (1 + (IntKind.i64.wrap b).tmod 1000)) + Clm.two2 ((IntKind.i64.wrap x).tmod (IntKind.i64.wrap (IntKind.i64.wrap (IntKind.i64.wrap (1 + (IntKind.i64.wrap a).tmod 1000) + IntKind.i64.wrap (1 + (IntKind.i64.wrap b).tmod 1000)) + 1))) (IntKind.i64.wrap (1 + (IntKind.i64.wrap a).tmod 1000)) (IntKind.i64.wrap (1 + (IntKind.i64.wrap b).tmod 1000))) == IntKind.i64.wrap (120 * (IntKind.i64.wrap x).tmod (IntKind.i64.wrap (IntKind.i64.wrap (IntKind.i64.wrap (1 + (IntKind.i64.wrap a).tmod 1000) + IntKind.i64.wrap (1 + (IntKind.i64.wrap b).tmod 1000)) + 1))) then bif sm (Clm.divV ((IntKind.i64.wrap x).tmod (IntKind.i64.wrap (IntKind.i64.wrap (IntKind.i64.wrap (1 + (IntKind.i64.wrap a).tmod 1000) + IntKind.i64.wrap (1 + (IntKind.i64.wrap b).tmod 1000)) + 1))) [IntKind.i64.wrap (1 + (IntKind.i64.wrap a).tmod 1000), IntKind.i64.wrap (1 + (IntKind.i64.wrap b).tmod 1000)]) then bif decide (Clm.divV ((IntKind.i64.wrap x).tmod (IntKind.i64.wrap (IntKind.i64.wrap (IntKind.i64.wrap (1 + (IntKind.i64.wrap a).tmod 1000) + IntKind.i64.wrap (1 + (IntKind.i64.wrap b).tmod 1000)) + 1))) [IntKind.i64.wrap (1 + (IntKind.i64.wrap a).tmod 1000), IntKind.i64.wrap (1 + (IntKind.i64.wrap b).tmod 1000)] = [Clm.two1 ((IntKind.i64.wrap x).tmod (IntKind.i64.wrap (IntKind.i64.wrap (IntKind.i64.wrap (1 + (IntKind.i64.wrap a).tmod 1000) + IntKind.i64.wrap (1 + (IntKind.i64.wrap b).tmod 1000)) + 1))) (IntKind.i64.wrap (1 + (IntKind.i64.wrap a).tmod 1000)) (IntKind.i64.wrap (1 + (IntKind.i64.wrap b).tmod 1000)), Clm.two2 ((IntKind.i64.wrap x).tmod (IntKind.i64.wrap (IntKind.i64.wrap (IntKind.i64.wrap (1 + (IntKind.i64.wrap a).tmod 1000) + IntKind.i64.wrap (1 + (IntKind.i64.wrap b).tmod 1000)) + 1))) (IntKind.i64.wrap (1 + (IntKind.i64.wrap a).tmod 1000)) (IntKind.i64.wrap (1 + (IntKind.i64.wrap b).tmod 1000))]) then bif sm (Clm.avgV ((IntKind.i64.wrap x).tmod (IntKind.i64.wrap (IntKind.i64.wrap (IntKind.i64.wrap (1 + (IntKind.i64.wrap a).tmod 1000) + IntKind.i64.wrap (1 + (IntKind.i64.wrap b).tmod 1000)) + 1))) [IntKind.i64.wrap (1 + (IntKind.i64.wrap a).tmod 1000), IntKind.i64.wrap (1 + (IntKind.i64.wrap b).tmod 1000)]) then bif decide (Clm.avgV ((IntKind.i64.wrap x).tmod (IntKind.i64.wrap (IntKind.i64.wrap (IntKind.i64.wrap (1 + (IntKind.i64.wrap a).tmod 1000) + IntKind.i64.wrap (1 + (IntKind.i64.wrap b).tmod 1000)) + 1))) [IntKind.i64.wrap (1 + (IntKind.i64.wrap a).tmod 1000), IntKind.i64.wrap (1 + (IntKind.i64.wrap b).tmod 1000)] = [Clm.two1 ((IntKind.i64.wrap x).tmod (IntKind.i64.wrap (IntKind.i64.wrap (IntKind.i64.wrap (1 + (IntKind.i64.wrap a).tmod 1000) + IntKind.i64.wrap (1 + (IntKind.i64.wrap b).tmod 1000)) + 1))) (IntKind.i64.wrap (1 + (IntKind.i64.wrap a).tmod 1000)) (IntKind.i64.wrap (1 + (IntKind.i64.wrap b).tmod 1000)), Clm.two2 ((IntKind.i64.wrap x).tmod (IntKind.i64.wrap (IntKind.i64.wrap (IntKind.i64.wrap (1 + (IntKind.i64.wrap a).tmod 1000) + IntKind.i64.wrap (1 + (IntKind.i64.wrap b).tmod 1000)) + 1))) (IntKind.i64.wrap (1 + (IntKind.i64.wrap a).tmod 1000)) (IntKind.i64.wrap (1 + (IntKind.i64.wrap b).tmod 1000))]) then some (vb true, []) else some (vb false, []) else none else some (vb false, []) else none else some (vb false, []) else some (vb false, []) else none else some (vb false, []) else some (vb false, []) else bif Clm.chk ((IntKind.i64.wrap x).tmod (IntKind.i64.wrap (IntKind.i64.wrap (IntKind.i64.wrap (1 + (IntKind.i64.wrap a).tmod 1000) + IntKind.i64.wrap (1 + (IntKind.i64.wrap b).tmod 1000)) + 1))) [IntKind.i64.wrap (1 + (IntKind.i64.wrap a).tmod 1000), IntKind.i64.wrap (1 + (IntKind.i64.wrap b).tmod 1000)] == 0 then bif Clm.chk ((IntKind.i64.wrap x).tmod (IntKind.i64.wrap (IntKind.i64.wrap (IntKind.i64.wrap (1 + (IntKind.i64.wrap a).tmod 1000) + IntKind.i64.wrap (1 + (IntKind.i64.wrap b).tmod 1000)) + 1))) [IntKind.i64.wrap (1 + (IntKind.i64.wrap a).tmod 1000), IntKind.i64.wrap (1 + (IntKind.i64.wrap b).tmod 1000)] == 0 then bif Clm.chk (IntKind.i64.wrap (IntKind.i64.wrap (IntKind.i64.wrap (1 + (IntKind.i64.wrap a).tmod 1000) + IntKind.i64.wrap (1 + (IntKind.i64.wrap b).tmod 1000)) + 1)) [IntKind.i64.wrap (1 + (IntKind.i64.wrap a).tmod 1000), IntKind.i64.wrap (1 + (IntKind.i64.wrap b).tmod 1000)] == 1 then bif Clm.sm3 (IntKind.i64.wrap (120 * (IntKind.i64.wrap x).tmod (IntKind.i64.wrap (IntKind.i64.wrap (IntKind.i64.wrap (1 + (IntKind.i64.wrap a).tmod 1000) + IntKind.i64.wrap (1 + (IntKind.i64.wrap b).tmod 1000)) + 1)))) (IntKind.i64.wrap (120 * IntKind.i64.wrap (1 + (IntKind.i64.wrap a).tmod 1000))) (IntKind.i64.wrap (120 * IntKind.i64.wrap (1 + (IntKind.i64.wrap b).tmod 1000))) then bif IntKind.i64.wrap (2 * Clm.two1 ((IntKind.i64.wrap x).tmod (IntKind.i64.wrap (IntKind.i64.wrap (IntKind.i64.wrap (1 + (IntKind.i64.wrap a).tmod 1000) + IntKind.i64.wrap (1 + (IntKind.i64.wrap b).tmod 1000)) + 1))) (IntKind.i64.wrap (1 + (IntKind.i64.wrap a).tmod 1000)) (IntKind.i64.wrap (1 + (IntKind.i64.wrap b).tmod 1000))) == Clm.pairV (IntKind.i64.wrap (120 * (IntKind.i64.wrap x).tmod (IntKind.i64.wrap (IntKind.i64.wrap (IntKind.i64.wrap (1 + (IntKind.i64.wrap a).tmod 1000) + IntKind.i64.wrap (1 + (IntKind.i64.wrap b).tmod 1000)) + 1)))) (IntKind.i64.wrap (120 * IntKind.i64.wrap (1 + (IntKind.i64.wrap a).tmod 1000))) (IntKind.i64.wrap (120 * IntKind.i64.wrap (1 + (IntKind.i64.wrap b).tmod 1000))) then bif IntKind.i64.wrap (Clm.two1 ((IntKind.i64.wrap x).tmod (IntKind.i64.wrap (IntKind.i64.wrap (IntKind.i64.wrap (1 + (IntKind.i64.wrap a).tmod 1000) + IntKind.i64.wrap (1 + (IntKind.i64.wrap b).tmod 1000)) + 1))) (IntKind.i64.wrap (1 + (IntKind.i64.wrap a).tmod 1000)) (IntKind.i64.wrap (1 + (IntKind.i64.wrap b).tmod 1000)) + Clm.two2 ((IntKind.i64.wrap x).tmod (IntKind.i64.wrap (IntKind.i64.wrap (IntKind.i64.wrap (1 + (IntKind.i64.wrap a).tmod 1000) + IntKind.i64.wrap (1 + (IntKind.i64.wrap b).tmod 1000)) + 1))) (IntKind.i64.wrap (1 + (IntKind.i64.wrap a).tmod 1000)) (IntKind.i64.wrap (1 + (IntKind.i64.wrap b).tmod 1000))) == IntKind.i64.wrap (120 * (IntKind.i64.wrap x).tmod (IntKind.i64.wrap (IntKind.i64.wrap (IntKind.i64.wrap (1 + (IntKind.i64.wrap a).tmod 1000) + IntKind.i64.wrap (1 + (IntKind.i64.wrap b).tmod 1000)) + 1))) then bif sm (Clm.divV ((IntKind.i64.wrap x).tmod (IntKind.i64.wrap (IntKind.i64.wrap (IntKind.i64.wrap (1 + (IntKind.i64.wrap a).tmod 1000) + IntKind.i64.wrap (1 + (IntKind.i64.wrap b).tmod 1000)) + 1))) [IntKind.i64.wrap (1 + (IntKind.i64.wrap a).tmod 1000), IntKind.i64.wrap (1 + (IntKind.i64.wrap b).tmod 1000)]) then bif decide (Clm.divV ((IntKind.i64.wrap x).tmod (IntKind.i64.wrap (IntKind.i64.wrap (IntKind.i64.wrap (1 + (IntKind.i64.wrap a).tmod 1000) + IntKind.i64.wrap (1 + (IntKind.i64.wrap b).tmod 1000)) + 1))) [IntKind.i64.wrap (1 + (IntKind.i64.wrap a).tmod 1000), IntKind.i64.wrap (1 + (IntKind.i64.wrap b).tmod 1000)] = [Clm.two1 ((IntKind.i64.wrap x).tmod (IntKind.i64.wrap (IntKind.i64.wrap (IntKind.i64.wrap (1 + (IntKind.i64.wrap a).tmod 1000) + IntKind.i64.wrap (1 + (IntKind.i64.wrap b).tmod 1000)) + 1))) (IntKind.i64.wrap (1 + (IntKind.i64.wrap a).tmod 1000)) (IntKind.i64.wrap (1 + (IntKind.i64.wrap b).tmod 1000)), Clm.two2 ((IntKind.i64.wrap x).tmod (IntKind.i64.wrap (IntKind.i64.wrap (IntKind.i64.wrap (1 + (IntKind.i64.wrap a).tmod 1000) + IntKind.i64.wrap (1 + (IntKind.i64.wrap b).tmod 1000)) + 1))) (IntKind.i64.wrap (1 + (IntKind.i64.wrap a).tmod 1000)) (IntKind.i64.wrap (1 + (IntKind.i64.wrap b).tmod 1000))]) then some (vb false, []) else some (vb false, []) else none else some (vb false, []) else some (vb false, []) else none else some (vb false, []) else some (vb false, []) else some (vb false, []) else bif Clm.chk ((IntKind.i64.wrap x).tmod (IntKind.i64.wrap (IntKind.i64.wrap (IntKind.i64.wrap (1 + (IntKind.i64.wrap a).tmod 1000) + IntKind.i64.wrap (1 + (IntKind.i64.wrap b).tmod 1000)) + 1))) [IntKind.i64.wrap (1 + (IntKind.i64.wrap a).tmod 1000), IntKind.i64.wrap (1 + (IntKind.i64.wrap b).tmod 1000)] == 0 then bif Clm.chk ((IntKind.i64.wrap x).tmod (IntKind.i64.wrap (IntKind.i64.wrap (IntKind.i64.wrap (1 + (IntKind.i64.wrap a).tmod 1000) + IntKind.i64.wrap (1 + (IntKind.i64.wrap b).tmod 1000)) + 1))) [IntKind.i64.wrap (1 + (IntKind.i64.wrap a).tmod 1000), IntKind.i64.wrap (1 + (IntKind.i64.wrap b).tmod 1000)] == 0 then bif Clm.chk ((IntKind.i64.wrap x).tmod (IntKind.i64.wrap (IntKind.i64.wrap (IntKind.i64.wrap (1 + (IntKind.i64.wrap a).tmod 1000) + IntKind.i64.wrap (1 + (IntKind.i64.wrap b).tmod 1000)) + 1))) [IntKind.i64.wrap (1 + (IntKind.i64.wrap a).tmod 1000), IntKind.i64.wrap (1 + (IntKind.i64.wrap b).tmod 1000)] == 0 then bif Clm.chk (IntKind.i64.wrap (IntKind.i64.wrap (IntKind.i64.wrap (1 + (IntKind.i64.wrap a).tmod 1000) + IntKind.i64.wrap (1 + (IntKind.i64.wrap b).tmod 1000)) + 1)) [IntKind.i64.wrap (1 + (IntKind.i64.wrap a).tmod 1000), IntKind.i64.wrap (1 + (IntKind.i64.wrap b).tmod 1000)] == 1 then bif Clm.sm3 (IntKind.i64.wrap (120 * (IntKind.i64.wrap x).tmod (IntKind.i64.wrap (IntKind.i64.wrap (IntKind.i64.wrap (1 + (IntKind.i64.wrap a).tmod 1000) + IntKind.i64.wrap (1 + (IntKind.i64.wrap b).tmod 1000)) + 1)))) (IntKind.i64.wrap (120 * IntKind.i64.wrap (1 + (IntKind.i64.wrap a).tmod 1000))) (IntKind.i64.wrap (120 * IntKind.i64.wrap (1 + (IntKind.i64.wrap b).tmod 1000))) then bif IntKind.i64.wrap (2 * Clm.two1 ((IntKind.i64.wrap x).tmod (IntKind.i64.wrap (IntKind.i64.wrap (IntKind.i64.wrap (1 + (IntKind.i64.wrap a).tmod 1000) + IntKind.i64.wrap (1 + (IntKind.i64.wrap b).tmod 1000)) + 1))) (IntKind.i64.wrap (1 + (IntKind.i64.wrap a).tmod 1000)) (IntKind.i64.wrap (1 + (IntKind.i64.wrap b).tmod 1000))) == Clm.pairV (IntKind.i64.wrap (120 * (IntKind.i64.wrap x).tmod (IntKind.i64.wrap (IntKind.i64.wrap (IntKind.i64.wrap (1 + (IntKind.i64.wrap a).tmod 1000) + IntKind.i64.wrap (1 + (IntKind.i64.wrap b).tmod 1000)) + 1)))) (IntKind.i64.wrap (120 * IntKind.i64.wrap (1 + (IntKind.i64.wrap a).tmod 1000))) (IntKind.i64.wrap (120 * IntKind.i64.wrap (1 + (IntKind.i64.wrap b).tmod 1000))) then bif IntKind.i64.wrap (Clm.two1 ((IntKind.i64.wrap x).tmod (IntKind.i64.wrap (IntKind.i64.wrap (IntKind.i64.wrap (1 + (IntKind.i64.wrap a).tmod 1000) + IntKind.i64.wrap (1 + (IntKind.i64.wrap b).tmod 1000)) + 1))) (IntKind.i64.wrap (1 + (IntKind.i64.wrap a).tmod 1000)) (IntKind.i64.wrap (1 + (IntKind.i64.wrap b).tmod 1000)) + Clm.two2 ((IntKind.i64.wrap x).tmod (IntKind.i64.wrap (IntKind.i64.wrap (IntKind.i64.wrap (1 + (IntKind.i64.wrap a).tmod 1000) + IntKind.i64.wrap (1 + (IntKind.i64.wrap b).tmod 1000)) + 1))) (IntKind.i64.wrap (1 + (IntKind.i64.wrap a).tmod 1000)) (IntKind.i64.wrap (1 + (IntKind.i64.wrap b).tmod 1000))) == IntKind.i64.wrap (120 * (IntKind.i64.wrap x).tmod (IntKind.i64.wrap (IntKind.i64.wrap (IntKind.i64.wrap (1 + (IntKind.i64.wrap a).tmod 1000) + IntKind.i64.wrap (1 + (IntKind.i64.wrap b).tmod 1000)) + 1))) then some (vb false, []) else some (vb false, []) else some (vb false, []) else none else some (vb false, []) else some (vb false, []) else some (vb false, []) else bif Clm.chk ((IntKind.i64.wrap x).tmod (IntKind.i64.wrap (IntKind.i64.wrap (IntKind.i64.wrap (1 + (IntKind.i64.wrap a).tmod 1000) + IntKind.i64.wrap (1 + (IntKind.i64.wrap b).tmod 1000)) + 1))) [IntKind.i64.wrap (1 + (IntKind.i64.wrap a).tmod 1000), IntKind.i64.wrap (1 + (IntKind.i64.wrap b).tmod 1000)] == 0 then bif Clm.chk ((IntKind.i64.wrap x).tmod (IntKind.i64.wrap (IntKind.i64.wrap (IntKind.i64.wrap (1 + (IntKind.i64.wrap a).tmod 1000) + IntKind.i64.wrap (1 + (IntKind.i64.wrap b).tmod 1000)) + 1))) [IntKind.i64.wrap (1 + (IntKind.i64.wrap a).tmod 1000), IntKind.i64.wrap (1 + (IntKind.i64.wrap b).tmod 1000)] == 0 then bif Clm.chk ((IntKind.i64.wrap x).tmod (IntKind.i64.wrap (IntKind.i64.wrap (IntKind.i64.wrap (1 + (IntKind.i64.wrap a).tmod 1000) + IntKind.i64.wrap (1 + (IntKind.i64.wrap b).tmod 1000)) + 1))) [IntKind.i64.wrap (1 + (IntKind.i64.wrap a).tmod 1000), IntKind.i64.wrap (1 + (IntKind.i64.wrap b).tmod 1000)] == 0 then bif Clm.chk (IntKind.i64.wrap (IntKind.i64.wrap (IntKind.i64.wrap (1 + (IntKind.i64.wrap a).tmod 1000) + IntKind.i64.wrap (1 + (IntKind.i64.wrap b).tmod 1000)) + 1)) [IntKind.i64.wrap (1 + (IntKind.i64.wrap a).tmod 1000), IntKind.i64.wrap (1 + (IntKind.i64.wrap b).tmod 1000)] == 1 then bif Clm.sm3 (IntKind.i64.wrap (120 * (IntKind.i64.wrap x).tmod (IntKind.i64.wrap (IntKind.i64.wrap (IntKind.i64.wrap (1 + (IntKind.i64.wrap a).tmod 1000) + IntKind.i64.wrap (1 + (IntKind.i64.wrap b).tmod 1000)) + 1)))) (IntKind.i64.wrap (120 * IntKind.i64.wrap (1 + (IntKind.i64.wrap a).tmod 1000))) (IntKind.i64.wrap (120 * IntKind.i64.wrap (1 + (IntKind.i64.wrap b).tmod 1000))) then bif IntKind.i64.wrap (2 * Clm.two1 ((IntKind.i64.wrap x).tmod (IntKind.i64.wrap (IntKind.i64.wrap (IntKind.i64.wrap (1 + (IntKind.i64.wrap a).tmod 1000) + IntKind.i64.wrap (1 + (IntKind.i64.wrap b).tmod 1000)) + 1))) (IntKind.i64.wrap (1 + (IntKind.i64.wrap a).tmod 1000)) (IntKind.i64.wrap (1 + (IntKind.i64.wrap b).tmod 1000))) == Clm.pairV (IntKind.i64.wrap (120 * (IntKind.i64.wrap x).tmod (IntKind.i64.wrap (IntKind.i64.wrap (IntKind.i64.wrap (1 + (IntKind.i64.wrap a).tmod 1000) + IntKind.i64.wrap (1 + (IntKind.i64.wrap b).tmod 1000)) + 1)))) (IntKind.i64.wrap (120 * IntKind.i64.wrap (1 + (IntKind.i64.wrap a).tmod 1000))) (IntKind.i64.wrap (120 * IntKind.i64.wrap (1 + (IntKind.i64.wrap b).tmod 1000))) then bif IntKind.i64.wrap (Clm.two1 ((IntKind.i64.wrap x).tmod (IntKind.i64.wrap (IntKind.i64.wrap (IntKind.i64.wrap (1 + (IntKind.i64.wrap a).tmod 1000) + IntKind.i64.wrap (1 + (IntKind.i64.wrap b).tmod 1000)) + 1))) (IntKind.i64.wrap (1 + (IntKind.i64.wrap a).tmod 1000)) (IntKind.i64.wrap (1 + (IntKind.i64.wrap b).tmod 1000)) + Clm.two2 ((IntKind.i64.wrap x).tmod (IntKind.i64.wrap (IntKind.i64.wrap (IntKind.i64.wrap (1 + (IntKind.i64.wrap a).tmod 1000) + IntKind.i64.wrap (1 + (IntKind.i64.wrap b).tmod 1000)) + 1))) (IntKind.i64.wrap (1 + (IntKind.i64.wrap a).tmod 1000)) (IntKind.i64.wrap (1 + (IntKind.i64.wrap b).tmod 1000))) == IntKind.i64.wrap (120 * (IntKind.i64.wrap x).tmod (IntKind.i64.wrap (IntKind.i64.wrap (IntKind.i64.wrap (1 + (IntKind.i64.wrap a).tmod 1000) + IntKind.i64.wrap (1 + (IntKind.i64.wrap b).tmod 1000)) + 1))) then some (vb false, []) else some (vb false, []) else some (vb false, []) else none else some (vb false, []) else some (vb false, []) else some (vb false, []) else some (vb false, []) else none) := by kernel_rfl
end Go.Ev.Clm
namespace Go.Ev.Clm
open Go Go.Ev
set_option maxRecDepth 1000000
set_option linter.unusedVariables false
set_option linter.unusedSimpArgs false
theorem c42_run : ∀ args H v H', (c42 args H).val = some (v, H') → CallOK T28 42 args H v H' := c42_ok T28_ok (by
  intro w a b r hv
  obtain ⟨hl, hv2⟩ := guard_val hv
  obtain ⟨h1, h2, h3⟩ := sm3_get hl
  rw [leaf_val hv2, nf42, wrapi (x := w - b) (by omega) (by omega), wrapi (x := w - a) (by omega) (by omega), Clm.mx', Clm.mx']
  unfold Clm.pairV
  rw [wrapi (x := max 0 (w - b) + w) (by omega) (by omega), wrapi (by omega) (by omega), show 2 * max 0 (w - b) + w - max 0 (w - b) - max 0 (w - a) = max 0 (w - b) + w - max 0 (w - a) by omega])
theorem c46_run : ∀ args H v H', (c46 args H).val = some (v, H') → CallOK T28 46 args H v H' := c46_ok T28_ok (by
  intro l r hv
  rw [leaf_val hv, nf46])
theorem l44_3_run : ∀ base kv H o kv' H', (l44_3 base kv H).val = some (o, kv', H') → LoopOK T28 44 3 base kv H o kv' H' := l44_3_ok T28_ok (by kernel_rfl) (by
  intro l m r hv
  obtain ⟨hl, hv2⟩ := guard_val hv
  simp only [Bool.and_eq_true, decide_eq_true_eq] at hl
  obtain ⟨⟨rfl, h1⟩, h2⟩ := hl
  have hs := sm_le h1
  obtain ⟨m, hm⟩ := steps_of (T := T28) (fid := 44) (lid := 3) (base := 0) (c := lpc T28 44 3) l.length (fun i => [vi (Clm.sumI (l.take i)), lI l, vi l.length, vi (i : Nat)]) (fun _ => []) (.ext 0, [vi (Clm.sumI l), lI l, vi l.length, vi l.length], [])
    (fun i hi again => by
      obtain ⟨x, hx, hm⟩ := get_i hi
      have b := Clm.sb_take h2 hs i
      have c := Clm.sb_get h2 hm
      rw [nl44, Clm.sumI_take hx]
      simp only [dec_lt hi, dec_ge, cond_true, toNat_cast, hx, oM]
      rw [wrap_succ (by omega), wrapi (by omega) (by omega)])
    (fun again => by
      rw [nl44, List.take_length]
      simp only [dec_ll, cond_false])
  exact ⟨m, hm.trans (by rw [leaf_val hv2])⟩)
theorem okG_at' {cs gs : List Int} (hl : gs.length = cs.length) (hg : Clm.okG cs gs = true) {i : Nat} (hi : i < cs.length) : 0 ≤ gs.getD i 0 ∧ gs.getD i 0 ≤ 120 * cs.getD i 0 := by
  unfold Clm.okG at hg
  rw [List.all_eq_true] at hg
  have h := hg _ (List.mem_of_getElem? (zip_get (getD_of (l := gs) (i := i) (by omega)) (getD_of (l := cs) hi)))
  exact inR_get h
theorem l39_4_run : ∀ base kv H o kv' H', (l39_4 base kv H).val = some (o, kv', H') → LoopOK T28 39 4 base kv H o kv' H' := l39_4_ok T28_ok (by kernel_rfl) (by
  intro cs gs gs2 w m r hv
  obtain ⟨hl, hv2⟩ := guard_val hv
  simp only [Bool.and_eq_true, decide_eq_true_eq] at hl
  obtain ⟨⟨⟨⟨⟨rfl, rfl⟩, h3⟩, h4⟩, h5⟩, h6⟩ := hl
  obtain ⟨m, hm⟩ := steps_of (T := T28) (fid := 39) (lid := 4) (base := 0) (c := lpc T28 39 4) gs2.length (fun i => [vi w, lI cs, lI gs2, vb false, lI gs2, vi gs2.length, vi (i : Nat)]) (fun _ => []) (.ext 0, [vi w, lI cs, lI gs2, vb false, lI gs2, vi gs2.length, vi gs2.length], [])
    (fun i hi again => by
      have g1 := getD_of hi
      have g2 := getD_of (l := cs) (i := i) (by omega)
      have c := Clm.sb_get h5 (List.mem_of_getElem? g2)
      have b := okG_at' h3 h6 (i := i) (by omega)
      rw [nl39]
      simp only [dec_lt hi, dec_lt (show i < cs.length by omega), dec_ge, cond_true, toNat_cast, g1, g2, oM, decide_eq_false (show ¬ gs2.getD i 0 < 0 by omega), cond_false]
      rw [wrapi (x := 120 * cs.getD i 0) (by omega) (by omega), decide_eq_false (by omega), cond_false, wrap_succ (by omega)])
    (fun again => by
      rw [nl39]
      simp only [dec_ll, cond_false])
  exact ⟨m, hm.trans (by rw [leaf_val hv2])⟩)
theorem T29_ok : TabOK T29 := by
  have h := T28_ok
  have h := h.addCall (g := 42) (r := c42) fun a H v H' hv => by refine CallOK.tab ?_ ?_ (c42_run a H v H' hv) <;> rfl
  have h := h.addCall (g := 46) (r := c46) fun a H v H' hv => by refine CallOK.tab ?_ ?_ (c46_run a H v H' hv) <;> rfl
  have h := h.addLoop (g := 44) (lid := 3) (r := l44_3) fun b k H o k' H' hv => by refine LoopOK.tab ?_ ?_ ?_ ?_ (l44_3_run b k H o k' H' hv) <;> rfl
  have h := h.addLoop (g := 39) (lid := 4) (r := l39_4) fun b k H o k' H' hv => by refine LoopOK.tab ?_ ?_ ?_ ?_ (l39_4_run b k H o k' H' hv) <;> rfl
  exact h
theorem c44_run : ∀ args H v H', (c44 args H).val = some (v, H') → CallOK T29 44 args H v H' := c44_ok T29_ok (by
  intro l r hv
  obtain ⟨hl, hv2⟩ := guard_val hv
  rw [leaf_val hv2, nf44]
  rw [Bool.and_eq_true] at hl
  simp only [decide_true, hl.1, hl.2, Bool.and_self, cond_true])
theorem l40_5_run : ∀ base kv H o kv' H', (l40_5 base kv H).val = some (o, kv', H') → LoopOK T29 40 5 base kv H o kv' H' := l40_5_ok T29_ok (by kernel_rfl) (by
  intro cs gs i j m u r hv
  obtain ⟨hl, hv2⟩ := guard_val hv
  simp only [Bool.and_eq_true, decide_eq_true_eq] at hl
  obtain ⟨⟨⟨⟨⟨⟨h1, h2⟩, h3⟩, h4⟩, h5⟩, h6⟩, rfl⟩ := hl
  obtain ⟨i, rfl⟩ := Int.eq_ofNat_of_zero_le h5
  rw [toNat_cast] at hv2
  have hi : i < cs.length := by omega
  have stp : ∀ j : Nat, i < j → j < cs.length → ∀ again : Ag, lpStep T29 40 5 0 (lpc T29 40 5) again [lI cs, lI gs, vi 0, vi 0, vb false, vi i, vi j, vi m, vi u] [] = bif Clm.apartV cs gs i j then some (.ret, [lI cs, lI gs, vi i, vi j, vb true, vi i, vi j, vi m, vi u], []) else again [lI cs, lI gs, vi 0, vi 0, vb false, vi i, vi ((j + 1 : Nat) : Int), vi m, vi u] [] := by
    intro j hij hj again
    obtain ⟨a1, b1⟩ := at0_get (l := gs) (i := (i : Int)) (by omega) (by omega)
    obtain ⟨a2, b2⟩ := at0_get (l := gs) (i := (j : Int)) (by omega) (by omega)
    obtain ⟨a3, b3⟩ := at0_get (l := cs) (i := (i : Int)) (by omega) (by omega)
    obtain ⟨a4, b4⟩ := at0_get (l := cs) (i := (j : Int)) (by omega) (by omega)
    have d1 := Clm.sb_get h2 b1
    have d2 := Clm.sb_get h2 b2
    have d3 := Clm.sb_get h1 b3
    have d4 := Clm.sb_get h1 b4
    rw [nl40_5]
    simp only [dec_lt hj, dec_lt hi, dec_lt (show i < gs.length by omega), dec_lt (show j < gs.length by omega), dec_ge, cond_true, a1, a2, a3, a4, oM]
    rw [wrapi (x := Clm.at0 gs i + Clm.at0 gs j) (by omega) (by omega), wrapi (x := 120 * Clm.at0 cs i) (by omega) (by omega), wrapi (x := 120 * Clm.at0 cs j) (by omega) (by omega), wrapi (x := 2 * Clm.at0 gs i) (by omega) (by omega)]
    refine (cond_t ?_).trans ?_
    · unfold Clm.sm3 Clm.sm1
      simp only [Bool.and_eq_true, decide_eq_true_eq]
      omega
    · rw [wrap_succ (by omega)]
      have : (2 * Clm.at0 gs i != Clm.pairV (Clm.at0 gs i + Clm.at0 gs j) (120 * Clm.at0 cs i) (120 * Clm.at0 cs j)) = Clm.apartV cs gs i j := by
        unfold Clm.apartV
        rw [Clm.gar_pair, bne_comm]
      rw [this]
  rcases br_val hv2 with ⟨hc, hv3⟩ | ⟨hc, hv3⟩
  · have hc := of_decide_eq_true hc
    obtain ⟨g1, g2⟩ := jOf_at hc
    obtain ⟨mm, hm⟩ := steps_of (T := T29) (fid := 40) (lid := 5) (base := 0) (c := lpc T29 40 5) (Clm.jOf cs gs i - (i + 1)) (fun r => [lI cs, lI gs, vi 0, vi 0, vb false, vi i, vi ((i + 1 + r : Nat) : Int), vi m, vi u]) (fun _ => []) (.ret, [lI cs, lI gs, vi i, vi (Clm.jOf cs gs i : Nat), vb true, vi i, vi (Clm.jOf cs gs i : Nat), vi m, vi u], [])
      (fun r hr again => by
        rw [stp (i + 1 + r) (by omega) (by omega) again, jOf_before (i := i) (j := i + 1 + r) (by omega) (by omega) (by omega)]
        rfl)
      (fun again => by
        rw [show i + 1 + (Clm.jOf cs gs i - (i + 1)) = Clm.jOf cs gs i by omega, stp _ g1 hc again, g2]
        rfl)
    exact ⟨mm, hm.trans (by rw [leaf_val hv3])⟩
  · have hc := of_decide_eq_false hc
    have hle := jOf_le cs gs i
    obtain ⟨mm, hm⟩ := steps_of (T := T29) (fid := 40) (lid := 5) (base := 0) (c := lpc T29 40 5) (cs.length - (i + 1)) (fun r => [lI cs, lI gs, vi 0, vi 0, vb false, vi i, vi ((i + 1 + r : Nat) : Int), vi m, vi u]) (fun _ => []) (.ext 2, [lI cs, lI gs, vi 0, vi 0, vb false, vi i, vi cs.length, vi m, vi u], [])
      (fun r hr again => by
        rw [stp (i + 1 + r) (by omega) (by omega) again, jOf_before (i := i) (j := i + 1 + r) (by omega) (by omega) (by omega)]
        rfl)
      (fun again => by
        rw [show i + 1 + (cs.length - (i + 1)) = cs.length by omega, nl40_5]
        simp only [dec_ll, cond_false])
    exact ⟨mm, hm.trans (by rw [leaf_val hv3])⟩)
theorem T30_ok : TabOK T30 := by
  have h := T29_ok
  have h := h.addCall (g := 44) (r := c44) fun a H v H' hv => by refine CallOK.tab ?_ ?_ (c44_run a H v H' hv) <;> rfl
  have h := h.addLoop (g := 40) (lid := 5) (r := l40_5) fun b k H o k' H' hv => by refine LoopOK.tab ?_ ?_ ?_ ?_ (l40_5_run b k H o k' H' hv) <;> rfl
  exact h
theorem c39_run : ∀ args H v H', (c39 args H).val = some (v, H') → CallOK T30 39 args H v H' := c39_ok T30_ok (by
  intro cs gs w r hv
  obtain ⟨hl, hv2⟩ := guard_val hv
  unfold Clm.divB at hl
  simp only [Bool.and_eq_true, decide_eq_true_eq] at hl
  obtain ⟨⟨⟨h1, h2⟩, h3⟩, h4⟩ := hl
  have ok := Clm.ok_of (beq_iff_eq.1 h1)
  have hg := okG_in ok h2 h3
  have hn := ok.len
  have hlo := ok.lo
  have hhi := ok.hi
  have hs := ok.sum
  rw [leaf_val hv2, nf39, wrapi (x := 120 * w) (by omega) (by omega), h4]
  have s1 : sm gs = true := sm_of (k := 5) (by omega) (by omega)
  have s2 : Clm.sb gs = true := Clm.sb_of fun x hx => by have := hg x hx; omega
  rw [show ((gs.length : Int) != (cs.length : Int)) = false by rw [h2]; simp]
  simp only [decide_true, decide_eq_true h2, decide_eq_true hn, sb_ok ok, h3, s1, s2, Bool.and_self, cond_true, cond_false])
theorem l40_2_run : ∀ base kv H o kv' H', (l40_2 base kv H).val = some (o, kv', H') → LoopOK T30 40 2 base kv H o kv' H' := l40_2_ok T30_ok (by kernel_rfl) (by
  intro cs gs m r hv
  obtain ⟨hl, hv2⟩ := guard_val hv
  simp only [Bool.and_eq_true, decide_eq_true_eq] at hl
  obtain ⟨⟨⟨⟨rfl, h1⟩, h2⟩, h3⟩, h4⟩ := hl
  have stp : ∀ i : Nat, i < cs.length → ∀ again : Ag, lpStep T30 40 2 0 (lpc T30 40 2) again [lI cs, lI gs, vi 0, vi 0, vb false, vi cs.length, vi i] [] = bif decide (Clm.jOf cs gs i < cs.length) then some (.ret, [lI cs, lI gs, vi i, vi (Clm.jOf cs gs i : Nat), vb true, vi cs.length, vi i], []) else again [lI cs, lI gs, vi 0, vi 0, vb false, vi cs.length, vi ((i + 1 : Nat) : Int)] [] := by
    intro i hi again
    rw [nl40_2, wrapi (x := (i : Int) + 1) (by omega) (by omega)]
    simp only [dec_lt hi, cond_true, h1, h2, decide_eq_true h3, decide_eq_true h4, dec_ge, decide_true, Bool.and_self, toNat_cast]
    rfl
  rcases br_val hv2 with ⟨hc, hv3⟩ | ⟨hc, hv3⟩
  · have hc := of_decide_eq_true hc
    have hat := iOf_at hc
    obtain ⟨mm, hm⟩ := steps_of (T := T30) (fid := 40) (lid := 2) (base := 0) (c := lpc T30 40 2) (Clm.iOf cs gs) (fun i => [lI cs, lI gs, vi 0, vi 0, vb false, vi cs.length, vi (i : Nat)]) (fun _ => []) (.ret, [lI cs, lI gs, vi (Clm.iOf cs gs : Nat), vi (Clm.jOf cs gs (Clm.iOf cs gs) : Nat), vb true, vi cs.length, vi (Clm.iOf cs gs : Nat)], [])
      (fun i hi again => by rw [stp i (by omega) again, decide_eq_false (iOf_before hi (by omega))]; rfl)
      (fun again => by rw [stp _ hc again, decide_eq_true hat]; rfl)
    exact ⟨mm, hm.trans (by rw [leaf_val hv3])⟩
  · have hc := of_decide_eq_false hc
    have hle := iOf_le cs gs
    obtain ⟨mm, hm⟩ := steps_of (T := T30) (fid := 40) (lid := 2) (base := 0) (c := lpc T30 40 2) cs.length (fun i => [lI cs, lI gs, vi 0, vi 0, vb false, vi cs.length, vi (i : Nat)]) (fun _ => []) (.ext 0, [lI cs, lI gs, vi 0, vi 0, vb false, vi cs.length, vi cs.length], [])
      (fun i hi again => by rw [stp i hi again, decide_eq_false (iOf_before (by omega) hi)]; rfl)
      (fun again => by
        rw [nl40_2]
        simp only [dec_ll, cond_false])
    exact ⟨mm, hm.trans (by rw [leaf_val hv3])⟩)
theorem l38_3_run : ∀ base kv H o kv' H', (l38_3 base kv H).val = some (o, kv', H') → LoopOK T30 38 3 base kv H o kv' H' := l38_3_ok T30_ok (by kernel_rfl) (by
  intro cl most h x m k r hv
  obtain ⟨hl, hv2⟩ := guard_val hv
  simp only [Bool.and_eq_true, decide_eq_true_eq] at hl
  obtain ⟨⟨⟨⟨⟨rfl, h1⟩, h2⟩, h3⟩, h4⟩, h5⟩ := hl
  unfold Clm.u16B at h3
  simp only [List.all_eq_true, Bool.and_eq_true, decide_eq_true_eq] at h3
  have hlen : ∀ i, i ≤ k → ((cl.take i).map fun c => 1 + c.tmod most).length = i := fun i hi => by simp; omega
  obtain ⟨mm, hm⟩ := steps_of (T := T30) (fid := 38) (lid := 3) (base := 0) (c := lpc T30 38 3) k (fun i => [vi most, ps 0, osW 1 ((cl.take i).map fun c => 1 + c.tmod most).length, osQ 0 k, vi k, vi (i : Nat)]) (fun i => [some (rQ h cl x), some (rI ((cl.take i).map fun c => 1 + c.tmod most))]) (.ext 0, [vi most, ps 0, osW 1 ((cl.take k).map fun c => 1 + c.tmod most).length, osQ 0 k, vi k, vi k], [some (rQ h cl x), some (rI ((cl.take k).map fun c => 1 + c.tmod most))])
    (fun i hi again => by
      have g := getD_of (l := cl) (i := i) (by omega)
      have b := h3 _ (List.mem_of_getElem? g)
      have t := Clm.tmod_in b.1 (show 0 < most by omega)
      rw [nl38, Clm.map_take _ g]
      simp only [dec_lt hi, dec_ge, cond_true, toNat_cast, g, oM, decide_eq_false (show ¬ most = 0 by omega), Bool.not_false]
      rw [room_ok (by rw [hlen i (by omega)]; omega) (by omega), cond_true, wrap_succ (by omega), wrapi (x := cl.getD i 0) (by omega) (by omega), wrapi (by omega) (by omega), rI, tyI_snoc, List.length_append, List.length_singleton])
    (fun again => by
      rw [nl38]
      simp only [dec_ll, cond_false])
  rw [hlen k (Nat.le_refl _)] at hm
  exact ⟨mm, hm.trans (by rw [leaf_val hv2])⟩)
theorem l41_4_run : ∀ base kv H o kv' H', (l41_4 base kv H).val = some (o, kv', H') → LoopOK T30 41 4 base kv H o kv' H' := l41_4_ok T30_ok (by kernel_rfl) (by
  intro cs bs left rest m r hv
  obtain ⟨hl, hv2⟩ := guard_val hv
  simp only [Bool.and_eq_true, decide_eq_true_eq] at hl
  obtain ⟨rfl, hg⟩ := hl
  have hg' := hg
  unfold Clm.sprG at hg'
  simp only [Bool.and_eq_true, decide_eq_true_eq] at hg'
  obtain ⟨⟨⟨⟨⟨⟨a, b⟩, c⟩, d⟩, e⟩, f⟩, g⟩ := hg'
  obtain ⟨mm, hm⟩ := steps_of (T := T30) (fid := 41) (lid := 4) (base := 0) (c := lpc T30 41 4) cs.length (fun i => [ps 0, vi (Clm.sprS left rest cs bs i).1, vi (Clm.sprS left rest cs bs i).2.1, osW 1 (Clm.sprS left rest cs bs i).2.2.length, lI cs, vi cs.length, vi (i : Nat)]) (fun i => [some (rB bs), some (rI (Clm.sprS left rest cs bs i).2.2)]) (.ext 0, [ps 0, vi 0, vi 0, osW 1 cs.length, lI cs, vi cs.length, vi cs.length], [some (rB bs), some (rI (Clm.sprR left rest (cs.zip bs)))])
    (fun i hi again => by
      have g1 := getD_of hi
      have g2 := getD_of (l := bs) (i := i) (by omega)
      have hb := Clm.of_u32 g _ (List.mem_of_getElem? g2)
      have inv := Clm.sprS_inv hg i (by omega)
      have nx := Clm.spr_next inv g1 e d hb.1
      have hs := Clm.okC_sum e d i
      have hr := inv.r
      have h0 := inv.l0
      have h1 := inv.l1
      rw [Clm.sprS_succ (by omega) hi]
      have hn := inv.n
      generalize Clm.sprS left rest cs bs i = s at *
      obtain ⟨L, R, out⟩ := s
      simp only at hr h0 h1 nx hn
      have t := Clm.sprX_in (b := bs.getD i 0) h0 h1 (show 0 ≤ cs.getD i 0 by omega) (by omega) hb.1
      simp only [nl41, Clm.sprStep, Clm.sprX]
      simp only [dec_lt hi, show (((5 : Nat) : Int)) = 5 from rfl, decide_eq_true (show (i : Int) < 5 by omega), dec_ge, cond_true, toNat_cast, g1, g2, oM]
      rw [wrapi (x := 120 * cs.getD i 0) (by omega) (by omega), wrapi (x := R - 120 * cs.getD i 0) (by omega) (by omega), wrapi (x := L - (R - 120 * cs.getD i 0)) (by omega) (by omega), wrapi (x := bs.getD i 0) (by omega) (by omega), Clm.mn', Clm.mx']
      generalize hM : min L (120 * cs.getD i 0) - max 0 (L - (R - 120 * cs.getD i 0)) = M at *
      rw [wrapi (x := M) (by omega) (by omega), wrapi (x := M + 1) (by omega) (by omega), decide_eq_false (show ¬ M + 1 = 0 by omega)]
      generalize (bs.getD i 0).tmod (M + 1) = q at *
      rw [wrapi (x := max 0 (L - (R - 120 * cs.getD i 0)) + q) (by omega) (by omega), wrapi (x := L - (max 0 (L - (R - 120 * cs.getD i 0)) + q)) (by omega) (by omega), wrap_succ (by omega)]
      simp only [Bool.not_false, cond_true]
      rw [room_ok (by omega) (by omega), cond_true, rI, tyI_snoc, List.length_append, List.length_singleton])
    (fun again => by
      rw [Clm.sprS_end hg, nl41]
      simp only [dec_ll, cond_false]
      rw [Clm.sprR_len, List.length_zip, Nat.min_eq_left (by omega)])
  exact ⟨mm, hm.trans (by rw [leaf_val hv2])⟩)
theorem T31_ok : TabOK T31 := by
  have h := T30_ok
  have h := h.addCall (g := 39) (r := c39) fun a H v H' hv => by refine CallOK.tab ?_ ?_ (c39_run a H v H' hv) <;> rfl
  have h := h.addLoop (g := 40) (lid := 2) (r := l40_2) fun b k H o k' H' hv => by refine LoopOK.tab ?_ ?_ ?_ ?_ (l40_2_run b k H o k' H' hv) <;> rfl
  have h := h.addLoop (g := 38) (lid := 3) (r := l38_3) fun b k H o k' H' hv => by refine LoopOK.tab ?_ ?_ ?_ ?_ (l38_3_run b k H o k' H' hv) <;> rfl
  have h := h.addLoop (g := 41) (lid := 4) (r := l41_4) fun b k H o k' H' hv => by refine LoopOK.tab ?_ ?_ ?_ ?_ (l41_4_run b k H o k' H' hv) <;> rfl
  exact h
theorem c40_run : ∀ args H v H', (c40 args H).val = some (v, H') → CallOK T31 40 args H v H' := c40_ok T31_ok (by
  intro cs gs r hv
  obtain ⟨hl, hv2⟩ := guard_val hv
  simp only [Bool.and_eq_true, decide_eq_true_eq] at hl
  obtain ⟨⟨⟨h1, h2⟩, h3⟩, h4⟩ := hl
  rw [nf40]
  simp only [decide_true, h1, h2, decide_eq_true h3, decide_eq_true h4, Bool.and_self, cond_true]
  rcases br_val hv2 with ⟨h, hv⟩ | ⟨h, hv⟩ <;> rw [leaf_val hv, h] <;> rfl)
theorem c38_run : ∀ args H v H', (c38 args H).val = some (v, H') → CallOK T31 38 args H v H' := c38_ok T31_ok (by
  intro cl most h x r hv
  obtain ⟨hl, hv2⟩ := guard_val hv
  simp only [Bool.and_eq_true, decide_eq_true_eq] at hl
  obtain ⟨⟨h1, h2⟩, h3⟩ := hl
  have F := Clm.of_fit h1
  have ok := Clm.qu_ok F h2 h3
  have hh := F.h
  have hcl := F.c.1
  have hw := F.w
  simp only at hh hcl hw
  have t := Clm.tmod_in hh.1 (show (0 : Int) < 5 by omega)
  have hu : Clm.u16B cl = true := by
    unfold Clm.fitB at h1
    simp only [Bool.and_eq_true] at h1
    exact h1.1.1.2
  have e1 : IntKind.i64.wrap h = h := wrapi (by omega) (by omega)
  have e2 : IntKind.i64.wrap (1 + h.tmod 5) = 1 + h.tmod 5 := wrapi (by omega) (by omega)
  have e3 : IntKind.i64.wrap x = x := wrapi (by omega) (by omega)
  have eN : (1 + h.tmod 5).toNat = Clm.quN ⟨h, cl, x⟩ := rfl
  have hN := Clm.quN_in F
  have eC : (cl.take (Clm.quN ⟨h, cl, x⟩)).map (fun c => 1 + c.tmod most) = Clm.quC ⟨h, cl, x⟩ most := rfl
  have hl := Clm.quC_len F most
  have hs := ok.sum
  have hlo := ok.lo
  have hhi := ok.hi
  rw [leaf_val hv2, nf38, e1, e2, e3, eN, eC]
  refine (cond_t ?_).trans ?_
  · refine decide_eq_true ?_
    show ([1, cl.length * 1, 1] : List Nat) = _
    rw [hcl]
    kernel_rfl
  rw [wrapi (x := Clm.sumI (Clm.quC ⟨h, cl, x⟩ most) + 1) (by omega) (by omega)]
  simp only [decide_eq_true (show 0 ≤ 1 + h.tmod 5 by omega), show (((5 : Nat) : Int)) = 5 from rfl, decide_eq_true (show 1 + h.tmod 5 ≤ 5 by omega), decide_eq_true (show 5 ≤ cl.length by omega), decide_true, decide_eq_true hN.2, decide_eq_true hcl, hu, decide_eq_true h2, decide_eq_true h3, Bool.and_self, cond_true, sm_of (l := Clm.quC ⟨h, cl, x⟩ most) (k := 5) (by omega) (by omega), sb_ok ok, decide_eq_false (show ¬ Clm.sumI (Clm.quC ⟨h, cl, x⟩ most) + 1 = 0 by omega), Bool.not_false, hl]
  rfl)
theorem c41_run : ∀ args H v H', (c41 args H).val = some (v, H') → CallOK T31 41 args H v H' := c41_ok T31_ok (by
  intro cs bs w r hv
  obtain ⟨hl, hv2⟩ := guard_val hv
  simp only [Bool.and_eq_true, decide_eq_true_eq] at hl
  obtain ⟨⟨h1, h2⟩, h3⟩ := hl
  have ok := Clm.ok_of (beq_iff_eq.1 h1)
  have hn := ok.len
  have hs := ok.sum
  have hlo := ok.lo
  have hhi := ok.hi
  rw [leaf_val hv2, nf41, wrapi (x := 120 * w) (by omega) (by omega), wrapi (x := 120 * Clm.sumI cs) (by omega) (by omega)]
  refine (cond_t ?_).trans ?_
  · refine decide_eq_true ?_
    show ([bs.length * 1] : List Nat) = _
    rw [h3]
    kernel_rfl
  have hg : Clm.sprG (120 * w) (120 * Clm.sumI cs) cs bs = true := by
    unfold Clm.sprG
    rw [decide_eq_true (show 0 ≤ 120 * w by omega), decide_eq_true (show 120 * w ≤ 120 * Clm.sumI cs by omega), decide_eq_true hn, okC_ok ok, decide_eq_true h3, h2]
    simp
  simp only [sm_of (l := cs) (k := 5) hn (by omega), sb_ok ok, decide_true, hg, Bool.and_self, cond_true]
  rfl)
theorem T32_ok : TabOK T32 := by
  have h := T31_ok
  have h := h.addCall (g := 40) (r := c40) fun a H v H' hv => by refine CallOK.tab ?_ ?_ (c40_run a H v H' hv) <;> rfl
  have h := h.addCall (g := 38) (r := c38) fun a H v H' hv => by refine CallOK.tab ?_ ?_ (c38_run a H v H' hv) <;> rfl
  have h := h.addCall (g := 41) (r := c41) fun a H v H' hv => by refine CallOK.tab ?_ ?_ (c41_run a H v H' hv) <;> rfl
  exact h
theorem pair_body (a : Int) (ha : 0 ≤ a ∧ a < 65536) (b : Int) (hb : 0 ≤ b ∧ b < 65536) (x : Int) (hx : 0 ≤ x ∧ x < 65536) : evBody T32 10 [vint .u16 a, vint .u16 b, vint .u16 x] [] = some (vb true, []) := by
  have ta := Clm.tmod_in ha.1 (show (0 : Int) < 1000 by omega)
  have tb := Clm.tmod_in hb.1 (show (0 : Int) < 1000 by omega)
  rw [nf10, wrapi (x := a) (by omega) (by omega), wrapi (x := b) (by omega) (by omega), wrapi (x := x) (by omega) (by omega), wrapi (x := 1 + a.tmod 1000) (by omega) (by omega), wrapi (x := 1 + b.tmod 1000) (by omega) (by omega)]
  generalize a.tmod 1000 = a0 at *
  generalize b.tmod 1000 = b0 at *
  generalize hA : 1 + a0 = A at *
  generalize hB : 1 + b0 = B at *
  rw [wrapi (x := A + B) (by omega) (by omega), wrapi (x := A + B + 1) (by omega) (by omega)]
  have tw := Clm.tmod_in hx.1 (show 0 < A + B + 1 by omega)
  generalize x.tmod (A + B + 1) = w at *
  have hA' : 1 ≤ A ∧ A ≤ 1000 := by omega
  have hB' : 1 ≤ B ∧ B ≤ 1000 := by omega
  have hw1 : w ≤ A + B := by omega
  have ok := Clm.two_ok hA' hB' tw.1 hw1
  have v := Clm.two_val hA' hB' tw.1 hw1
  have i := Clm.two_in hA' hB' tw.1 hw1
  rw [Clm.two_div hA' hB' tw.1 hw1, Clm.two_avg hA' hB' tw.1 hw1, Clm.two_no hA' hB', Clm.ok_iff ok, wrapi (x := 120 * w) (by omega) (by omega), wrapi (x := 120 * A) (by omega) (by omega), wrapi (x := 120 * B) (by omega) (by omega), ← v.1, v.2, wrapi (x := 2 * Clm.two1 w A B) (by omega) (by omega), wrapi (x := Clm.two1 w A B + (120 * w - Clm.two1 w A B)) (by omega) (by omega)]
  have s3 : Clm.sm3 (120 * w) (120 * A) (120 * B) = true := by
    unfold Clm.sm3 Clm.sm1
    simp only [Bool.and_eq_true, decide_eq_true_eq]
    omega
  have s2 : sm [Clm.two1 w A B, 120 * w - Clm.two1 w A B] = true := rfl
  have e5 : (Clm.two1 w A B + (120 * w - Clm.two1 w A B) == 120 * w) = true := beq_iff_eq.2 (by omega)
  simp only [decide_eq_false (show ¬ A + B + 1 = 0 by omega), Bool.not_false, cond_true, beq_self_eq_true, s3, s2, e5, decide_true, Bool.cond_self]
end Go.Ev.Clm
