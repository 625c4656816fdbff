/- The claim chapter: divisions checked, two houses: tables and normal forms. -/
import Derived.Test.YtfemekpcgieldaaTc
import Derived.Test.YtfemekpcgieldaaSa
import Derived.Test.YtfemekpcgieldaaTd
import Derived.Test.YtfemekpcgieldaaWy
set_option linter.unusedVariables false
set_option linter.unusedSimpArgs false
namespace Go.Ev.Clm
open Go Go.Ev
set_option maxRecDepth 1000000
set_option linter.unusedVariables false
def l23_4t (a b : List Int) : Tree (Out × List AV × Hp) := .br (sm a && decide (a.length = b.length)) (.br (decide (a = b)) (.leaf (.ext 0, [lI a, lI b, vb false, vi a.length], [])) (.leaf (.ret, [lI a, lI b, vb false, vi ((a.zip b).findIdx fun x => x.1 != x.2 : Nat)], []))) .fail
def l23_4 (base : Nat) (kv : List AV) (H : Hp) : Tree (Out × List AV × Hp) := match Nat.beq base 0, kv, H with
  | true, [(.sl (.int .i64) a false), (.sl (.int .i64) b false), (.sc (.bool false)), (.sc (.int .i64 0))], [] => l23_4t a b
  | _, _, _ => .fail
theorem l23_4_ok {T : Tab} (hT : TabOK T) (hlo : loopOf T.fn 23 4 = some (lpc T 23 4)) (h : ∀ (a b : List Int) (r : Out × List AV × Hp), (l23_4t a b).val = some r → ∃ mm, lpRun T 23 4 0 (lpc T 23 4) mm [lI a, lI b, vb false, vi 0] [] = some r) : ∀ base kv H o kv' H', (l23_4 base kv H).val = some (o, kv', H') → LoopOK T 23 4 base kv H o kv' H' := by
  intro base kv H o kv' H' hv
  unfold l23_4 at hv
  split at hv
  · rename_i hb
    obtain rfl := Nat.eq_of_beq_eq_true hb
    exact loop_ok hT hlo (h _ _ _ hv)
  · cases hv
def l34_8t (cs gs : List Int) (L m : Int) : Tree (Out × List AV × Hp) := .br (decide (m = gs.length) && decide (gs.length = cs.length) && decide (cs.length ≤ 5) && Clm.okC cs && Clm.sm1 L) (.br (Clm.okG cs gs) (.leaf (.ext 1, [lI cs, vi 0, vi (L - Clm.sumI gs), lI gs, vi m, vi m], [])) (.leaf (.ret, [lI cs, vi 1, vi (L - Clm.sumI (gs.take (Clm.badG cs gs))), lI gs, vi m, vi (Clm.badG cs gs : Nat)], []))) .fail
def l34_8 (base : Nat) (kv : List AV) (H : Hp) : Tree (Out × List AV × Hp) := match Nat.beq base 0, kv, H with
  | true, [(.sl (.int .i64) cs false), (.sc (.int .i64 0)), (.sc (.int .i64 L)), (.sl (.int .i64) gs false), (.sc (.int .i64 m)), (.sc (.int .i64 0))], [] => l34_8t cs gs L m
  | _, _, _ => .fail
theorem l34_8_ok {T : Tab} (hT : TabOK T) (hlo : loopOf T.fn 34 8 = some (lpc T 34 8)) (h : ∀ (cs gs : List Int) (L m : Int) (r : Out × List AV × Hp), (l34_8t cs gs L m).val = some r → ∃ mm, lpRun T 34 8 0 (lpc T 34 8) mm [lI cs, vi 0, vi L, lI gs, vi m, vi 0] [] = some r) : ∀ base kv H o kv' H', (l34_8 base kv H).val = some (o, kv', H') → LoopOK T 34 8 base kv H o kv' H' := by
  intro base kv H o kv' H' hv
  unfold l34_8 at hv
  split at hv
  · rename_i hb
    obtain rfl := Nat.eq_of_beq_eq_true hb
    exact loop_ok hT hlo (h _ _ _ _ _ hv)
  · cases hv
def l35_5t (cs gs : List Int) (w e : Int) : Tree (Out × List AV × Hp) := .br (e == 0) (.br (decide (gs.length = cs.length) && decide (cs.length ≤ 5) && Clm.okC cs) (.br (Clm.okG cs gs) (.leaf (.ext 0, [vi w, lI cs, lI gs, vi 0, vi gs.length], [])) (.leaf (.ext 0, [vi w, lI cs, lI gs, vi 1, vi ((Clm.badG cs gs + 1 : Nat) : Int)], []))) .fail) (.leaf (.ext 0, [vi w, lI cs, lI gs, vi e, vi 0], []))
def l35_5 (base : Nat) (kv : List AV) (H : Hp) : Tree (Out × List AV × Hp) := match Nat.beq base 0, kv, H with
  | true, [(.sc (.int .i64 w)), (.sl (.int .i64) cs false), (.sl (.int .i64) gs false), (.sc (.int .i64 e)), (.sc (.int .i64 0))], [] => l35_5t cs gs w e
  | _, _, _ => .fail
theorem l35_5_ok {T : Tab} (hT : TabOK T) (hlo : loopOf T.fn 35 5 = some (lpc T 35 5)) (h : ∀ (cs gs : List Int) (w e : Int) (r : Out × List AV × Hp), (l35_5t cs gs w e).val = some r → ∃ mm, lpRun T 35 5 0 (lpc T 35 5) mm [vi w, lI cs, lI gs, vi e, vi 0] [] = some r) : ∀ base kv H o kv' H', (l35_5 base kv H).val = some (o, kv', H') → LoopOK T 35 5 base kv H o kv' H' := by
  intro base kv H o kv' H' hv
  unfold l35_5 at hv
  split at hv
  · rename_i hb
    obtain rfl := Nat.eq_of_beq_eq_true hb
    exact loop_ok hT hlo (h _ _ _ _ _ hv)
  · cases hv
theorem nl23 (again : Ag) (a b : List Int) (i : Int) : lpStep T11 23 4 0 (lpc T11 23 4) again [lI a, lI b, vb false, vi i] [] = (bif decide (i < (↑a.length : Int)) then bif decide (0 ≤ i) then bif decide (i < (↑a.length : Int)) then oM a[i.toNat]? fun x => bif decide (0 ≤ i) then bif decide (i < (↑b.length : Int)) then oM b[i.toNat]? fun x_1 => bif x != x_1 then some (.ret, [.sl (.int .i64) a false, .sl (.int .i64) b false, vb false, vi i], []) else again [.sl (.int .i64) a false, .sl (.int .i64) b false, vb false, vi (IntKind.i64.wrap (i + 1))] [] else none else none else none else none else some (.ext 0, [.sl (.int .i64) a false, .sl (.int .i64) b false, vb false, vi i], [])) := by kernel_rfl
theorem nl34 (again : Ag) (cs gs : List Int) (L i : Int) : lpStep T11 34 8 0 (lpc T11 34 8) again [lI cs, vi 0, vi L, lI gs, vi gs.length, vi i] [] = (bif decide (i < (↑gs.length : Int)) then bif decide (0 ≤ i) then bif decide (i < (↑gs.length : Int)) then oM gs[i.toNat]? fun x => bif decide (0 ≤ i) then bif decide (i < (↑cs.length : Int)) then oM cs[i.toNat]? fun x_1 => bif !Clm.inR x 0 (IntKind.i64.wrap (120 * x_1)) then some (.ret, [.sl (.int .i64) cs false, vi 1, vi L, .sl (.int .i64) gs false, vi (↑gs.length : Int), vi i], []) else again [.sl (.int .i64) cs false, vi 0, vi (IntKind.i64.wrap (L - x)), .sl (.int .i64) gs false, vi (↑gs.length : Int), vi (IntKind.i64.wrap (i + 1))] [] else none else none else none else none else some (.ext 1, [.sl (.int .i64) cs false, vi 0, vi L, .sl (.int .i64) gs false, vi (↑gs.length : Int), vi i], [])) := by kernel_rfl
theorem nl35 (again : Ag) (cs gs : List Int) (w e i : Int) : lpStep T11 35 5 0 (lpc T11 35 5) again [vi w, lI cs, lI gs, vi e, vi i] [] = (bif decide (i < (↑gs.length : Int)) then bif e == 0 then bif decide (0 ≤ i) then bif decide (i < (↑gs.length : Int)) then oM gs[i.toNat]? fun x => bif decide (0 ≤ i) then bif decide (i < (↑cs.length : Int)) then oM cs[i.toNat]? fun x_1 => bif !Clm.inR x 0 (IntKind.i64.wrap (120 * x_1)) then again [vi w, .sl (.int .i64) cs false, .sl (.int .i64) gs false, vi 1, vi (IntKind.i64.wrap (i + 1))] [] else again [vi w, .sl (.int .i64) cs false, .sl (.int .i64) gs false, vi e, vi (IntKind.i64.wrap (i + 1))] [] else none else none else none else none else some (.ext 0, [vi w, .sl (.int .i64) cs false, .sl (.int .i64) gs false, vi e, vi i], []) else some (.ext 0, [vi w, .sl (.int .i64) cs false, .sl (.int .i64) gs false, vi e, vi i], [])) := by kernel_rfl
theorem nf70 (cs gs : List Int) (i j : Int) : evBody T11 70 [lI cs, lI gs, vi i, vi j] [] = (bif decide (0 ≤ i) then bif decide (i < (↑gs.length : Int)) then oM gs[i.toNat]? fun x => bif decide (0 ≤ j) then bif decide (j < (↑gs.length : Int)) then oM gs[j.toNat]? fun x_1 => bif decide (0 ≤ i) then bif decide (i < (↑cs.length : Int)) then oM cs[i.toNat]? fun x_2 => bif decide (0 ≤ j) then bif decide (j < (↑cs.length : Int)) then oM cs[j.toNat]? fun x_3 => bif Clm.sm3 (IntKind.i64.wrap (x + x_1)) (IntKind.i64.wrap (120 * x_2)) (IntKind.i64.wrap (120 * x_3)) then bif decide (0 ≤ i) then bif decide (i < (↑gs.length : Int)) then oM gs[i.toNat]? fun x_4 => some (vb ((Clm.gar (IntKind.i64.wrap (x + x_1)) (IntKind.i64.wrap (120 * x_2)) (IntKind.i64.wrap (120 * x_3))).fst != IntKind.i64.wrap (2 * x_4)), []) else none else none else none else none else none else none else none else none else none else none else none) := by kernel_rfl
theorem nf71 (cs gs : List Int) (i j : Int) : evBody T11 71 [lI cs, lI gs, vi i, vi j] [] = (bif decide (0 ≤ i) then bif decide (i < (↑gs.length : Int)) then oM gs[i.toNat]? fun x => bif decide (0 ≤ i) then bif decide (i < (↑gs.length : Int)) then oM gs[i.toNat]? fun x_1 => bif decide (0 ≤ j) then bif decide (j < (↑gs.length : Int)) then oM gs[j.toNat]? fun x_2 => bif decide (0 ≤ i) then bif decide (i < (↑cs.length : Int)) then oM cs[i.toNat]? fun x_3 => bif decide (0 ≤ j) then bif decide (j < (↑cs.length : Int)) then oM cs[j.toNat]? fun x_4 => bif Clm.sm3 (IntKind.i64.wrap (x_1 + x_2)) (IntKind.i64.wrap (120 * x_3)) (IntKind.i64.wrap (120 * x_4)) then some (vb (IntKind.i64.wrap (2 * x) == Clm.pairV (IntKind.i64.wrap (x_1 + x_2)) (IntKind.i64.wrap (120 * x_3)) (IntKind.i64.wrap (120 * x_4))), []) else none else none else none else none else none else none else none else none else none else none else none) := by kernel_rfl
theorem nf26 (w a b : Int) : evBody T11 26 [vi w, vi a, vi b] [] = (bif Clm.chk w [a, b] != 0 then some (.tuple [vi 0, vi 0, vi (Clm.chk w [a, b])], []) else bif Clm.sm3 (IntKind.i64.wrap (120 * w)) (IntKind.i64.wrap (120 * a)) (IntKind.i64.wrap (120 * b)) then some (.tuple [.sc (.int .i64 (IntKind.i64.wrap ((Clm.gar (IntKind.i64.wrap (120 * w)) (IntKind.i64.wrap (120 * a)) (IntKind.i64.wrap (120 * b))).fst.tdiv 2))), .sc (.int .i64 (IntKind.i64.wrap ((Clm.gar (IntKind.i64.wrap (120 * w)) (IntKind.i64.wrap (120 * a)) (IntKind.i64.wrap (120 * b))).snd.tdiv 2))), vi 0], []) else none) := by kernel_rfl
theorem nf27 (w a b : Int) : evBody T11 27 [vi w, vi a, vi b] [] = (bif Clm.chk w [a, b] != 0 then some (.tuple [vi 0, vi 0, vi (Clm.chk w [a, b])], []) else bif Clm.sm3 (IntKind.i64.wrap (120 * w)) (IntKind.i64.wrap (120 * a)) (IntKind.i64.wrap (120 * b)) then some (.tuple [.sc (.int .i64 (IntKind.i64.wrap ((Clm.pairV (IntKind.i64.wrap (120 * w)) (IntKind.i64.wrap (120 * a)) (IntKind.i64.wrap (120 * b))).tdiv 2))), .sc (.int .i64 (IntKind.i64.wrap (IntKind.i64.wrap (120 * w) - IntKind.i64.wrap ((Clm.pairV (IntKind.i64.wrap (120 * w)) (IntKind.i64.wrap (120 * a)) (IntKind.i64.wrap (120 * b))).tdiv 2)))), vi 0], []) else none) := by kernel_rfl
def c70t (cs gs : List Int) (i j : Int) : Tree (AV × Hp) := .br (Clm.sb cs && Clm.sb gs && decide (gs.length = cs.length) && decide (0 ≤ i) && decide (i < cs.length) && decide (0 ≤ j) && decide (j < cs.length)) (.leaf (vb (Clm.apartV cs gs i j), [])) .fail
def c70 (args : List AV) (H : Hp) : Tree (AV × Hp) := match args, H with
  | [(.sl (.int .i64) cs false), (.sl (.int .i64) gs false), (.sc (.int .i64 i)), (.sc (.int .i64 j))], [] => c70t cs gs i j
  | _, _ => .fail
theorem c70_ok {T : Tab} (hT : TabOK T) (h : ∀ (cs gs : List Int) (i j : Int) (r : AV × Hp), (c70t cs gs i j).val = some r → evBody T 70 [lI cs, lI gs, vi i, vi j] [] = some r) : ∀ args H v H', (c70 args H).val = some (v, H') → CallOK T 70 args H v H' := by
  intro args H v H' hv
  unfold c70 at hv
  split at hv
  · exact evBody_sound hT (h _ _ _ _ _ hv)
  · cases hv
def c71t (cs gs : List Int) (i j : Int) : Tree (AV × Hp) := .br (Clm.sb cs && Clm.sb gs && decide (gs.length = cs.length) && decide (0 ≤ i) && decide (i < cs.length) && decide (0 ≤ j) && decide (j < cs.length)) (.leaf (vb (Clm.oneV cs gs i j), [])) .fail
def c71 (args : List AV) (H : Hp) : Tree (AV × Hp) := match args, H with
  | [(.sl (.int .i64) cs false), (.sl (.int .i64) gs false), (.sc (.int .i64 i)), (.sc (.int .i64 j))], [] => c71t cs gs i j
  | _, _ => .fail
theorem c71_ok {T : Tab} (hT : TabOK T) (h : ∀ (cs gs : List Int) (i j : Int) (r : AV × Hp), (c71t cs gs i j).val = some r → evBody T 71 [lI cs, lI gs, vi i, vi j] [] = some r) : ∀ args H v H', (c71 args H).val = some (v, H') → CallOK T 71 args H v H' := by
  intro args H v H' hv
  unfold c71 at hv
  split at hv
  · exact evBody_sound hT (h _ _ _ _ _ hv)
  · cases hv
def c26t (w a b : Int) : Tree (AV × Hp) := .leaf (.tuple [vi (Clm.two1 w a b), vi (Clm.two2 w a b), vi (Clm.chk w [a, b])], [])
def c26 (args : List AV) (H : Hp) : Tree (AV × Hp) := match args, H with
  | [(.sc (.int .i64 w)), (.sc (.int .i64 a)), (.sc (.int .i64 b))], [] => c26t w a b
  | _, _ => .fail
theorem c26_ok {T : Tab} (hT : TabOK T) (h : ∀ (w a b : Int) (r : AV × Hp), (c26t w a b).val = some r → evBody T 26 [vi w, vi a, vi b] [] = some r) : ∀ args H v H', (c26 args H).val = some (v, H') → CallOK T 26 args H v H' := by
  intro args H v H' hv
  unfold c26 at hv
  split at hv
  · exact evBody_sound hT (h _ _ _ _ hv)
  · cases hv
def c27t (w a b : Int) : Tree (AV × Hp) := .leaf (.tuple [vi (Clm.two1 w a b), vi (Clm.two2 w a b), vi (Clm.chk w [a, b])], [])
def c27 (args : List AV) (H : Hp) : Tree (AV × Hp) := match args, H with
  | [(.sc (.int .i64 w)), (.sc (.int .i64 a)), (.sc (.int .i64 b))], [] => c27t w a b
  | _, _ => .fail
theorem c27_ok {T : Tab} (hT : TabOK T) (h : ∀ (w a b : Int) (r : AV × Hp), (c27t w a b).val = some r → evBody T 27 [vi w, vi a, vi b] [] = some r) : ∀ args H v H', (c27 args H).val = some (v, H') → CallOK T 27 args H v H' := by
  intro args H v H' hv
  unfold c27 at hv
  split at hv
  · exact evBody_sound hT (h _ _ _ _ hv)
  · cases hv
noncomputable def T12 : Tab := (((((((T11).addLoop 23 4 l23_4).addLoop 34 8 l34_8).addLoop 35 5 l35_5).addCall 70 c70).addCall 71 c71).addCall 26 c26).addCall 27 c27
theorem nf23 (a b : List Int) : evBody T12 23 [lI a, lI b] [] = (bif (↑a.length : Int) != (↑b.length : Int) then some (vb false, []) else bif sm a && decide (a.length = b.length) then bif decide (a = b) then some (vb true, []) else some (vb false, []) else none) := by kernel_rfl
theorem nf34 (cs gs : List Int) (w : Int) : evBody T12 34 [vi w, lI cs, lI gs] [] = (bif Clm.chk w cs != 0 then some (vi (Clm.chk w cs), []) else bif (↑gs.length : Int) != (↑cs.length : Int) then some (vi 5, []) else bif decide ((↑gs.length : Int) = (↑gs.length : Int)) && decide (gs.length = cs.length) && decide (cs.length ≤ 5) && Clm.okC cs && Clm.sm1 (IntKind.i64.wrap (120 * w)) then bif Clm.okG cs gs then bif IntKind.i64.wrap (120 * w) - Clm.sumI gs != 0 then some (vi 17, []) else some (vi 0, []) else some (vi 1, []) else none) := by kernel_rfl
theorem nf35 (cs gs : List Int) (w : Int) : evBody T12 35 [vi w, lI cs, lI gs] [] = (bif Clm.chk w cs == 0 then bif (↑gs.length : Int) != (↑cs.length : Int) then some (vi 5, []) else bif Clm.chk w cs == 0 then bif decide (gs.length = cs.length) && decide (cs.length ≤ 5) && Clm.okC cs then bif Clm.okG cs gs then bif sm gs && Clm.sb gs then bif Clm.sumI gs != IntKind.i64.wrap (120 * w) then some (vi 17, []) else some (vi 0, []) else none else some (vi 1, []) else none else bif Clm.chk w cs == 0 then bif sm gs && Clm.sb gs then bif Clm.sumI gs != IntKind.i64.wrap (120 * w) then some (vi 17, []) else some (vi (Clm.chk w cs), []) else none else some (vi (Clm.chk w cs), []) else bif Clm.chk w cs == 0 then bif decide (gs.length = cs.length) && decide (cs.length ≤ 5) && Clm.okC cs then bif Clm.okG cs gs then bif sm gs && Clm.sb gs then bif Clm.sumI gs != IntKind.i64.wrap (120 * w) then some (vi 17, []) else some (vi 0, []) else none else some (vi 1, []) else none else bif Clm.chk w cs == 0 then bif sm gs && Clm.sb gs then bif Clm.sumI gs != IntKind.i64.wrap (120 * w) then some (vi 17, []) else some (vi (Clm.chk w cs), []) else none else some (vi (Clm.chk w cs), [])) := by kernel_rfl
theorem nl33_8 (again : Ag) (cs gs : List Int) (i j : Int) : lpStep T12 33 8 0 (lpc T12 33 8) again [lI cs, lI gs, vi 0, vi 0, vi 0, vi i, vi j] [] = (bif decide (j < (↑cs.length : Int)) then bif Clm.sb cs && Clm.sb gs && decide (gs.length = cs.length) && decide (0 ≤ i) && decide (i < (↑cs.length : Int)) && decide (0 ≤ j) && decide (j < (↑cs.length : Int)) then bif !Clm.oneV cs gs i j then some (.ret, [.sl (.int .i64) cs false, .sl (.int .i64) gs false, vi i, vi j, vi 0, vi i, vi j], []) else again [.sl (.int .i64) cs false, .sl (.int .i64) gs false, vi 0, vi 0, vi 0, vi i, vi (IntKind.i64.wrap (j + 1))] [] else none else some (.ext 2, [.sl (.int .i64) cs false, .sl (.int .i64) gs false, vi 0, vi 0, vi 0, vi i, vi j], [])) := by kernel_rfl
def c23t (a b : List Int) : Tree (AV × Hp) := .br (sm a) (.leaf (vb (decide (a = b)), [])) .fail
def c23 (args : List AV) (H : Hp) : Tree (AV × Hp) := match args, H with
  | [(.sl (.int .i64) a false), (.sl (.int .i64) b false)], [] => c23t a b
  | _, _ => .fail
theorem c23_ok {T : Tab} (hT : TabOK T) (h : ∀ (a b : List Int) (r : AV × Hp), (c23t a b).val = some r → evBody T 23 [lI a, lI b] [] = some r) : ∀ args H v H', (c23 args H).val = some (v, H') → CallOK T 23 args H v H' := by
  intro args H v H' hv
  unfold c23 at hv
  split at hv
  · exact evBody_sound hT (h _ _ _ hv)
  · cases hv
def c34t (cs gs : List Int) (w : Int) : Tree (AV × Hp) := .leaf (vi (Clm.validV w cs gs), [])
def c34 (args : List AV) (H : Hp) : Tree (AV × Hp) := match args, H with
  | [(.sc (.int .i64 w)), (.sl (.int .i64) cs false), (.sl (.int .i64) gs false)], [] => c34t cs gs w
  | _, _ => .fail
theorem c34_ok {T : Tab} (hT : TabOK T) (h : ∀ (cs gs : List Int) (w : Int) (r : AV × Hp), (c34t cs gs w).val = some r → evBody T 34 [vi w, lI cs, lI gs] [] = some r) : ∀ args H v H', (c34 args H).val = some (v, H') → CallOK T 34 args H v H' := by
  intro args H v H' hv
  unfold c34 at hv
  split at hv
  · exact evBody_sound hT (h _ _ _ _ hv)
  · cases hv
def c35t (cs gs : List Int) (w : Int) : Tree (AV × Hp) := .leaf (vi (Clm.validV w cs gs), [])
def c35 (args : List AV) (H : Hp) : Tree (AV × Hp) := match args, H with
  | [(.sc (.int .i64 w)), (.sl (.int .i64) cs false), (.sl (.int .i64) gs false)], [] => c35t cs gs w
  | _, _ => .fail
theorem c35_ok {T : Tab} (hT : TabOK T) (h : ∀ (cs gs : List Int) (w : Int) (r : AV × Hp), (c35t cs gs w).val = some r → evBody T 35 [vi w, lI cs, lI gs] [] = some r) : ∀ args H v H', (c35 args H).val = some (v, H') → CallOK T 35 args H v H' := by
  intro args H v H' hv
  unfold c35 at hv
  split at hv
  · exact evBody_sound hT (h _ _ _ _ hv)
  · cases hv
def l33_8t (cs gs : List Int) (i j : Int) : Tree (Out × List AV × Hp) := .br (Clm.sb cs && Clm.sb gs && decide (gs.length = cs.length) && decide (cs.length ≤ 5) && decide (0 ≤ i) && decide (i < cs.length) && decide (j = i + 1)) (.br (decide (Clm.jOf cs gs i.toNat < cs.length)) (.leaf (.ret, [lI cs, lI gs, vi i, vi (Clm.jOf cs gs i.toNat : Nat), vi 0, vi i, vi (Clm.jOf cs gs i.toNat : Nat)], [])) (.leaf (.ext 2, [lI cs, lI gs, vi 0, vi 0, vi 0, vi i, vi cs.length], []))) .fail
def l33_8 (base : Nat) (kv : List AV) (H : Hp) : Tree (Out × List AV × Hp) := match Nat.beq base 0, kv, H with
  | true, [(.sl (.int .i64) cs false), (.sl (.int .i64) gs false), (.sc (.int .i64 0)), (.sc (.int .i64 0)), (.sc (.int .i64 0)), (.sc (.int .i64 i)), (.sc (.int .i64 j))], [] => l33_8t cs gs i j
  | _, _, _ => .fail
theorem l33_8_ok {T : Tab} (hT : TabOK T) (hlo : loopOf T.fn 33 8 = some (lpc T 33 8)) (h : ∀ (cs gs : List Int) (i j : Int) (r : Out × List AV × Hp), (l33_8t cs gs i j).val = some r → ∃ mm, lpRun T 33 8 0 (lpc T 33 8) mm [lI cs, lI gs, vi 0, vi 0, vi 0, vi i, vi j] [] = some r) : ∀ base kv H o kv' H', (l33_8 base kv H).val = some (o, kv', H') → LoopOK T 33 8 base kv H o kv' H' := by
  intro base kv H o kv' H' hv
  unfold l33_8 at hv
  split at hv
  · rename_i hb
    obtain rfl := Nat.eq_of_beq_eq_true hb
    exact loop_ok hT hlo (h _ _ _ _ _ hv)
  · cases hv
noncomputable def T13 : Tab := ((((T12).addCall 23 c23).addCall 34 c34).addCall 35 c35).addLoop 33 8 l33_8
theorem nl33_5 (again : Ag) (cs gs : List Int) (i : Int) : lpStep T13 33 5 0 (lpc T13 33 5) again [lI cs, lI gs, vi 0, vi 0, vi 0, vi i] [] = (bif decide (i < (↑cs.length : Int)) then bif Clm.sb cs && Clm.sb gs && decide (gs.length = cs.length) && decide (cs.length ≤ 5) && decide (0 ≤ i) && decide (i < (↑cs.length : Int)) && decide (IntKind.i64.wrap (i + 1) = i + 1) then bif decide (Clm.jOf cs gs i.toNat < cs.length) then some (.ret, [.sl (.int .i64) cs false, .sl (.int .i64) gs false, vi i, vi (↑(Clm.jOf cs gs i.toNat) : Int), vi 0, vi i], []) else again [.sl (.int .i64) cs false, .sl (.int .i64) gs false, vi 0, vi 0, vi 0, vi (IntKind.i64.wrap (i + 1))] [] else none else some (.ext 0, [.sl (.int .i64) cs false, .sl (.int .i64) gs false, vi 0, vi 0, vi 0, vi i], [])) := by kernel_rfl
def l33_5t (cs gs : List Int) : Tree (Out × List AV × Hp) := .br (Clm.sb cs && Clm.sb gs && decide (gs.length = cs.length) && decide (cs.length ≤ 5)) (.br (Clm.foundV cs gs) (.leaf (.ret, [lI cs, lI gs, vi (Clm.iOf cs gs : Nat), vi (Clm.jOf cs gs (Clm.iOf cs gs) : Nat), vi 0, vi (Clm.iOf cs gs : Nat)], [])) (.leaf (.ext 0, [lI cs, lI gs, vi 0, vi 0, vi 0, vi cs.length], []))) .fail
def l33_5 (base : Nat) (kv : List AV) (H : Hp) : Tree (Out × List AV × Hp) := match Nat.beq base 0, kv, H with
  | true, [(.sl (.int .i64) cs false), (.sl (.int .i64) gs false), (.sc (.int .i64 0)), (.sc (.int .i64 0)), (.sc (.int .i64 0)), (.sc (.int .i64 0))], [] => l33_5t cs gs
  | _, _, _ => .fail
theorem l33_5_ok {T : Tab} (hT : TabOK T) (hlo : loopOf T.fn 33 5 = some (lpc T 33 5)) (h : ∀ (cs gs : List Int) (r : Out × List AV × Hp), (l33_5t cs gs).val = some r → ∃ mm, lpRun T 33 5 0 (lpc T 33 5) mm [lI cs, lI gs, vi 0, vi 0, vi 0, vi 0] [] = some r) : ∀ base kv H o kv' H', (l33_5 base kv H).val = some (o, kv', H') → LoopOK T 33 5 base kv H o kv' H' := by
  intro base kv H o kv' H' hv
  unfold l33_5 at hv
  split at hv
  · rename_i hb
    obtain rfl := Nat.eq_of_beq_eq_true hb
    exact loop_ok hT hlo (h _ _ _ hv)
  · cases hv
noncomputable def T14 : Tab := (T13).addLoop 33 5 l33_5
theorem nf33 (cs gs : List Int) (w : Int) : evBody T14 33 [vi w, lI cs, lI gs] [] = (bif Clm.validV w cs gs != 0 then some (.tuple [vi 0, vi 0, vi (Clm.validV w cs gs)], []) else bif Clm.sb cs && Clm.sb gs && decide (gs.length = cs.length) && decide (cs.length ≤ 5) then bif Clm.foundV cs gs then some (.tuple [vi (↑(Clm.iOf cs gs) : Int), vi (↑(Clm.jOf cs gs (Clm.iOf cs gs)) : Int), vi 0], []) else some (.tuple [vi 0, vi 0, vi 13], []) else none) := by kernel_rfl
theorem nf36 (cs gs : List Int) (w i j : Int) : evBody T14 36 [vi w, lI cs, lI gs, vi i, vi j] [] = (bif Clm.validV w cs gs != 0 then some (vi (Clm.validV w cs gs), []) else bif !Clm.inR i 0 (IntKind.i64.wrap ((↑cs.length : Int) - 1)) then some (vi 2, []) else bif !Clm.inR j 0 (IntKind.i64.wrap ((↑cs.length : Int) - 1)) then some (vi 2, []) else bif i == j then some (vi 6, []) else bif Clm.sb cs && Clm.sb gs && decide (gs.length = cs.length) && decide (0 ≤ i) && decide (i < (↑cs.length : Int)) && decide (0 ≤ j) && decide (j < (↑cs.length : Int)) then bif !Clm.apartV cs gs i j then some (vi 14, []) else some (vi 0, []) else none) := by kernel_rfl
theorem nf37 (cs gs : List Int) (w i j : Int) : evBody T14 37 [vi w, lI cs, lI gs, vi i, vi j] [] = (bif Clm.validV w cs gs == 0 then bif !Clm.inR i 0 (IntKind.i64.wrap ((↑cs.length : Int) - 1)) then some (vi 2, []) else bif !Clm.inR j 0 (IntKind.i64.wrap ((↑cs.length : Int) - 1)) then some (vi 2, []) else bif Clm.validV w cs gs == 0 then bif i == j then some (vi 6, []) else bif Clm.validV w cs gs == 0 then bif Clm.sb cs && Clm.sb gs && decide (gs.length = cs.length) && decide (0 ≤ i) && decide (i < (↑cs.length : Int)) && decide (0 ≤ j) && decide (j < (↑cs.length : Int)) then bif Clm.oneV cs gs i j then some (vi 14, []) else some (vi (Clm.validV w cs gs), []) else none else some (vi (Clm.validV w cs gs), []) else bif Clm.validV w cs gs == 0 then bif Clm.sb cs && Clm.sb gs && decide (gs.length = cs.length) && decide (0 ≤ i) && decide (i < (↑cs.length : Int)) && decide (0 ≤ j) && decide (j < (↑cs.length : Int)) then bif Clm.oneV cs gs i j then some (vi 14, []) else some (vi (Clm.validV w cs gs), []) else none else some (vi (Clm.validV w cs gs), []) else bif Clm.validV w cs gs == 0 then bif i == j then some (vi 6, []) else bif Clm.validV w cs gs == 0 then bif Clm.sb cs && Clm.sb gs && decide (gs.length = cs.length) && decide (0 ≤ i) && decide (i < (↑cs.length : Int)) && decide (0 ≤ j) && decide (j < (↑cs.length : Int)) then bif Clm.oneV cs gs i j then some (vi 14, []) else some (vi (Clm.validV w cs gs), []) else none else some (vi (Clm.validV w cs gs), []) else bif Clm.validV w cs gs == 0 then bif Clm.sb cs && Clm.sb gs && decide (gs.length = cs.length) && decide (0 ≤ i) && decide (i < (↑cs.length : Int)) && decide (0 ≤ j) && decide (j < (↑cs.length : Int)) then bif Clm.oneV cs gs i j then some (vi 14, []) else some (vi (Clm.validV w cs gs), []) else none else some (vi (Clm.validV w cs gs), [])) := by kernel_rfl
def c32t (cs gs : List Int) (w : Int) : Tree (AV × Hp) := .leaf (.tuple [vi (Clm.why1 w cs gs), vi (Clm.why2 w cs gs), vi (Clm.whyE w cs gs)], [])
def c32 (args : List AV) (H : Hp) : Tree (AV × Hp) := match args, H with
  | [(.sc (.int .i64 w)), (.sl (.int .i64) cs false), (.sl (.int .i64) gs false)], [] => c32t cs gs w
  | _, _ => .fail
theorem c32_ok {T : Tab} (hT : TabOK T) (h : ∀ (cs gs : List Int) (w : Int) (r : AV × Hp), (c32t cs gs w).val = some r → evBody T 32 [vi w, lI cs, lI gs] [] = some r) : ∀ args H v H', (c32 args H).val = some (v, H') → CallOK T 32 args H v H' := by
  intro args H v H' hv
  unfold c32 at hv
  split at hv
  · exact evBody_sound hT (h _ _ _ _ hv)
  · cases hv
def c33t (cs gs : List Int) (w : Int) : Tree (AV × Hp) := .leaf (.tuple [vi (Clm.why1 w cs gs), vi (Clm.why2 w cs gs), vi (Clm.whyE w cs gs)], [])
def c33 (args : List AV) (H : Hp) : Tree (AV × Hp) := match args, H with
  | [(.sc (.int .i64 w)), (.sl (.int .i64) cs false), (.sl (.int .i64) gs false)], [] => c33t cs gs w
  | _, _ => .fail
theorem c33_ok {T : Tab} (hT : TabOK T) (h : ∀ (cs gs : List Int) (w : Int) (r : AV × Hp), (c33t cs gs w).val = some r → evBody T 33 [vi w, lI cs, lI gs] [] = some r) : ∀ args H v H', (c33 args H).val = some (v, H') → CallOK T 33 args H v H' := by
  intro args H v H' hv
  unfold c33 at hv
  split at hv
  · exact evBody_sound hT (h _ _ _ _ hv)
  · cases hv
def c36t (cs gs : List Int) (w i j : Int) : Tree (AV × Hp) := .leaf (vi (Clm.provV w cs gs i j), [])
def c36 (args : List AV) (H : Hp) : Tree (AV × Hp) := match args, H with
  | [(.sc (.int .i64 w)), (.sl (.int .i64) cs false), (.sl (.int .i64) gs false), (.sc (.int .i64 i)), (.sc (.int .i64 j))], [] => c36t cs gs w i j
  | _, _ => .fail
theorem c36_ok {T : Tab} (hT : TabOK T) (h : ∀ (cs gs : List Int) (w i j : Int) (r : AV × Hp), (c36t cs gs w i j).val = some r → evBody T 36 [vi w, lI cs, lI gs, vi i, vi j] [] = some r) : ∀ args H v H', (c36 args H).val = some (v, H') → CallOK T 36 args H v H' := by
  intro args H v H' hv
  unfold c36 at hv
  split at hv
  · exact evBody_sound hT (h _ _ _ _ _ _ hv)
  · cases hv
def c37t (cs gs : List Int) (w i j : Int) : Tree (AV × Hp) := .leaf (vi (Clm.provV w cs gs i j), [])
def c37 (args : List AV) (H : Hp) : Tree (AV × Hp) := match args, H with
  | [(.sc (.int .i64 w)), (.sl (.int .i64) cs false), (.sl (.int .i64) gs false), (.sc (.int .i64 i)), (.sc (.int .i64 j))], [] => c37t cs gs w i j
  | _, _ => .fail
theorem c37_ok {T : Tab} (hT : TabOK T) (h : ∀ (cs gs : List Int) (w i j : Int) (r : AV × Hp), (c37t cs gs w i j).val = some r → evBody T 37 [vi w, lI cs, lI gs, vi i, vi j] [] = some r) : ∀ args H v H', (c37 args H).val = some (v, H') → CallOK T 37 args H v H' := by
  intro args H v H' hv
  unfold c37 at hv
  split at hv
  · exact evBody_sound hT (h _ _ _ _ _ _ hv)
  · cases hv
noncomputable def T15 : Tab := ((((T14).addCall 32 c32).addCall 33 c33).addCall 36 c36).addCall 37 c37
end Go.Ev.Clm
namespace Go.Ev.Clm
open Go Go.Ev
set_option maxRecDepth 1000000
set_option linter.unusedVariables false
set_option linter.unusedSimpArgs false
theorem idx_before {α : Type} {l : List α} {p : α → Bool} {i : Nat} {x : α} (h : i < l.findIdx p) (hx : l[i]? = some x) : p x = false := by
  have hl : i < l.length := by
    rcases Nat.lt_or_ge i l.length with h' | h'
    · exact h'
    · rw [List.getElem?_eq_none h'] at hx; cases hx
  have := List.not_of_lt_findIdx h
  rw [List.getElem?_eq_getElem hl] at hx
  cases hx
  simpa using this
theorem idx_at {α : Type} {l : List α} {p : α → Bool} (h : l.findIdx p < l.length) : ∃ x, l[l.findIdx p]? = some x ∧ p x = true :=
  ⟨_, List.getElem?_eq_getElem h, List.findIdx_getElem (w := h)⟩
theorem idx_lt {α : Type} {l : List α} {p : α → Bool} (h : l.all (fun x => !p x) = false) : l.findIdx p < l.length := by
  refine List.findIdx_lt_length_of_exists ?_
  rw [List.all_eq_false] at h
  obtain ⟨x, hx, hp⟩ := h
  exact ⟨x, hx, by simpa using hp⟩
theorem zip_get {α β : Type} {a : List α} {b : List β} {i : Nat} {x : α} {y : β} (h1 : a[i]? = some x) (h2 : b[i]? = some y) : (a.zip b)[i]? = some (x, y) := (List.getElem?_zip_eq_some (z := (x, y))).2 ⟨h1, h2⟩
theorem list_ne {a b : List Int} (hl : a.length = b.length) (h : a ≠ b) : (a.zip b).all (fun x => !(x.1 != x.2)) = false := by
  rw [Bool.eq_false_iff]
  intro hh
  rw [List.all_eq_true] at hh
  refine h (List.ext_getElem hl fun i h1 h2 => ?_)
  have := hh (a[i], b[i]) (List.mem_of_getElem? (zip_get (List.getElem?_eq_getElem h1) (List.getElem?_eq_getElem h2)))
  simpa using this
theorem l23_4_run : ∀ base kv H o kv' H', (l23_4 base kv H).val = some (o, kv', H') → LoopOK T11 23 4 base kv H o kv' H' := l23_4_ok T11_ok (by kernel_rfl) (by
  intro a b r hv
  obtain ⟨hl, hv2⟩ := guard_val hv
  simp only [Bool.and_eq_true, decide_eq_true_eq] at hl
  obtain ⟨h1, h2⟩ := hl
  have hs := sm_le h1
  have hz : (a.zip b).length = a.length := by simp [h2]
  have stp : ∀ i, i < a.length → (∀ x, (a.zip b)[i]? = some x → (x.1 != x.2) = false) → ∀ again : Ag, lpStep T11 23 4 0 (lpc T11 23 4) again [lI a, lI b, vb false, vi (i : Nat)] [] = again [lI a, lI b, vb false, vi ((i + 1 : Nat) : Int)] [] := by
    intro i hi hok again
    obtain ⟨x, hx, _⟩ := get_i hi
    obtain ⟨y, hy, _⟩ := get_i (show i < b.length by omega)
    have hn := hok _ (zip_get hx hy)
    rw [nl23]
    simp only [dec_lt hi, dec_lt (show i < b.length by omega), dec_ge, cond_true, toNat_cast, hx, hy, oM, hn, cond_false]
    rw [wrap_succ (by omega)]
  rcases br_val hv2 with ⟨hc, hv3⟩ | ⟨hc, hv3⟩
  · have hc := of_decide_eq_true hc
    obtain ⟨mm, hm⟩ := steps_of (T := T11) (fid := 23) (lid := 4) (base := 0) (c := lpc T11 23 4) a.length (fun i => [lI a, lI b, vb false, vi (i : Nat)]) (fun _ => []) (.ext 0, [lI a, lI b, vb false, vi a.length], [])
      (fun i hi again => stp i hi (fun x hx => by
        subst hc
        obtain ⟨e1, e2⟩ := List.getElem?_zip_eq_some.1 hx
        have := Option.some.inj (e1.symm.trans e2); simp [this]) again)
      (fun again => by
        rw [nl23]
        simp only [dec_ll, cond_false])
    exact ⟨mm, hm.trans (by rw [leaf_val hv3])⟩
  · have hc := of_decide_eq_false hc
    have hlt := idx_lt (p := fun x : Int × Int => x.1 != x.2) (list_ne h2 hc)
    obtain ⟨mm, hm⟩ := steps_of (T := T11) (fid := 23) (lid := 4) (base := 0) (c := lpc T11 23 4) ((a.zip b).findIdx fun x => x.1 != x.2) (fun i => [lI a, lI b, vb false, vi (i : Nat)]) (fun _ => []) (.ret, [lI a, lI b, vb false, vi ((a.zip b).findIdx fun x => x.1 != x.2 : Nat)], [])
      (fun i hi again => stp i (by omega) (fun x hx => idx_before (p := fun x : Int × Int => x.1 != x.2) hi hx) again)
      (fun again => by
        obtain ⟨x, hx, hp⟩ := idx_at hlt
        obtain ⟨e1, e2⟩ := List.getElem?_zip_eq_some.1 hx
        rw [nl23]
        simp only [dec_lt (show ((a.zip b).findIdx fun x => x.1 != x.2) < a.length by omega), dec_lt (show ((a.zip b).findIdx fun x => x.1 != x.2) < b.length by omega), dec_ge, cond_true, toNat_cast, e1, e2, oM]
        rw [cond_t hp])
    exact ⟨mm, hm.trans (by rw [leaf_val hv3])⟩)
theorem l34_8_run : ∀ base kv H o kv' H', (l34_8 base kv H).val = some (o, kv', H') → LoopOK T11 34 8 base kv H o kv' H' := l34_8_ok T11_ok (by kernel_rfl) (by
  intro cs gs L m r hv
  obtain ⟨hl, hv2⟩ := guard_val hv
  simp only [Bool.and_eq_true, decide_eq_true_eq] at hl
  obtain ⟨⟨⟨⟨rfl, h2⟩, h3⟩, h4⟩, h5⟩ := hl
  have hL : -1000000000000 ≤ L ∧ L ≤ 1000000000000 := by
    unfold Clm.sm1 at h5
    simpa using h5
  have hz : (gs.zip cs).length = gs.length := by simp [h2]
  have hcw : ∀ i x, cs[i]? = some x → IntKind.i64.wrap (120 * x) = 120 * x ∧ 1 ≤ x ∧ x ≤ 1000 := fun i x hx => by
    have := inR_get (okC_get h4 (List.mem_of_getElem? hx))
    exact ⟨wrapi (by omega) (by omega), this⟩
  have stp : ∀ i, i < gs.length → (∀ j x, j ≤ i → (gs.zip cs)[j]? = some x → Clm.inR x.1 0 (120 * x.2) = true) → ∀ again : Ag, lpStep T11 34 8 0 (lpc T11 34 8) again [lI cs, vi 0, vi (L - Clm.sumI (gs.take i)), lI gs, vi gs.length, vi (i : Nat)] [] = again [lI cs, vi 0, vi (L - Clm.sumI (gs.take (i + 1))), lI gs, vi gs.length, vi ((i + 1 : Nat) : Int)] [] := by
    intro i hi hok again
    obtain ⟨x, hx, _⟩ := get_i hi
    obtain ⟨y, hy, _⟩ := get_i (show i < cs.length by omega)
    have hn := hok i _ (Nat.le_refl _) (zip_get hx hy)
    have hxr := inR_get hn
    obtain ⟨e1, e2⟩ := hcw i y hy
    have hs := Clm.sumI_bd (l := gs.take i) (B := 120000) (by omega) (fun z hz => by
      obtain ⟨j, hj, rfl⟩ := List.getElem_of_mem hz
      rw [List.length_take] at hj
      obtain ⟨y, hy, _⟩ := get_i (show j < cs.length by omega)
      have a := inR_get (hok j _ (by omega) (zip_get (List.getElem?_eq_getElem (show j < gs.length by omega)) hy))
      have b := (hcw j y hy).2
      rw [List.getElem_take]
      simp only at a
      omega)
    have hlen : (gs.take i).length ≤ 5 := by rw [List.length_take]; omega
    simp only at hn hxr
    rw [nl34, Clm.sumI_take hx]
    simp only [dec_lt hi, dec_lt (show i < cs.length by omega), dec_ge, cond_true, toNat_cast, hx, hy, oM, e1, hn, Bool.not_true, cond_false]
    rw [wrap_succ (by omega), wrapi (by omega) (by omega), show L - Clm.sumI (gs.take i) - x = L - (Clm.sumI (gs.take i) + x) by omega]
  rcases br_val hv2 with ⟨hc, hv3⟩ | ⟨hc, hv3⟩
  · obtain ⟨mm, hm⟩ := steps_of (T := T11) (fid := 34) (lid := 8) (base := 0) (c := lpc T11 34 8) gs.length (fun i => [lI cs, vi 0, vi (L - Clm.sumI (gs.take i)), lI gs, vi gs.length, vi (i : Nat)]) (fun _ => []) (.ext 1, [lI cs, vi 0, vi (L - Clm.sumI gs), lI gs, vi gs.length, vi gs.length], [])
      (fun i hi again => stp i hi (fun j x _ hx => by unfold Clm.okG at hc; rw [List.all_eq_true] at hc; exact hc x (List.mem_of_getElem? hx)) again)
      (fun again => by
        rw [nl34, List.take_length]
        simp only [dec_ll, cond_false])
    rw [List.take_zero, Clm.sumI_nil, Int.sub_zero] at hm
    exact ⟨mm, hm.trans (by rw [leaf_val hv3])⟩
  · have hlt : (gs.zip cs).findIdx (fun x => !Clm.inR x.1 0 (120 * x.2)) < (gs.zip cs).length := idx_lt (by simpa [Clm.okG] using hc)
    obtain ⟨mm, hm⟩ := steps_of (T := T11) (fid := 34) (lid := 8) (base := 0) (c := lpc T11 34 8) (Clm.badG cs gs) (fun i => [lI cs, vi 0, vi (L - Clm.sumI (gs.take i)), lI gs, vi gs.length, vi (i : Nat)]) (fun _ => []) (.ret, [lI cs, vi 1, vi (L - Clm.sumI (gs.take (Clm.badG cs gs))), lI gs, vi gs.length, vi (Clm.badG cs gs : Nat)], [])
      (fun i hi again => stp i (by unfold Clm.badG at hi; omega) (fun j x hj hx => by
        have := idx_before (p := fun x : Int × Int => !Clm.inR x.1 0 (120 * x.2)) (show j < _ from Nat.lt_of_le_of_lt hj hi) hx
        simpa using this) again)
      (fun again => by
        obtain ⟨x, hx, hp⟩ := idx_at hlt
        obtain ⟨e1, e2⟩ := List.getElem?_zip_eq_some.1 hx
        have e3 := (hcw _ _ e2).1
        have hb : Clm.badG cs gs < gs.length := by unfold Clm.badG; omega
        rw [nl34]
        simp only [dec_lt hb, dec_lt (show Clm.badG cs gs < cs.length by omega), dec_ge, cond_true, toNat_cast]
        rw [show gs[Clm.badG cs gs]? = some x.1 from e1, show cs[Clm.badG cs gs]? = some x.2 from e2]
        simp only [oM, e3]
        rw [cond_t hp])
    rw [List.take_zero, Clm.sumI_nil, Int.sub_zero] at hm
    exact ⟨mm, hm.trans (by rw [leaf_val hv3])⟩)
theorem l35_5_run : ∀ base kv H o kv' H', (l35_5 base kv H).val = some (o, kv', H') → LoopOK T11 35 5 base kv H o kv' H' := l35_5_ok T11_ok (by kernel_rfl) (by
  intro cs gs w e r hv
  rcases br_val hv with ⟨he, hv2⟩ | ⟨he, hv2⟩
  · obtain rfl : e = 0 := beq_iff_eq.1 he
    obtain ⟨hl, hv2⟩ := guard_val hv2
    simp only [Bool.and_eq_true, decide_eq_true_eq] at hl
    obtain ⟨⟨h2, h3⟩, h4⟩ := hl
    have hz : (gs.zip cs).length = gs.length := by simp [h2]
    have hcw : ∀ i x, cs[i]? = some x → IntKind.i64.wrap (120 * x) = 120 * x := fun i x hx => by
      have := inR_get (okC_get h4 (List.mem_of_getElem? hx))
      exact wrapi (by omega) (by omega)
    have stp : ∀ i, i < gs.length → (∀ x, (gs.zip cs)[i]? = some x → Clm.inR x.1 0 (120 * x.2) = true) → ∀ again : Ag, lpStep T11 35 5 0 (lpc T11 35 5) again [vi w, lI cs, lI gs, vi 0, vi (i : Nat)] [] = again [vi w, lI cs, lI gs, vi 0, vi ((i + 1 : Nat) : Int)] [] := by
      intro i hi hok again
      obtain ⟨x, hx, _⟩ := get_i hi
      obtain ⟨y, hy, _⟩ := get_i (show i < cs.length by omega)
      have hn := hok _ (zip_get hx hy)
      simp only at hn
      rw [nl35, show ((0 : Int) == 0) = true from rfl]
      simp only [dec_lt hi, dec_lt (show i < cs.length by omega), dec_ge, cond_true, toNat_cast, hx, hy, oM, hcw i y hy, hn, Bool.not_true, cond_false]
      rw [wrap_succ (by omega)]
    rcases br_val hv2 with ⟨hc, hv3⟩ | ⟨hc, hv3⟩
    · obtain ⟨mm, hm⟩ := steps_of (T := T11) (fid := 35) (lid := 5) (base := 0) (c := lpc T11 35 5) gs.length (fun i => [vi w, lI cs, lI gs, vi 0, vi (i : Nat)]) (fun _ => []) (.ext 0, [vi w, lI cs, lI gs, vi 0, vi gs.length], [])
        (fun i hi again => stp i hi (fun x hx => by unfold Clm.okG at hc; rw [List.all_eq_true] at hc; exact hc x (List.mem_of_getElem? hx)) again)
        (fun again => by
          rw [nl35]
          simp only [dec_ll, cond_false])
      exact ⟨mm, hm.trans (by rw [leaf_val hv3])⟩
    · have hlt : (gs.zip cs).findIdx (fun x => !Clm.inR x.1 0 (120 * x.2)) < (gs.zip cs).length := idx_lt (by simpa [Clm.okG] using hc)
      have hb : Clm.badG cs gs < gs.length := by unfold Clm.badG; omega
      obtain ⟨mm, hm⟩ := steps_of (T := T11) (fid := 35) (lid := 5) (base := 0) (c := lpc T11 35 5) (Clm.badG cs gs + 1) (fun i => [vi w, lI cs, lI gs, vi (bif Nat.ble i (Clm.badG cs gs) then 0 else 1), vi (i : Nat)]) (fun _ => []) (.ext 0, [vi w, lI cs, lI gs, vi 1, vi ((Clm.badG cs gs + 1 : Nat) : Int)], [])
        (fun i hi again => by
          rw [show Nat.ble i (Clm.badG cs gs) = true from Nat.ble_eq_true_of_le (by omega)]
          rcases Nat.lt_or_ge i (Clm.badG cs gs) with hb' | hb'
          · rw [show Nat.ble (i + 1) (Clm.badG cs gs) = true from Nat.ble_eq_true_of_le (by omega)]
            exact stp i (by omega) (fun x hx => by
              have := idx_before (p := fun x : Int × Int => !Clm.inR x.1 0 (120 * x.2)) (show i < _ from hb') hx
              simpa using this) again
          · obtain rfl : i = Clm.badG cs gs := by omega
            rw [show Nat.ble (Clm.badG cs gs + 1) (Clm.badG cs gs) = false by rw [Bool.eq_false_iff]; intro h; have := Nat.le_of_ble_eq_true h; omega]
            obtain ⟨x, hx, hp⟩ := idx_at hlt
            obtain ⟨e1, e2⟩ := List.getElem?_zip_eq_some.1 hx
            have e3 := hcw _ _ e2
            rw [nl35]
            simp only [cond_true, cond_false, show ((0 : Int) == 0) = true from rfl, dec_lt hb, dec_lt (show Clm.badG cs gs < cs.length by omega), dec_ge, toNat_cast]
            rw [show gs[Clm.badG cs gs]? = some x.1 from e1, show cs[Clm.badG cs gs]? = some x.2 from e2]
            simp only [oM, e3]
            rw [cond_t hp, wrap_succ (by omega)])
        (fun again => by
          rw [show Nat.ble (Clm.badG cs gs + 1) (Clm.badG cs gs) = false by rw [Bool.eq_false_iff]; intro h; have := Nat.le_of_ble_eq_true h; omega]
          rw [nl35]
          simp only [cond_false, show ((1 : Int) == 0) = false from rfl]
          cases decide (((Clm.badG cs gs + 1 : Nat) : Int) < (gs.length : Int)) <;> rfl)
      rw [show Nat.ble 0 (Clm.badG cs gs) = true from Nat.ble_eq_true_of_le (by omega)] at hm
      exact ⟨mm, hm.trans (by rw [leaf_val hv3])⟩
  · obtain ⟨mm, hm⟩ := steps_of (T := T11) (fid := 35) (lid := 5) (base := 0) (c := lpc T11 35 5) 0 (fun i => [vi w, lI cs, lI gs, vi e, vi 0]) (fun _ => []) (.ext 0, [vi w, lI cs, lI gs, vi e, vi 0], [])
      (fun i hi again => by omega)
      (fun again => by
        rw [nl35, he]
        cases decide ((0 : Int) < (gs.length : Int)) <;> rfl)
    exact ⟨mm, hm.trans (by rw [leaf_val hv2])⟩)
theorem at0_get {l : List Int} {i : Int} (h0 : 0 ≤ i) (h1 : i < l.length) : l[i.toNat]? = some (Clm.at0 l i) ∧ Clm.at0 l i ∈ l := by
  have := getD_of (l := l) (i := i.toNat) (by omega)
  exact ⟨this, List.mem_of_getElem? this⟩
theorem c70_run : ∀ args H v H', (c70 args H).val = some (v, H') → CallOK T11 70 args H v H' := c70_ok T11_ok (by
  intro cs gs i j r hv
  obtain ⟨hl, hv2⟩ := guard_val hv
  simp only [Bool.and_eq_true, decide_eq_true_eq] at hl
  obtain ⟨⟨⟨⟨⟨⟨h1, h2⟩, h3⟩, h4⟩, h5⟩, h6⟩, h7⟩ := hl
  obtain ⟨a1, b1⟩ := at0_get (l := gs) h4 (by omega)
  obtain ⟨a2, b2⟩ := at0_get (l := gs) h6 (by omega)
  obtain ⟨a3, b3⟩ := at0_get (l := cs) h4 h5
  obtain ⟨a4, b4⟩ := at0_get (l := cs) h6 h7
  have d1 := Clm.sb_get h2 b1
  have d2 := Clm.sb_get h2 b2
  have d3 := Clm.sb_get h1 b3
  have d4 := Clm.sb_get h1 b4
  rw [leaf_val hv2, nf70]
  simp only [decide_eq_true h4, decide_eq_true (show i < (gs.length : Int) by omega), decide_eq_true h6, decide_eq_true (show j < (gs.length : Int) by omega), decide_eq_true h5, decide_eq_true h7, cond_true, a1, a2, a3, a4, oM]
  rw [wrapi (x := Clm.at0 gs i + Clm.at0 gs j) (by omega) (by omega), wrapi (x := 120 * Clm.at0 cs i) (by omega) (by omega), wrapi (x := 120 * Clm.at0 cs j) (by omega) (by omega), wrapi (x := 2 * Clm.at0 gs i) (by omega) (by omega)]
  rw [cond_t (by unfold Clm.sm3 Clm.sm1; simp only [Bool.and_eq_true, decide_eq_true_eq]; omega)]
  rfl)
theorem c71_run : ∀ args H v H', (c71 args H).val = some (v, H') → CallOK T11 71 args H v H' := c71_ok T11_ok (by
  intro cs gs i j r hv
  obtain ⟨hl, hv2⟩ := guard_val hv
  simp only [Bool.and_eq_true, decide_eq_true_eq] at hl
  obtain ⟨⟨⟨⟨⟨⟨h1, h2⟩, h3⟩, h4⟩, h5⟩, h6⟩, h7⟩ := hl
  obtain ⟨a1, b1⟩ := at0_get (l := gs) h4 (by omega)
  obtain ⟨a2, b2⟩ := at0_get (l := gs) h6 (by omega)
  obtain ⟨a3, b3⟩ := at0_get (l := cs) h4 h5
  obtain ⟨a4, b4⟩ := at0_get (l := cs) h6 h7
  have d1 := Clm.sb_get h2 b1
  have d2 := Clm.sb_get h2 b2
  have d3 := Clm.sb_get h1 b3
  have d4 := Clm.sb_get h1 b4
  rw [leaf_val hv2, nf71]
  simp only [decide_eq_true h4, decide_eq_true (show i < (gs.length : Int) by omega), decide_eq_true h6, decide_eq_true (show j < (gs.length : Int) by omega), decide_eq_true h5, decide_eq_true h7, cond_true, a1, a2, a3, a4, oM]
  rw [wrapi (x := Clm.at0 gs i + Clm.at0 gs j) (by omega) (by omega), wrapi (x := 120 * Clm.at0 cs i) (by omega) (by omega), wrapi (x := 120 * Clm.at0 cs j) (by omega) (by omega), wrapi (x := 2 * Clm.at0 gs i) (by omega) (by omega)]
  rw [cond_t (by unfold Clm.sm3 Clm.sm1; simp only [Bool.and_eq_true, decide_eq_true_eq]; omega)]
  rfl)
theorem two_facts {w a b : Int} (h : (Clm.chk w [a, b] == 0) = true) : (0 ≤ w ∧ w ≤ 2000) ∧ (1 ≤ a ∧ a ≤ 1000) ∧ 1 ≤ b ∧ b ≤ 1000 := by
  have ok := Clm.ok_of (beq_iff_eq.1 h)
  have ha := ok.rng a (by simp)
  have hb := ok.rng b (by simp)
  have h1 := ok.lo
  have h2 := ok.hi
  rw [Clm.sumI_cons, Clm.sumI_cons, Clm.sumI_nil] at h2
  omega
theorem pair_bd {w a b : Int} (hw : 0 ≤ w ∧ w ≤ 2000) (ha : 1 ≤ a ∧ a ≤ 1000) (hb : 1 ≤ b ∧ b ≤ 1000) : -1000000 ≤ (Clm.pairV (120 * w) (120 * a) (120 * b)).tdiv 2 ∧ (Clm.pairV (120 * w) (120 * a) (120 * b)).tdiv 2 ≤ 1000000 := by
  have h1 : -1000000 ≤ Clm.pairV (120 * w) (120 * a) (120 * b) ∧ Clm.pairV (120 * w) (120 * a) (120 * b) ≤ 1000000 := by unfold Clm.pairV; omega
  have := Int.natAbs_tdiv_le_natAbs (Clm.pairV (120 * w) (120 * a) (120 * b)) 2
  omega
theorem c26_run : ∀ args H v H', (c26 args H).val = some (v, H') → CallOK T11 26 args H v H' := c26_ok T11_ok (by
  intro w a b r hv
  rw [leaf_val hv, nf26]
  unfold Clm.two1 Clm.two2
  cases hc : Clm.chk w [a, b] == 0 with
  | false => rw [cond_t (chk_t hc)]; rfl
  | true =>
    obtain ⟨hw, ha, hb⟩ := two_facts hc
    have hp := pair_bd hw ha hb
    obtain ⟨e1, e2⟩ := Clm.two_eq w a b
    rw [cond_f (chk_n hc), wrapi (x := 120 * w) (by omega) (by omega), wrapi (x := 120 * a) (by omega) (by omega), wrapi (x := 120 * b) (by omega) (by omega), cond_t (by unfold Clm.sm3 Clm.sm1; simp only [Bool.and_eq_true, decide_eq_true_eq]; omega), e1, e2,
      wrapi (x := (Clm.pairV (120 * w) (120 * a) (120 * b)).tdiv 2) (by omega) (by omega), wrapi (by omega) (by omega), beq_iff_eq.1 hc]
    rfl)
theorem c27_run : ∀ args H v H', (c27 args H).val = some (v, H') → CallOK T11 27 args H v H' := c27_ok T11_ok (by
  intro w a b r hv
  rw [leaf_val hv, nf27]
  unfold Clm.two1 Clm.two2
  cases hc : Clm.chk w [a, b] == 0 with
  | false => rw [cond_t (chk_t hc)]; rfl
  | true =>
    obtain ⟨hw, ha, hb⟩ := two_facts hc
    have hp := pair_bd hw ha hb
    rw [cond_f (chk_n hc), wrapi (x := 120 * w) (by omega) (by omega), wrapi (x := 120 * a) (by omega) (by omega), wrapi (x := 120 * b) (by omega) (by omega), cond_t (by unfold Clm.sm3 Clm.sm1; simp only [Bool.and_eq_true, decide_eq_true_eq]; omega),
      wrapi (x := (Clm.pairV (120 * w) (120 * a) (120 * b)).tdiv 2) (by omega) (by omega), wrapi (by omega) (by omega), beq_iff_eq.1 hc]
    rfl)
theorem T12_ok : TabOK T12 := by
  have h := T11_ok
  have h := h.addLoop (g := 23) (lid := 4) (r := l23_4) fun b k H o k' H' hv => by refine LoopOK.tab ?_ ?_ ?_ ?_ (l23_4_run b k H o k' H' hv) <;> rfl
  have h := h.addLoop (g := 34) (lid := 8) (r := l34_8) fun b k H o k' H' hv => by refine LoopOK.tab ?_ ?_ ?_ ?_ (l34_8_run b k H o k' H' hv) <;> rfl
  have h := h.addLoop (g := 35) (lid := 5) (r := l35_5) fun b k H o k' H' hv => by refine LoopOK.tab ?_ ?_ ?_ ?_ (l35_5_run b k H o k' H' hv) <;> rfl
  have h := h.addCall (g := 70) (r := c70) fun a H v H' hv => by refine CallOK.tab ?_ ?_ (c70_run a H v H' hv) <;> rfl
  have h := h.addCall (g := 71) (r := c71) fun a H v H' hv => by refine CallOK.tab ?_ ?_ (c71_run a H v H' hv) <;> rfl
  have h := h.addCall (g := 26) (r := c26) fun a H v H' hv => by refine CallOK.tab ?_ ?_ (c26_run a H v H' hv) <;> rfl
  have h := h.addCall (g := 27) (r := c27) fun a H v H' hv => by refine CallOK.tab ?_ ?_ (c27_run a H v H' hv) <;> rfl
  exact h
end Go.Ev.Clm
namespace Go.Ev.Clm
open Go Go.Ev
set_option maxRecDepth 1000000
set_option linter.unusedVariables false
set_option linter.unusedSimpArgs false
theorem c23_run : ∀ args H v H', (c23 args H).val = some (v, H') → CallOK T12 23 args H v H' := c23_ok T12_ok (by
  intro a b r hv
  obtain ⟨hl, hv2⟩ := guard_val hv
  rw [leaf_val hv2, nf23]
  cases hc : (a.length : Int) != (b.length : Int) with
  | true =>
    have : a.length ≠ b.length := by rw [bne_iff_ne] at hc; omega
    rw [decide_eq_false (fun h : a = b => this (by rw [h]))]; rfl
  | false =>
    have hlen : a.length = b.length := by
      have := hc
      simp at this; omega
    simp only [cond_false]
    rw [cond_t (by rw [hl, decide_eq_true hlen]; rfl)]
    cases decide (a = b) <;> rfl)
structure OkV (w : Int) (cs gs : List Int) : Prop where
  ok : Clm.OkW w cs
  len : gs.length = cs.length
  g : Clm.okG cs gs = true
  sum : Clm.sumI gs = 120 * w
theorem okv_of {w : Int} {cs gs : List Int} (h : Clm.validV w cs gs = 0) : OkV w cs gs := by
  unfold Clm.validV at h
  cases hc : Clm.chk w cs == 0 with
  | false => rw [hc] at h; simp only [cond_false] at h; rw [h] at hc; cases hc
  | true =>
    rw [hc] at h
    have ok := Clm.ok_of (beq_iff_eq.1 hc)
    cases hl : decide (gs.length = cs.length) with
    | false => rw [hl] at h; cases h
    | true =>
      rw [hl] at h
      cases hg : Clm.okG cs gs with
      | false => rw [hg] at h; cases h
      | true =>
        rw [hg] at h
        cases hs : Clm.sumI gs == 120 * w with
        | false => rw [hs] at h; cases h
        | true => exact ⟨ok, of_decide_eq_true hl, hg, beq_iff_eq.1 hs⟩
theorem okG_in {w : Int} {cs gs : List Int} (h : Clm.OkW w cs) (hl : gs.length = cs.length) (hg : Clm.okG cs gs = true) : ∀ x ∈ gs, 0 ≤ x ∧ x ≤ 120000 := by
  intro x hx
  obtain ⟨i, hi, rfl⟩ := List.getElem_of_mem hx
  unfold Clm.okG at hg
  rw [List.all_eq_true] at hg
  have hz := zip_get (List.getElem?_eq_getElem hi) (List.getElem?_eq_getElem (show i < cs.length by omega))
  have := inR_get (hg _ (List.mem_of_getElem? hz))
  have c := h.rng cs[i] (List.getElem_mem _)
  simp only at this
  omega
theorem okC_ok {w : Int} {cs : List Int} (h : Clm.OkW w cs) : Clm.okC cs = true := by
  unfold Clm.okC Clm.inR
  rw [List.all_eq_true]
  intro x hx
  have := h.rng x hx
  simp; omega
theorem c34_run : ∀ args H v H', (c34 args H).val = some (v, H') → CallOK T12 34 args H v H' := c34_ok T12_ok (by
  intro cs gs w r hv
  rw [leaf_val hv, nf34]
  unfold Clm.validV
  cases hc : Clm.chk w cs == 0 with
  | false => rw [cond_t (chk_t hc)]; rfl
  | true =>
    have ok := Clm.ok_of (beq_iff_eq.1 hc)
    have h5 := ok.len
    have hsum := ok.sum
    have hlo := ok.lo
    have hhi := ok.hi
    have e1 : IntKind.i64.wrap (120 * w) = 120 * w := wrapi (by omega) (by omega)
    rw [cond_f (chk_n hc), e1]
    simp only [cond_true]
    cases hl : decide (gs.length = cs.length) with
    | false =>
      have hl' := of_decide_eq_false hl
      rw [cond_t (by rw [bne_iff_ne]; omega)]; rfl
    | true =>
      have hl' := of_decide_eq_true hl
      rw [cond_f (by rw [bne_eq_false_iff_eq]; omega), cond_t (by
        unfold Clm.sm1
        simp only [Bool.and_eq_true, decide_eq_true_eq]
        exact ⟨⟨⟨⟨trivial, trivial⟩, h5⟩, okC_ok ok⟩, by omega, by omega⟩)]
      simp only [cond_true]
      cases hg : Clm.okG cs gs with
      | false => rfl
      | true =>
        simp only [cond_true]
        cases hs : Clm.sumI gs == 120 * w with
        | false =>
          have hs' : Clm.sumI gs ≠ 120 * w := by intro h; rw [h] at hs; simp at hs
          rw [cond_t (by rw [bne_iff_ne]; omega)]; rfl
        | true =>
          have hs' := beq_iff_eq.1 hs
          rw [cond_f (by rw [bne_eq_false_iff_eq]; omega)]; rfl)
theorem c35_run : ∀ args H v H', (c35 args H).val = some (v, H') → CallOK T12 35 args H v H' := c35_ok T12_ok (by
  intro cs gs w r hv
  rw [leaf_val hv, nf35]
  unfold Clm.validV
  cases hc : Clm.chk w cs == 0 with
  | false =>
    simp only [cond_false]
  | true =>
    have ok := Clm.ok_of (beq_iff_eq.1 hc)
    have h5 := ok.len
    have hsum := ok.sum
    have hlo := ok.lo
    have hhi := ok.hi
    have e1 : IntKind.i64.wrap (120 * w) = 120 * w := wrapi (by omega) (by omega)
    rw [e1]
    simp only [cond_true]
    cases hl : decide (gs.length = cs.length) with
    | false =>
      have hl' := of_decide_eq_false hl
      rw [cond_t (by rw [bne_iff_ne]; omega)]; rfl
    | true =>
      have hl' := of_decide_eq_true hl
      rw [cond_f (by rw [bne_eq_false_iff_eq]; omega), cond_t (by
        simp only [Bool.and_eq_true, decide_eq_true_eq]
        exact ⟨⟨trivial, h5⟩, okC_ok ok⟩)]
      simp only [cond_true]
      cases hg : Clm.okG cs gs with
      | false => rfl
      | true =>
        simp only [cond_true]
        rw [cond_t (by rw [show sm gs = true from decide_eq_true (by omega), Clm.sb_of (fun x hx => by have := okG_in ok hl' hg x hx; omega)]; rfl)]
        cases hs : Clm.sumI gs == 120 * w with
        | false => rw [cond_t (by rw [bne, hs]; rfl)]; rfl
        | true => rw [cond_f (by rw [bne, hs]; rfl)]; rfl)
theorem jOf_before {cs gs : List Int} {i j : Nat} (hj : j < Clm.jOf cs gs i) (hij : i < j) (hn : j < cs.length) : Clm.apartV cs gs i j = false := by
  unfold Clm.jOf at hj
  have := idx_before hj (x := j) (by rw [List.getElem?_range hn])
  rw [decide_eq_true hij, Bool.true_and] at this
  exact this
theorem jOf_at {cs gs : List Int} {i : Nat} (h : Clm.jOf cs gs i < cs.length) : i < Clm.jOf cs gs i ∧ Clm.apartV cs gs i (Clm.jOf cs gs i : Nat) = true := by
  have hl : (List.range cs.length).findIdx (fun (j : Nat) => decide (i < j) && Clm.apartV cs gs i j) < (List.range cs.length).length := by rw [List.length_range]; exact h
  obtain ⟨x, hx, hp⟩ := idx_at hl
  rw [List.getElem?_range (by rw [List.length_range] at hl; exact hl)] at hx
  cases hx
  rw [Bool.and_eq_true, decide_eq_true_eq] at hp
  exact hp
theorem jOf_le (cs gs : List Int) (i : Nat) : Clm.jOf cs gs i ≤ cs.length := by
  unfold Clm.jOf
  have := List.findIdx_le_length (xs := List.range cs.length) (p := fun (j : Nat) => decide (i < j) && Clm.apartV cs gs i j)
  rwa [List.length_range] at this
theorem l33_8_run : ∀ base kv H o kv' H', (l33_8 base kv H).val = some (o, kv', H') → LoopOK T12 33 8 base kv H o kv' H' := l33_8_ok T12_ok (by kernel_rfl) (by
  intro cs gs i j r hv
  obtain ⟨hl, hv2⟩ := guard_val hv
  simp only [Bool.and_eq_true, decide_eq_true_eq] at hl
  obtain ⟨⟨⟨⟨⟨⟨h1, h2⟩, h3⟩, h4⟩, h5⟩, h6⟩, rfl⟩ := hl
  obtain ⟨i, rfl⟩ := Int.eq_ofNat_of_zero_le h5
  rw [toNat_cast] at hv2
  have stp : ∀ j : Nat, i < j → j < cs.length → Clm.apartV cs gs i j = false → ∀ again : Ag, lpStep T12 33 8 0 (lpc T12 33 8) again [lI cs, lI gs, vi 0, vi 0, vi 0, vi i, vi j] [] = again [lI cs, lI gs, vi 0, vi 0, vi 0, vi i, vi ((j + 1 : Nat) : Int)] [] := by
    intro j hij hj ha again
    have hone : Clm.oneV cs gs i j = true := by rw [Clm.one_apart, ha]; rfl
    rw [nl33_8]
    simp only [dec_lt hj, cond_true, h1, h2, decide_eq_true h3, dec_ge, decide_eq_true h6, Bool.and_self, hone, Bool.not_true, cond_false]
    rw [wrap_succ (by omega)]
  rcases br_val hv2 with ⟨hc, hv3⟩ | ⟨hc, hv3⟩
  · have hc := of_decide_eq_true hc
    obtain ⟨g1, g2⟩ := jOf_at hc
    obtain ⟨mm, hm⟩ := steps_of (T := T12) (fid := 33) (lid := 8) (base := 0) (c := lpc T12 33 8) (Clm.jOf cs gs i - (i + 1)) (fun r => [lI cs, lI gs, vi 0, vi 0, vi 0, vi i, vi ((i + 1 + r : Nat) : Int)]) (fun _ => []) (.ret, [lI cs, lI gs, vi i, vi (Clm.jOf cs gs i : Nat), vi 0, vi i, vi (Clm.jOf cs gs i : Nat)], [])
      (fun r hr again => stp (i + 1 + r) (by omega) (by omega) (jOf_before (by omega) (by omega) (by omega)) again)
      (fun again => by
        have hone : Clm.oneV cs gs i (Clm.jOf cs gs i : Nat) = false := by rw [Clm.one_apart, g2]; rfl
        rw [show i + 1 + (Clm.jOf cs gs i - (i + 1)) = Clm.jOf cs gs i by omega, nl33_8]
        simp only [dec_lt hc, cond_true, h1, h2, decide_eq_true h3, dec_ge, decide_eq_true h6, Bool.and_self, hone, Bool.not_false])
    exact ⟨mm, hm.trans (by rw [leaf_val hv3])⟩
  · have hc := of_decide_eq_false hc
    have hle := jOf_le cs gs i
    obtain ⟨mm, hm⟩ := steps_of (T := T12) (fid := 33) (lid := 8) (base := 0) (c := lpc T12 33 8) (cs.length - (i + 1)) (fun r => [lI cs, lI gs, vi 0, vi 0, vi 0, vi i, vi ((i + 1 + r : Nat) : Int)]) (fun _ => []) (.ext 2, [lI cs, lI gs, vi 0, vi 0, vi 0, vi i, vi cs.length], [])
      (fun r hr again => stp (i + 1 + r) (by omega) (by omega) (jOf_before (by omega) (by omega) (by omega)) again)
      (fun again => by
        rw [show i + 1 + (cs.length - (i + 1)) = cs.length by omega, nl33_8]
        simp only [dec_ll, cond_false])
    exact ⟨mm, hm.trans (by rw [leaf_val hv3])⟩)
theorem T13_ok : TabOK T13 := by
  have h := T12_ok
  have h := h.addCall (g := 23) (r := c23) fun a H v H' hv => by refine CallOK.tab ?_ ?_ (c23_run a H v H' hv) <;> rfl
  have h := h.addCall (g := 34) (r := c34) fun a H v H' hv => by refine CallOK.tab ?_ ?_ (c34_run a H v H' hv) <;> rfl
  have h := h.addCall (g := 35) (r := c35) fun a H v H' hv => by refine CallOK.tab ?_ ?_ (c35_run a H v H' hv) <;> rfl
  have h := h.addLoop (g := 33) (lid := 8) (r := l33_8) fun b k H o k' H' hv => by refine LoopOK.tab ?_ ?_ ?_ ?_ (l33_8_run b k H o k' H' hv) <;> rfl
  exact h
theorem iOf_before {cs gs : List Int} {i : Nat} (hi : i < Clm.iOf cs gs) (hn : i < cs.length) : ¬ Clm.jOf cs gs i < cs.length := by
  unfold Clm.iOf at hi
  exact of_decide_eq_false (idx_before hi (x := i) (by rw [List.getElem?_range hn]))
theorem iOf_at {cs gs : List Int} (h : Clm.iOf cs gs < cs.length) : Clm.jOf cs gs (Clm.iOf cs gs) < cs.length := by
  have hl : (List.range cs.length).findIdx (fun (i : Nat) => decide (Clm.jOf cs gs i < cs.length)) < (List.range cs.length).length := by rw [List.length_range]; exact h
  obtain ⟨x, hx, hp⟩ := idx_at hl
  rw [List.getElem?_range (by rw [List.length_range] at hl; exact hl)] at hx
  cases hx
  exact of_decide_eq_true hp
theorem iOf_le (cs gs : List Int) : Clm.iOf cs gs ≤ cs.length := by
  unfold Clm.iOf
  have := List.findIdx_le_length (xs := List.range cs.length) (p := fun (i : Nat) => decide (Clm.jOf cs gs i < cs.length))
  rwa [List.length_range] at this
theorem l33_5_run : ∀ base kv H o kv' H', (l33_5 base kv H).val = some (o, kv', H') → LoopOK T13 33 5 base kv H o kv' H' := l33_5_ok T13_ok (by kernel_rfl) (by
  intro cs gs r hv
  obtain ⟨hl, hv2⟩ := guard_val hv
  simp only [Bool.and_eq_true, decide_eq_true_eq] at hl
  obtain ⟨⟨⟨h1, h2⟩, h3⟩, h4⟩ := hl
  have stp : ∀ i : Nat, i < cs.length → ¬ Clm.jOf cs gs i < cs.length → ∀ again : Ag, lpStep T13 33 5 0 (lpc T13 33 5) again [lI cs, lI gs, vi 0, vi 0, vi 0, vi i] [] = again [lI cs, lI gs, vi 0, vi 0, vi 0, vi ((i + 1 : Nat) : Int)] [] := by
    intro i hi ha again
    rw [nl33_5, wrapi (x := (i : Int) + 1) (by omega) (by omega)]
    simp only [dec_lt hi, cond_true, h1, h2, decide_eq_true h3, decide_eq_true h4, dec_ge, decide_true, Bool.and_self, toNat_cast, decide_eq_false ha, cond_false]
    rfl
  rcases br_val hv2 with ⟨hc, hv3⟩ | ⟨hc, hv3⟩
  · have hc := of_decide_eq_true hc
    have hat := iOf_at hc
    obtain ⟨mm, hm⟩ := steps_of (T := T13) (fid := 33) (lid := 5) (base := 0) (c := lpc T13 33 5) (Clm.iOf cs gs) (fun i => [lI cs, lI gs, vi 0, vi 0, vi 0, vi (i : Nat)]) (fun _ => []) (.ret, [lI cs, lI gs, vi (Clm.iOf cs gs : Nat), vi (Clm.jOf cs gs (Clm.iOf cs gs) : Nat), vi 0, vi (Clm.iOf cs gs : Nat)], [])
      (fun i hi again => stp i (by omega) (iOf_before hi (by omega)) again)
      (fun again => by
        rw [nl33_5, wrapi (x := ((Clm.iOf cs gs : Nat) : Int) + 1) (by omega) (by omega)]
        simp only [dec_lt hc, cond_true, h1, h2, decide_eq_true h3, decide_eq_true h4, dec_ge, decide_true, Bool.and_self, toNat_cast, decide_eq_true hat])
    exact ⟨mm, hm.trans (by rw [leaf_val hv3])⟩
  · have hc := of_decide_eq_false hc
    have hle := iOf_le cs gs
    obtain ⟨mm, hm⟩ := steps_of (T := T13) (fid := 33) (lid := 5) (base := 0) (c := lpc T13 33 5) cs.length (fun i => [lI cs, lI gs, vi 0, vi 0, vi 0, vi (i : Nat)]) (fun _ => []) (.ext 0, [lI cs, lI gs, vi 0, vi 0, vi 0, vi cs.length], [])
      (fun i hi again => stp i hi (iOf_before (by omega) hi) again)
      (fun again => by
        rw [nl33_5]
        simp only [dec_ll, cond_false])
    exact ⟨mm, hm.trans (by rw [leaf_val hv3])⟩)
theorem T14_ok : TabOK T14 := by
  have h := T13_ok
  have h := h.addLoop (g := 33) (lid := 5) (r := l33_5) fun b k H o k' H' hv => by refine LoopOK.tab ?_ ?_ ?_ ?_ (l33_5_run b k H o k' H' hv) <;> rfl
  exact h
theorem val_n {w : Int} {cs gs : List Int} (h : (Clm.validV w cs gs == 0) = true) : (Clm.validV w cs gs != 0) = false := by rw [bne, h]; rfl
theorem val_t {w : Int} {cs gs : List Int} (h : (Clm.validV w cs gs == 0) = false) : (Clm.validV w cs gs != 0) = true := by rw [bne, h]; rfl
theorem sb_gs {w : Int} {cs gs : List Int} (h : OkV w cs gs) : Clm.sb gs = true := Clm.sb_of fun x hx => by have := okG_in h.ok h.len h.g x hx; omega
theorem c33_run : ∀ args H v H', (c33 args H).val = some (v, H') → CallOK T14 33 args H v H' := c33_ok T14_ok (by
  intro cs gs w r hv
  rw [leaf_val hv, nf33]
  unfold Clm.why1 Clm.why2 Clm.whyE
  cases hc : Clm.validV w cs gs == 0 with
  | false => rw [cond_t (val_t hc)]; rfl
  | true =>
    have V := okv_of (beq_iff_eq.1 hc)
    rw [cond_f (val_n hc), cond_t (by rw [sb_ok V.ok, sb_gs V, decide_eq_true V.len, decide_eq_true V.ok.len]; rfl)]
    cases Clm.foundV cs gs <;> rfl)
theorem c36_run : ∀ args H v H', (c36 args H).val = some (v, H') → CallOK T14 36 args H v H' := c36_ok T14_ok (by
  intro cs gs w i j r hv
  rw [leaf_val hv, nf36]
  unfold Clm.provV
  cases hc : Clm.validV w cs gs == 0 with
  | false => rw [cond_t (val_t hc)]; rfl
  | true =>
    have V := okv_of (beq_iff_eq.1 hc)
    have h5 := V.ok.len
    rw [cond_f (val_n hc), wrapi (x := (cs.length : Int) - 1) (by omega) (by omega)]
    cases hi : Clm.inR i 0 ((cs.length : Int) - 1) with
    | false => rfl
    | true =>
      cases hj : Clm.inR j 0 ((cs.length : Int) - 1) with
      | false => rfl
      | true =>
        have a := inR_get hi
        have b := inR_get hj
        simp only [Bool.not_true, cond_false, cond_true, Bool.or_self]
        cases i == j with
        | true => rfl
        | false =>
          simp only [cond_false]
          rw [cond_t (by rw [sb_ok V.ok, sb_gs V, decide_eq_true V.len, decide_eq_true a.1, decide_eq_true b.1, decide_eq_true (show i < (cs.length : Int) by omega), decide_eq_true (show j < (cs.length : Int) by omega)]; rfl)]
          cases Clm.apartV cs gs i j <;> rfl)
theorem c37_run : ∀ args H v H', (c37 args H).val = some (v, H') → CallOK T14 37 args H v H' := c37_ok T14_ok (by
  intro cs gs w i j r hv
  rw [leaf_val hv, nf37]
  unfold Clm.provV
  cases hc : Clm.validV w cs gs == 0 with
  | false => simp only [cond_false]
  | true =>
    have V := okv_of (beq_iff_eq.1 hc)
    have h5 := V.ok.len
    have hz := beq_iff_eq.1 hc
    rw [wrapi (x := (cs.length : Int) - 1) (by omega) (by omega)]
    cases hi : Clm.inR i 0 ((cs.length : Int) - 1) with
    | false => rfl
    | true =>
      cases hj : Clm.inR j 0 ((cs.length : Int) - 1) with
      | false => rfl
      | true =>
        have a := inR_get hi
        have b := inR_get hj
        simp only [Bool.not_true, cond_false, cond_true, Bool.or_self]
        cases i == j with
        | true => rfl
        | false =>
          simp only [cond_false]
          rw [cond_t (by rw [sb_ok V.ok, sb_gs V, decide_eq_true V.len, decide_eq_true a.1, decide_eq_true b.1, decide_eq_true (show i < (cs.length : Int) by omega), decide_eq_true (show j < (cs.length : Int) by omega)]; rfl), Clm.one_apart, hz]
          cases Clm.apartV cs gs i j <;> rfl)
theorem c32_run : ∀ args H v H', (c32 args H).val = some (v, H') → CallOK T14 32 args H v H' := by
  intro args H v H' hv
  unfold c32 at hv
  split at hv
  · rename_i w cs gs
    have e := leaf_val hv
    cases e
    have h34 : CallOK T14 34 [vi w, lI cs, lI gs] [] (vi (Clm.validV w cs gs)) [] := CallOK.tab (T := T12) rfl rfl (c34_run _ _ _ _ rfl)
    unfold Clm.why1 Clm.why2 Clm.whyE
    cases hc : Clm.validV w cs gs == 0 with
    | false =>
      refine ClmW.why_callE rfl (fun _ => rfl) (fun h => by simp only [cond_false] at h; rw [h] at hc; cases hc) h34
    | true =>
      have hz := beq_iff_eq.1 hc
      have V := okv_of hz
      have h5 := V.ok.len
      rw [hz] at h34
      refine ClmW.why_callO rfl (fun _ => rfl) (by omega) (fun i j => Clm.apartV cs gs i j) _ _ _ ?_ ?_ h34 (fun i j hij hj => CallOK.tab (T := T11) rfl rfl (c70_run _ _ _ _ ?_))
      · intro i j hij hj ha hb
        have hji : Clm.jOf cs gs i = j := by
          rcases Nat.lt_trichotomy (Clm.jOf cs gs i) j with h | h | h
          · have := jOf_at (cs := cs) (gs := gs) (i := i) (by omega)
            have := hb i (Clm.jOf cs gs i) this.1 (by omega) (.inr ⟨rfl, h⟩)
            rw [(jOf_at (cs := cs) (gs := gs) (i := i) (by omega)).2] at this
            cases this
          · exact h
          · have := jOf_before h hij hj
            rw [ha] at this; cases this
        have hii : Clm.iOf cs gs = i := by
          rcases Nat.lt_trichotomy (Clm.iOf cs gs) i with h | h | h
          · have h1 := iOf_at (cs := cs) (gs := gs) (by omega)
            have h2 := jOf_at h1
            have := hb _ _ h2.1 h1 (.inl h)
            rw [h2.2] at this; cases this
          · exact h
          · have := iOf_before h (by omega)
            omega
        have hf : Clm.foundV cs gs = true := decide_eq_true (by omega)
        rw [hf, hii, hji]
        exact ⟨rfl, rfl, rfl⟩
      · intro hb
        have hf : Clm.foundV cs gs = false := decide_eq_false fun h => by
          have h1 := iOf_at h
          have h2 := jOf_at h1
          have := hb _ _ h2.1 h1
          rw [h2.2] at this; cases this
        rw [hf]
        exact ⟨rfl, rfl, rfl⟩
      · show (c70t cs gs i j).val = _
        unfold c70t
        rw [cond_t' (by rw [sb_ok V.ok, sb_gs V, decide_eq_true V.len, decide_eq_true (show (0 : Int) ≤ (i : Int) by omega), decide_eq_true (show (0 : Int) ≤ (j : Int) by omega), decide_eq_true (show (i : Int) < (cs.length : Int) by omega), decide_eq_true (show (j : Int) < (cs.length : Int) by omega)]; rfl)]
        rfl
  · cases hv
theorem T15_ok : TabOK T15 := by
  have h := T14_ok
  have h := h.addCall (g := 32) (r := c32) fun a H v H' hv => by refine CallOK.tab ?_ ?_ (c32_run a H v H' hv) <;> rfl
  have h := h.addCall (g := 33) (r := c33) fun a H v H' hv => by refine CallOK.tab ?_ ?_ (c33_run a H v H' hv) <;> rfl
  have h := h.addCall (g := 36) (r := c36) fun a H v H' hv => by refine CallOK.tab ?_ ?_ (c36_run a H v H' hv) <;> rfl
  have h := h.addCall (g := 37) (r := c37) fun a H v H' hv => by refine CallOK.tab ?_ ?_ (c37_run a H v H' hv) <;> rfl
  exact h
end Go.Ev.Clm
