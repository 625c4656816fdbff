/- The lane chapter's table where the check fails, and the comparing of equal tables. -/
import Derived.Test.YtlckdhlepjimeaaSd
import Derived.Test.YtlckdhlepjimeaaSa
import Derived.Test.YtlckdhlepjimeaaRs
set_option linter.unusedVariables false
set_option linter.unusedSimpArgs false
namespace Go.Ev.Lane
open Go Go.Ev
set_option maxRecDepth 1000000
set_option maxHeartbeats 0
set_option linter.unusedVariables false
theorem nf14 (sh ya ti : List Int) (a b : Int) : evBody U2 14 [aP a b sh, aX ya ti] [] = (bif decide ((↑sh.length : Int) > 40) then some (vb true, []) else bif decide ((↑ya.length : Int) > 40) then some (vb true, []) else some (vb (decide ((↑ti.length : Int) > 40)), [])) := by kernel_rfl
def _root_.Lan.big (sh ya ti : List Int) : Bool := decide (40 < sh.length) || decide (40 < ya.length) || decide (40 < ti.length)
def c14t (sh ya ti : List Int) (a b : Int) : Tree (AV × Hp) := (.leaf (vb (Lan.big sh ya ti), []))
def c14 (args : List AV) (H : Hp) : Tree (AV × Hp) := match args, H with
  | [(.agg [.sc (.int .i64 a), .sc (.int .i64 b), .sl (.int .i64) sh false] false), (.agg [.sl (.int .i64) ya false, .sl (.int .i64) ti false] false)], [] => c14t sh ya ti a b
  | _, _ => .fail
theorem c14_ok {T : Tab} (hT : TabOK T) (h : ∀ (sh ya ti : List Int) (a b : Int) (r : AV × Hp), (c14t sh ya ti a b).val = some r → evBody T 14 [aP a b sh, aX ya ti] [] = some r) : ∀ args H v H', (c14 args H).val = some (v, H') → CallOK T 14 args H v H' := by
  intro args H v H' hv
  unfold c14 at hv
  split at hv
  · exact evBody_sound hT (h _ _ _ _ _ _ hv)
  · cases hv
theorem nl34 (again : Ag) (l m : List Int) (i : Int) : lpStep U2 34 4 0 (lpc U2 34 4) again [lI l, lI m, vb false, vi i] [] = (bif decide (i < (↑l.length : Int)) then bif decide (0 ≤ i) then bif decide (i < (↑l.length : Int)) then oM l[i.toNat]? fun x => bif decide (0 ≤ i) then bif decide (i < (↑m.length : Int)) then oM m[i.toNat]? fun x_1 => bif x != x_1 then some (.ret, [.sl (.int .i64) l false, .sl (.int .i64) m false, vb false, vi i], []) else again [.sl (.int .i64) l false, .sl (.int .i64) m false, vb false, vi (IntKind.i64.wrap (i + 1))] [] else none else none else none else none else some (.ext 0, [.sl (.int .i64) l false, .sl (.int .i64) m false, vb false, vi i], [])) := by kernel_rfl
def l34_4t (l m : List Int) : Tree (Out × List AV × Hp) := .br (sm l && decide (m = l)) (.leaf (.ext 0, [lI l, lI m, vb false, vi l.length], [])) .fail
def l34_4 (base : Nat) (kv : List AV) (H : Hp) : Tree (Out × List AV × Hp) := match Nat.beq base 0, kv, H with
  | true, [(.sl (.int .i64) l false), (.sl (.int .i64) m false), (.sc (.bool false)), (.sc (.int .i64 0))], [] => l34_4t l m
  | _, _, _ => .fail
theorem l34_4_ok {T : Tab} (hT : TabOK T) (hlo : loopOf T.fn 34 4 = some (lpc T 34 4)) (h : ∀ (l m : List Int) (r : Out × List AV × Hp), (l34_4t l m).val = some r → ∃ mm, lpRun T 34 4 0 (lpc T 34 4) mm [lI l, lI m, vb false, vi 0] [] = some r) : ∀ base kv H o kv' H', (l34_4 base kv H).val = some (o, kv', H') → LoopOK T 34 4 base kv H o kv' H' := by
  intro base kv H o kv' H' hv
  unfold l34_4 at hv
  split at hv
  · rename_i hb
    obtain rfl := Nat.eq_of_beq_eq_true hb
    exact loop_ok hT hlo (h _ _ _ hv)
  · cases hv
noncomputable def X1 : Tab := (U2).addLoop 34 4 l34_4
theorem nf34 (l m : List Int) : evBody X1 34 [lI l, lI m] [] = (bif (↑l.length : Int) != (↑m.length : Int) then some (vb false, []) else bif sm l && decide (m = l) then some (vb true, []) else none) := by kernel_rfl
def c34t (l m : List Int) : Tree (AV × Hp) := .br (sm l && decide (m = l)) (.leaf (vb true, [])) .fail
def c34 (args : List AV) (H : Hp) : Tree (AV × Hp) := match args, H with
  | [(.sl (.int .i64) l false), (.sl (.int .i64) m false)], [] => c34t l m
  | _, _ => .fail
theorem c34_ok {T : Tab} (hT : TabOK T) (h : ∀ (l m : List Int) (r : AV × Hp), (c34t l m).val = some r → evBody T 34 [lI l, lI m] [] = some r) : ∀ args H v H', (c34 args H).val = some (v, H') → CallOK T 34 args H v H' := by
  intro args H v H' hv
  unfold c34 at hv
  split at hv
  · exact evBody_sound hT (h _ _ _ hv)
  · cases hv
noncomputable def X2 : Tab := (X1).addCall 34 c34
def _root_.Lan.eqT (A B : List (List Int)) : Bool := sm A && (A.all fun l => sm l) && decide (B = A)
end Go.Ev.Lane
namespace Go.Ev.Lane
open Go Go.Ev
set_option maxRecDepth 1000000
set_option maxHeartbeats 0
set_option linter.unusedVariables false
def cTrue : List AV → Hp → Tree (AV × Hp) := fun a H => match a, H with
  | [], [] => .leaf (vb true, [])
  | _, _ => .fail
end Go.Ev.Lane
namespace Go.Ev.Lane
open Go Go.Ev
set_option maxRecDepth 1000000
set_option linter.unusedVariables false
set_option linter.unusedSimpArgs false
theorem c14_run : ∀ args H v H', (c14 args H).val = some (v, H') → CallOK U2 14 args H v H' := c14_ok U2_ok (by
  intro sh ya ti a b r hv
  rw [leaf_val hv]
  refine (nf14 ..).trans ?_
  unfold Lan.big
  rw [show decide ((sh.length : Int) > 40) = decide (40 < sh.length) by rw [decide_eq_decide]; omega, show decide ((ya.length : Int) > 40) = decide (40 < ya.length) by rw [decide_eq_decide]; omega, show decide ((ti.length : Int) > 40) = decide (40 < ti.length) by rw [decide_eq_decide]; omega]
  cases decide (40 < sh.length) <;> cases decide (40 < ya.length) <;> rfl)
theorem l34_4_run : ∀ base kv H o kv' H', (l34_4 base kv H).val = some (o, kv', H') → LoopOK U2 34 4 base kv H o kv' H' := l34_4_ok U2_ok (by kernel_rfl) (by
  intro l m r hv
  obtain ⟨hl, hv2⟩ := guard_val hv
  simp only [Bool.and_eq_true, decide_eq_true_eq] at hl
  obtain ⟨hsm, rfl⟩ := hl
  have hsm := sm_le hsm
  obtain ⟨mm, hm⟩ := steps_of (T := U2) (fid := 34) (lid := 4) (base := 0) (c := lpc U2 34 4) m.length (fun i => [lI m, lI m, vb false, vi (i : Nat)]) (fun _ => []) (.ext 0, [lI m, lI m, vb false, vi m.length], [])
    (fun i hi again => by
      refine (nl34 ..).trans ?_
      simp only [dec_lt hi, dec_ge, toNat_cast, Lan.get_getD hi, oM, cond_true, bne_self_eq_false, cond_false]
      rw [wrap_succ (by omega)])
    (fun again => by
      refine (nl34 ..).trans ?_
      simp only [dec_ll, cond_false])
  exact ⟨mm, hm.trans (by rw [leaf_val hv2])⟩)
theorem X1_ok : TabOK X1 := by
  have h := U2_ok
  have h := h.addLoop (g := 34) (lid := 4) (r := l34_4) fun b k H o k' H' hv => by refine LoopOK.tab ?_ ?_ ?_ ?_ (l34_4_run b k H o k' H' hv) <;> rfl
  exact h
theorem c34_run : ∀ args H v H', (c34 args H).val = some (v, H') → CallOK X1 34 args H v H' := c34_ok X1_ok (by
  intro l m r hv
  obtain ⟨hl, hv2⟩ := guard_val hv
  have hl2 := hl
  simp only [Bool.and_eq_true, decide_eq_true_eq] at hl
  rw [nf34, leaf_val hv2, hl2, hl.2]
  simp only [bne_self_eq_false, cond_false, cond_true])
theorem X2_ok : TabOK X2 := by
  have h := X1_ok
  have h := h.addCall (g := 34) (r := c34) fun a H v H' hv => by refine CallOK.tab ?_ ?_ (c34_run a H v H' hv) <;> rfl
  exact h
end Go.Ev.Lane
namespace Go.Ev.Lane
open Go Go.Ev Go.Proofs Go.RowKit Go.ChangeShapes Go.WideShapes
set_option maxRecDepth 1000000
set_option linter.unusedVariables false
section read
variable {H : Type} {enc : TypeId × Value → H} {W : World} {base : Nat}
theorem und3 : Try.prog.underlying 3 = some (.int .i64) := by kernel_rfl
theorem und22 : Try.prog.underlying 22 = some (.slice 3) := by kernel_rfl
theorem cells3 : Try.prog.cellsOf 3 = 1 := by kernel_rfl
theorem cells22 : Try.prog.cellsOf 22 = 1 := by kernel_rfl
noncomputable def fields24 : Array Field := match Try.prog.underlying 24 with
  | some (.struct fs) => fs
  | _ => #[]
theorem und24 : Try.prog.underlying 24 = some (.struct fields24) := by kernel_rfl
theorem f24_n : fields24.size = 3 := by kernel_rfl
theorem f24_0 : (fields24[0]?).map (fun f => (f.type, f.offset)) = some (3, 0) := by kernel_rfl
theorem f24_1 : (fields24[1]?).map (fun f => (f.type, f.offset)) = some (3, 1) := by kernel_rfl
theorem f24_2 : (fields24[2]?).map (fun f => (f.type, f.offset)) = some (22, 2) := by kernel_rfl
noncomputable def fields26 : Array Field := match Try.prog.underlying 26 with
  | some (.struct fs) => fs
  | _ => #[]
theorem und26 : Try.prog.underlying 26 = some (.struct fields26) := by kernel_rfl
theorem f26_n : fields26.size = 2 := by kernel_rfl
theorem f26_0 : (fields26[0]?).map (fun f => (f.type, f.offset)) = some (22, 0) := by kernel_rfl
theorem f26_1 : (fields26[1]?).map (fun f => (f.type, f.offset)) = some (22, 1) := by kernel_rfl
theorem cells24 : Try.prog.cellsOf 24 = 3 := by kernel_rfl
theorem cells26 : Try.prog.cellsOf 26 = 2 := by kernel_rfl
theorem read_parish {v : Value} {d : DataW H} {p : List MemPlace} (hv : Value.okWide Try.prog W .any base 24 v) (h : DataW.Trod enc Try.prog W 0 (fun _ => true) true 24 v d p) :
    ∃ a b sh, ∀ L, Rel Try.prog (allOld W) W (.agg [vi a, vi b, lI sh] false) L v := by
  obtain ⟨fuel, h⟩ := h
  obtain ⟨cs, rfl, hs⟩ := okWide_struct und24 hv
  obtain ⟨xs, n, rfl, _, hl, hx, hf⟩ := DataW.trod_struct und24 h
  rw [cells24] at hs
  obtain ⟨c0, c1, c2, rfl⟩ : ∃ c0 c1 c2, cs = #[c0, c1, c2] := by
    obtain ⟨l⟩ := cs
    match l, hs with
    | [a, b, c], _ => exact ⟨a, b, c, rfl⟩
  rw [f24_n] at hx
  obtain ⟨f0, e0, e1⟩ := Option.map_eq_some_iff.1 f24_0
  obtain ⟨f1, e2, e3⟩ := Option.map_eq_some_iff.1 f24_1
  obtain ⟨f2, e4, e5⟩ := Option.map_eq_some_iff.1 f24_2
  simp only [Prod.mk.injEq] at e1 e3 e5
  have h0 := hf 0 f0 e0
  have h1 := hf 1 f1 e2
  have h2 := hf 2 f2 e4
  rw [e1.1, e1.2, cells3, List.getElem?_eq_getElem (by omega)] at h0
  rw [e3.1, e3.2, cells3, List.getElem?_eq_getElem (by omega)] at h1
  rw [e5.1, e5.2, cells22, List.getElem?_eq_getElem (by omega)] at h2
  obtain ⟨m, hm, _⟩ := trod_int und3 h0
  obtain ⟨m1, hm1, _⟩ := trod_int und3 h1
  obtain ⟨u, l, hu, hr, _⟩ := read_ints und22 und3 cells3 h2
  simp [Value.cells] at hm hm1 hu
  subst hm
  subst hm1
  subst hu
  refine ⟨m, m1, l, fun L => ?_⟩
  refine ⟨_, rfl, rfl, ?_⟩
  refine ⟨(fun e l h => by cases h), (fun _ => ⟨_, rfl, rfl⟩), ?_⟩
  refine ⟨(fun e l h => by cases h), (fun _ => ⟨_, rfl, rfl⟩), ?_⟩
  refine ⟨(fun e l h => by cases h), (fun _ => ⟨_, rfl, hr _⟩), trivial⟩
theorem read_places {v : Value} {d : DataW H} {p : List MemPlace} (hv : Value.okWide Try.prog W .any base 26 v) (h : DataW.Trod enc Try.prog W 0 (fun _ => true) true 26 v d p) :
    ∃ ya ti, ∀ L, Rel Try.prog (allOld W) W (.agg [lI ya, lI ti] false) L v := by
  obtain ⟨fuel, h⟩ := h
  obtain ⟨cs, rfl, hs⟩ := okWide_struct und26 hv
  obtain ⟨xs, n, rfl, _, hl, hx, hf⟩ := DataW.trod_struct und26 h
  rw [cells26] at hs
  obtain ⟨c0, c1, rfl⟩ : ∃ c0 c1, cs = #[c0, c1] := by
    obtain ⟨l⟩ := cs
    match l, hs with
    | [a, b], _ => exact ⟨a, b, rfl⟩
  rw [f26_n] at hx
  obtain ⟨f0, e0, e1⟩ := Option.map_eq_some_iff.1 f26_0
  obtain ⟨f1, e2, e3⟩ := Option.map_eq_some_iff.1 f26_1
  simp only [Prod.mk.injEq] at e1 e3
  have h0 := hf 0 f0 e0
  have h1 := hf 1 f1 e2
  rw [e1.1, e1.2, cells22, List.getElem?_eq_getElem (by omega)] at h0
  rw [e3.1, e3.2, cells22, List.getElem?_eq_getElem (by omega)] at h1
  obtain ⟨u0, l0, hu0, hr0, _⟩ := read_ints und22 und3 cells3 h0
  obtain ⟨u1, l1, hu1, hr1, _⟩ := read_ints und22 und3 cells3 h1
  simp [Value.cells] at hu0 hu1
  subst hu0
  subst hu1
  refine ⟨l0, l1, fun L => ?_⟩
  refine ⟨_, rfl, rfl, ?_⟩
  refine ⟨(fun e l h => by cases h), (fun _ => ⟨_, rfl, hr0 _⟩), ?_⟩
  refine ⟨(fun e l h => by cases h), (fun _ => ⟨_, rfl, hr1 _⟩), trivial⟩
theorem read_list {v : Value} {d : DataW H} {p : List MemPlace} (hv : Value.okWide Try.prog W .any base 22 v) (h : DataW.Trod enc Try.prog W 0 (fun _ => true) true 22 v d p) :
    ∃ l, (∀ L, Rel Try.prog (allOld W) W (lI l) L v) := by
  obtain ⟨fuel, h⟩ := h
  obtain ⟨a, len, cap, rfl⟩ := okWide_slice und22 hv
  obtain ⟨u, l, hu, hr, _⟩ := read_ints und22 und3 cells3 h
  simp [Value.cells] at hu
  subst hu
  exact ⟨l, hr⟩
theorem glob_ok {T : Tab} (hg : ∀ g, T.glob g = none) (W : World) : GlobOK T (allOld W) W := fun g c ty hc => by rw [hg] at hc; cases hc
end read
end Go.Ev.Lane
