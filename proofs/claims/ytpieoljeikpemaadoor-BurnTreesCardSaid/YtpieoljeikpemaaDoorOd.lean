/- Heaps by numbers: made's answer. -/
import Derived.Test.YtpieoljeikpemaaDoorOc
import Derived.Test.YtpieoljeikpemaaDoorOa
import Derived.Test.YtpieoljeikpemaaDoorLa
import Derived.Test.YtpieoljeikpemaaDoorOb
set_option linter.unusedVariables false
set_option linter.unusedSimpArgs false
namespace Go.Ev.Burn
open Go Go.Ev
set_option maxRecDepth 1000000
set_option linter.unusedVariables false
set_option linter.unusedSimpArgs false
theorem nest_ok {T : Tab} (h : TabOK T) : TabOK { T with nest := true } :=
  ⟨fun f a H v H' hv => by refine CallOK.tab ?_ ?_ (h.calls f a H v H' hv) <;> rfl, fun f l b k H o k' H' hv => by refine LoopOK.tab ?_ ?_ ?_ ?_ (h.loops f l b k H o k' H' hv) <;> rfl, h.fns, h.mixed⟩
theorem M7_ok : TabOK M7 := by
  have h := M5_ok.addLoop (g := 50) (lid := 7) (r := l50_7s) fun b k H o k' H' hv => by refine LoopOK.tab ?_ ?_ ?_ ?_ (l50_7s_run b k H o k' H' hv) <;> rfl
  have h := h.addCall (g := 63) (r := c63) fun a H v H' hv => by refine CallOK.tab ?_ ?_ (c63_run a H v H' hv) <;> rfl
  exact nest_ok h
theorem c63z_run (z : List Int) : ∀ args H v H', (c63z z args H).val = some (v, H') → CallOK N3 63 args H v H' := by
  intro args H v H' hv
  unfold c63z at hv
  split at hv
  · rename_i n
    obtain ⟨hl, hv2⟩ := guard_val hv
    simp only [Bool.and_eq_true, decide_eq_true_eq] at hl
    refine c63_run _ _ _ _ ?_
    show (c63t n []).val = _
    unfold c63t
    rw [decide_eq_true hl.1, ← hl.2]
    exact hv2
  · cases hv
theorem M8_ok (z : List Int) : TabOK (M8 z) := by
  have h := M5_ok.addLoop (g := 50) (lid := 7) (r := l50_7n) fun b k H o k' H' hv => by refine LoopOK.tab ?_ ?_ ?_ ?_ (l50_7n_run b k H o k' H' hv) <;> rfl
  have h := h.addCall (g := 63) (r := c63z z) fun a H v H' hv => by refine CallOK.tab ?_ ?_ (c63z_run z a H v H' hv) <;> rfl
  exact nest_ok h
end Go.Ev.Burn
namespace Go.Ev.Burn
open Go Go.Ev
set_option maxRecDepth 1000000
set_option linter.unusedVariables false
set_option linter.unusedSimpArgs false
theorem c50_run : ∀ args H v H', (c50 args H).val = some (v, H') → CallOK M5 50 args H v H' := by
  intro args H v H' hv
  unfold c50 at hv
  split at hv
  · rename_i pl b m x most
    obtain ⟨hl, hv2⟩ := guard_val hv
    simp only [Bool.and_eq_true, decide_eq_true_eq] at hl
    obtain ⟨⟨⟨⟨⟨⟨⟨⟨⟨hb, hm⟩, ub⟩, um⟩, x0⟩, x1⟩, p0⟩, p1⟩, m0⟩, m1⟩ := hl
    have hN : IntKind.i64.wrap (1 + (IntKind.i64.wrap pl).tmod most) = Brn.skN ⟨pl, b, m, x⟩ most := by
      have := tmod_bound p0 (show 0 < most by omega)
      rw [wrapi (x := pl) (by omega) (by omega), wrapi (by omega) (by omega)]; rfl
    have hNb : 1 ≤ Brn.skN ⟨pl, b, m, x⟩ most ∧ Brn.skN ⟨pl, b, m, x⟩ most ≤ most := by
      have := tmod_bound p0 (show 0 < most by omega)
      unfold Brn.skN; simp only; omega
    have hx : IntKind.i64.wrap x = x := wrapi (by omega) (by omega)
    have hx5 := tmod_bound x0 (show (0 : Int) < 5 by omega)
    have hMO : (List.take (x.tmod 5).toNat (List.map (fun i => (m.getD (i * 2) 0, m.getD (i * 2 + 1) 0)) (List.range 4))) = Brn.skMo m x := rfl
    obtain ⟨mo1, mo2⟩ := Brn.mo_in um x
    rcases br_val hv2 with ⟨hc, hv3⟩ | ⟨hc, hv3⟩
    · have hc := of_decide_eq_true hc
      have e := leaf_val hv3
      refine CallOK.tab (T := M8 (Brn.distN 1 [])) (by rfl) (by rfl) (evBody_sound (M8_ok _) ?_)
      rw [e, nf50o, hN, hx, hc, hMO]
      refine (cond_t (decide_eq_true ?_)).trans ?_
      · show [1, b.length * 1, m.length * 1, 1] = _
        rw [hb, hm]; kernel_rfl
      refine (cond_t (by rw [decide_eq_false (by omega)]; rfl)).trans ?_
      refine (cond_t (by rw [decide_eq_true hb, ub]; rfl)).trans ?_
      refine (cond_t rfl).trans ?_
      refine (cond_t (decide_eq_true hx5.1)).trans ?_
      refine (cond_t (decide_eq_true (by omega))).trans ?_
      refine (cond_t (decide_eq_true (by omega))).trans ?_
      refine (cond_t (by rw [decide_eq_true rfl, decide_eq_true mo2, mo1]; rfl)).trans ?_
      refine (cond_t (by rw [decide_eq_true (show Brn.distN 1 [] = Brn.distN 1 [] from rfl)]; rfl)).trans ?_
      have hd1 : (Brn.distN 1 []).length = 81 := by
        rw [show Brn.distN 1 [] = Brn.dist9 [] by unfold Brn.distN; rw [decide_eq_false (by omega), cond_false]]
        exact Brn.dist9_len []
      refine (cond_t (decide_eq_true ?_)).trans ?_
      · show [(Brn.distN 1 []).length * 1] = _
        rw [hd1]; kernel_rfl
      rfl
    · have hc := of_decide_eq_false hc
      have e := leaf_val hv3
      refine CallOK.tab (T := M7) (by rfl) (by rfl) (evBody_sound M7_ok ?_)
      rw [e, nf50s, hN, hx, hMO]
      refine (cond_t (decide_eq_true ?_)).trans ?_
      · show [1, b.length * 1, m.length * 1, 1] = _
        rw [hb, hm]; kernel_rfl
      refine (cond_t (by rw [decide_eq_false (by omega)]; rfl)).trans ?_
      refine (cond_t (by rw [decide_eq_true hb, ub, decide_eq_true hNb.1, decide_eq_true (show Brn.skN ⟨pl, b, m, x⟩ most ≤ 9 by omega)]; rfl)).trans ?_
      rw [decide_eq_false hc]
      refine (cond_t (decide_eq_true hx5.1)).trans ?_
      refine (cond_t (decide_eq_true (by omega))).trans ?_
      refine (cond_t (decide_eq_true (by omega))).trans ?_
      have hbl := Brn.back_len b (Brn.skN ⟨pl, b, m, x⟩ most)
      refine (cond_t (by rw [decide_eq_true rfl, decide_eq_true rfl, decide_eq_true rfl, decide_eq_true hNb.1, decide_eq_true (show Brn.skN ⟨pl, b, m, x⟩ most ≤ 9 by omega), decide_eq_true mo2, decide_eq_true (show (Brn.backW b (Brn.skN ⟨pl, b, m, x⟩ most)).length ≤ 8 by omega), mo1]; rfl)).trans ?_
      have nn : ∀ y ∈ b, 0 ≤ y := fun y hy => (u8_get ub hy).1
      have hg := Brn.fold_more_good hNb.1 (Brn.skMo m x) _ (fun y hy => ⟨(p8_get mo1 hy).1.1, (p8_get mo1 hy).2.1⟩) (Brn.back_good nn hNb.1)
      have hlen := Brn.fold_more_len (Brn.skN ⟨pl, b, m, x⟩ most) (Brn.skMo m x) (Brn.backW b (Brn.skN ⟨pl, b, m, x⟩ most))
      have hsm : sm ((Brn.skMo m x).foldl (Brn.moreW (Brn.skN ⟨pl, b, m, x⟩ most)) (Brn.backW b (Brn.skN ⟨pl, b, m, x⟩ most))) = true := sm_of (k := 20) (by omega) (by omega)
      have hall : ((Brn.skMo m x).foldl (Brn.moreW (Brn.skN ⟨pl, b, m, x⟩ most)) (Brn.backW b (Brn.skN ⟨pl, b, m, x⟩ most))).all (fun w => decide (0 ≤ w.1) && decide (w.1 < 9) && decide (0 ≤ w.2) && decide (w.2 < 9)) = true := by
        rw [List.all_eq_true]
        intro w hw
        obtain ⟨g1, g2, g3⟩ := hg w hw
        simp only [Bool.and_eq_true, decide_eq_true_eq]
        omega
      have hd1 : ∀ ws, (Brn.distN (Brn.skN ⟨pl, b, m, x⟩ most) ws).length = 81 := fun ws => by
        rw [show Brn.distN (Brn.skN ⟨pl, b, m, x⟩ most) ws = Brn.dist9 ws by unfold Brn.distN; rw [decide_eq_false (by omega), cond_false]]
        exact Brn.dist9_len ws
      refine (cond_t (by rw [hsm, hall, decide_eq_true hNb.1]; rfl)).trans ?_
      refine (cond_t (decide_eq_true ?_)).trans ?_
      · show [(Brn.distN (Brn.skN ⟨pl, b, m, x⟩ most) _).length * 1] = _
        rw [hd1]; kernel_rfl
      rfl
  · cases hv
end Go.Ev.Burn
namespace Go.Ev.Burn
open Go Go.Ev
set_option maxRecDepth 1000000
set_option linter.unusedVariables false
abbrev rWz (ws : Ws) (t : TypeId) (z : Bool) : Row := ⟨[.run (.pair .i64) ws], false, t, z, false, none⟩
def _root_.Brn.skG (pl x most : Int) (b m : List Int) (N : Int) (W : Ws) (D : List Int) : Bool := decide (b.length = 9) && decide (m.length = 8) && Brn.u8s b && Brn.u8s m && decide (0 ≤ x) && decide (x < 256) && decide (0 ≤ pl) && decide (pl < 256) && decide (1 ≤ most) && decide (most ≤ 9) && decide (N = Brn.skN ⟨pl, b, m, x⟩ most) && decide (W = Brn.skW ⟨pl, b, m, x⟩ most) && decide (D = Brn.distN N W)
def c50v (N : Int) (W : Ws) (D : List Int) (args : List AV) (H : Hp) : Tree (AV × Hp) := match args, H with
  | [.agg [.sc (.int .u8 pl), .run (.int .u8) b, .run (.int .u8) m, .sc (.int .u8 x)] false, .sc (.int .i64 most)], [] => .br (Brn.skG pl x most b m N W D) (.br (decide (N = 1)) (.leaf (.tuple [.agg [vi N, .sc (.slice none 0 0)] false, .agg [.run (.int .i64) D] false], [])) (.leaf (.tuple [.agg [.sc (.int .i64 N), osW 0 W.length] true, .agg [.run (.int .i64) D] false], [some (rW W 66)]))) .fail
  | _, _ => .fail
theorem c50v_run (N : Int) (W : Ws) (D : List Int) : ∀ args H v H', (c50v N W D args H).val = some (v, H') → CallOK M5 50 args H v H' := by
  intro args H v H' hv
  unfold c50v at hv
  split at hv
  · rename_i pl b m x most
    obtain ⟨hl, hv2⟩ := guard_val hv
    unfold Brn.skG at hl
    simp only [Bool.and_eq_true, decide_eq_true_eq] at hl
    obtain ⟨⟨⟨hl, rfl⟩, rfl⟩, rfl⟩ := hl
    refine c50_run _ _ _ _ ?_
    show (c50t pl x most b m).val = _
    unfold c50t
    rw [cond_t' (by simp only [Bool.and_eq_true, decide_eq_true_eq]; exact hl)]
    rcases br_val hv2 with ⟨hc, hv3⟩ | ⟨hc, hv3⟩
    · rw [cond_t' hc]
      have hc := of_decide_eq_true hc
      rw [hc] at hv3
      have hW : Brn.skW ⟨pl, b, m, x⟩ most = [] := by
        have hf : Brn.Sk.Fit ⟨pl, b, m, x⟩ := ⟨⟨hl.1.1.1.2, hl.1.1.2⟩, ⟨hl.1.1.1.1.1.1.1.1.1, fun y hy => by have := hl.1.1.1.1.1.1.1.2; unfold Brn.u8s at this; rw [List.all_eq_true] at this; simpa using this y hy⟩, ⟨hl.1.1.1.1.1.1.1.1.2, fun y hy => by have := hl.1.1.1.1.1.1.2; unfold Brn.u8s at this; rw [List.all_eq_true] at this; simpa using this y hy⟩, ⟨hl.1.1.1.1.1.2, hl.1.1.1.1.2⟩⟩
        have hg := Brn.skW_good hf hl.1.2
        rw [hc] at hg
        rw [List.eq_nil_iff_forall_not_mem]
        intro w hw
        obtain ⟨g1, g2, g3⟩ := hg w hw
        omega
      rw [hW] at hv3
      exact hv3
    · rw [cond_f' hc]
      exact hv3
  · cases hv
structure Made (b m : List Int) (N : Int) (W : Ws) (D : List Int) (most : Int) : Prop where
  hb : b.length = 9
  hm : m.length = 8
  ok : Brn.Ok N W
  chk : Brn.chk N W = 0
  sw : sm W = true
  dist : D = Brn.distN N W
  len : D.length = 81
  one : N = 1 → W = []
  le : N ≤ most
theorem made_of {pl x most : Int} {b m : List Int} {N : Int} {W : Ws} {D : List Int} (hl : Brn.skG pl x most b m N W D = true) : Made b m N W D most := by
  unfold Brn.skG at hl
  simp only [Bool.and_eq_true, decide_eq_true_eq] at hl
  obtain ⟨⟨⟨hl, rfl⟩, rfl⟩, rfl⟩ := hl
  have hf : Brn.Sk.Fit ⟨pl, b, m, x⟩ := ⟨⟨hl.1.1.1.2, hl.1.1.2⟩, ⟨hl.1.1.1.1.1.1.1.1.1, fun y hy => by have := hl.1.1.1.1.1.1.1.2; unfold Brn.u8s at this; rw [List.all_eq_true] at this; simpa using this y hy⟩, ⟨hl.1.1.1.1.1.1.1.1.2, fun y hy => by have := hl.1.1.1.1.1.1.2; unfold Brn.u8s at this; rw [List.all_eq_true] at this; simpa using this y hy⟩, ⟨hl.1.1.1.1.1.2, hl.1.1.1.1.2⟩⟩
  have hk := Brn.sk_ok hf hl.1.2 hl.2
  have ok := Brn.sk_Ok hf hl.1.2 hl.2
  refine ⟨hf.b.1, hf.m.1, ok, hk, sm_of (k := 12) (Brn.skW_len hf hl.1.2 hl.2) (by omega), rfl, ?_, fun hc => ?_, (Brn.skN_in hf hl.1.2).2⟩
  · rw [Brn.distN_of ok.lo]; exact Brn.dist9_len _
  · have hg := Brn.skW_good hf hl.1.2
    rw [hc] at hg
    rw [List.eq_nil_iff_forall_not_mem]
    intro w hw
    obtain ⟨g1, g2, g3⟩ := hg w hw
    omega
theorem skG_of {s : Brn.Sk} (h : s.Fit) {most : Int} (h1 : 1 ≤ most) (h9 : most ≤ 9) : Brn.skG s.places s.extra most s.back s.more (Brn.skN s most) (Brn.skW s most) (Brn.distN (Brn.skN s most) (Brn.skW s most)) = true := by
  unfold Brn.skG
  simp only [Bool.and_eq_true, decide_eq_true_eq]
  refine ⟨⟨⟨⟨⟨⟨⟨⟨⟨⟨⟨⟨h.b.1, h.m.1⟩, h.u.1⟩, h.u.2⟩, h.x.1⟩, h.x.2⟩, h.p.1⟩, h.p.2⟩, h1⟩, h9⟩, ?_⟩, ?_⟩, ?_⟩ <;> trivial
end Go.Ev.Burn
namespace Go.Ev
open Go
set_option linter.unusedVariables false
theorem CallOK.nilOf {T : Tab} {f : FuncId} {args : List AV} {N : Value} {A : AV} {row : Row} (h : CallOK T f args [] (.tuple [.agg [.sc N, .sc (.slice none 0 0)] false, A]) []) (hn : NilOK row) :
    CallOK T f args [] (.tuple [.agg [.sc N, .os 0 0 0 0 true false true] true, A]) [some row] := by
  refine ⟨h.fn, by simp, fun S w L us hst hr => (h.run S w L us hst hr).mono fun e w' ⟨u, S', L', he, hv, hst', hx⟩ => ?_⟩
  have h0 : St T S' w' L' (look []) [0, 1] :=
    ⟨hst'.inv, ⟨by simp, fun b hb i hi => by simp at hb hi; omega⟩, fun i hi => hst'.fresh i (.inr ⟨0, rfl, Nat.zero_le _⟩), hst'.dom, hst'.glob⟩
  obtain ⟨k1, k2, k3⟩ := h0.nil hn
  have e : upd (look []) 0 (some row) = look [some row] := by
    funext r
    cases r with
    | zero => rfl
    | succ r => rfl
  rw [e] at k1
  refine ⟨u, S', _, he, ?_, k1, hx.trans k3⟩
  have hL0 : setL L' 0 none 0 = some none := setL_same _ _ _
  simp only [Rel, RelL] at hv ⊢
  obtain ⟨arr, e1, u0, rest, e2, ⟨a, e3, e4, hc⟩, u1, rest1, e5, h5, h6⟩ := hv
  refine ⟨arr, e1, u0, rest, e2, ⟨a, e3, e4, ?_⟩, u1, rest1, e5, h5.mono (fun _ _ h => h) (fun _ _ _ => rfl) _ k2, h6⟩
  simp only [Cont, single, segSize, Rel] at hc ⊢
  obtain ⟨-, c1, -, c2, -⟩ := hc
  obtain ⟨y0, y1, y2⟩ := c2 trivial
  refine ⟨fun _ _ h => (by cases h), c1, fun _ _ h => (by cases h), fun _ => ⟨y0, y1, ?_⟩, trivial⟩
  unfold OsR
  rw [hL0]
  exact ⟨rfl, rfl, rfl, none, y2⟩
end Go.Ev
namespace Go.Ev.Burn
open Go Go.Ev
set_option maxRecDepth 1000000
set_option linter.unusedVariables false
def c50w (N : Int) (W : Ws) (D : List Int) (args : List AV) (H : Hp) : Tree (AV × Hp) := match args, H with
  | [.agg [.sc (.int .u8 pl), .run (.int .u8) b, .run (.int .u8) m, .sc (.int .u8 x)] false, .sc (.int .i64 most)], [] => .br (Brn.skG pl x most b m N W D) (.leaf (.tuple [.agg [.sc (.int .i64 N), osW 0 W.length] true, .agg [.run (.int .i64) D] false], [some (rW W 66)])) .fail
  | _, _ => .fail
theorem c50w_run (N : Int) (W : Ws) (D : List Int) : ∀ args H v H', (c50w N W D args H).val = some (v, H') → CallOK M5 50 args H v H' := by
  intro args H v H' hv
  unfold c50w at hv
  split at hv
  · rename_i pl b m x most
    obtain ⟨hl, hv2⟩ := guard_val hv
    have e := leaf_val hv2
    by_cases hN : N = 1
    · have hW := (made_of hl).one hN
      subst hW
      have := c50v_run N [] D [.agg [.sc (.int .u8 pl), .run (.int .u8) b, .run (.int .u8) m, .sc (.int .u8 x)] false, .sc (.int .i64 most)] [] (.tuple [.agg [vi N, .sc (.slice none 0 0)] false, .agg [.run (.int .i64) D] false]) [] (by
        unfold c50v
        simp only
        show (Tree.br _ _ _).val = _
        rw [hl, decide_eq_true hN]; rfl)
      have := this.nilOf (row := rW [] 66) (.inr ⟨.pair .i64, rfl⟩)
      simp only [Prod.mk.injEq] at e
      obtain ⟨rfl, rfl⟩ := e
      exact this
    · refine c50v_run N W D _ _ _ _ ?_
      unfold c50v
      simp only
      show (Tree.br _ _ _).val = _
      rw [hl, decide_eq_false hN]
      exact hv2
  · cases hv
end Go.Ev.Burn
namespace Go.Ev.Burn
open Go Go.Ev Go.Proofs Go.RowKit Go.ChangeShapes Go.WideShapes
set_option maxRecDepth 1000000
set_option linter.unusedVariables false
section read
variable {H : Type} {enc : TypeId × Value → H} {W : World} {base : Nat}
theorem und5 : Tryd.prog.underlying 5 = some (.int .u8) := by kernel_rfl
theorem arr68 : arrI Tryd.prog .u8 4 68 = true := by kernel_rfl
theorem arr70 : arrI Tryd.prog .u8 4 70 = true := by kernel_rfl
theorem cells5 : Tryd.prog.cellsOf 5 = 1 := by kernel_rfl
theorem cells68 : Tryd.prog.cellsOf 68 = 9 := by kernel_rfl
theorem cells70 : Tryd.prog.cellsOf 70 = 8 := by kernel_rfl
theorem cells72 : Tryd.prog.cellsOf 72 = 19 := by kernel_rfl
noncomputable def fields72 : Array Field := match Tryd.prog.underlying 72 with
  | some (.struct fs) => fs
  | _ => #[]
theorem und72 : Tryd.prog.underlying 72 = some (.struct fields72) := by kernel_rfl
theorem f72_0 : (fields72[0]?).map (fun f => (f.type, f.offset)) = some (5, 0) := by kernel_rfl
theorem f72_1 : (fields72[1]?).map (fun f => (f.type, f.offset)) = some (68, 1) := by kernel_rfl
theorem f72_2 : (fields72[2]?).map (fun f => (f.type, f.offset)) = some (70, 10) := by kernel_rfl
theorem f72_3 : (fields72[3]?).map (fun f => (f.type, f.offset)) = some (5, 18) := by kernel_rfl
theorem f72_n : fields72.size = 4 := by kernel_rfl
theorem read_sketch {v : Value} {d : DataW H} {p : List MemPlace} (hv : Value.okWide Tryd.prog W .any base 72 v) (h : DataW.Trod enc Tryd.prog W 0 (fun _ => true) true 72 v d p) :
    ∃ s : Brn.Sk, (∀ L, Rel Tryd.prog (allOld W) W (aS s) L v) ∧ s.Fit := by
  obtain ⟨fuel, h⟩ := h
  obtain ⟨cs, rfl, hs⟩ := okWide_struct und72 hv
  obtain ⟨cs⟩ := cs
  obtain ⟨xs, n, rfl, _, hl, hx, hf⟩ := DataW.trod_struct und72 h
  rw [f72_n] at hx
  obtain ⟨f0, e0, d0⟩ := Option.map_eq_some_iff.1 f72_0
  obtain ⟨f1, e1, d1⟩ := Option.map_eq_some_iff.1 f72_1
  obtain ⟨f2, e2, d2⟩ := Option.map_eq_some_iff.1 f72_2
  obtain ⟨f3, e3, d3⟩ := Option.map_eq_some_iff.1 f72_3
  simp only [Prod.mk.injEq] at d0 d1 d2 d3
  have h0 := hf 0 f0 e0
  have h1 := hf 1 f1 e1
  have h2 := hf 2 f2 e2
  have h3 := hf 3 f3 e3
  rw [d0.1, d0.2, cells5, List.getElem?_eq_getElem (by omega)] at h0
  rw [d1.1, d1.2, cells68, List.getElem?_eq_getElem (by omega)] at h1
  rw [d2.1, d2.2, cells70, List.getElem?_eq_getElem (by omega)] at h2
  rw [d3.1, d3.2, cells5, List.getElem?_eq_getElem (by omega)] at h3
  obtain ⟨a, ha, wa⟩ := trod_int und5 h0
  obtain ⟨b, hb, nb, wb⟩ := trod_ints 4 arr68 h1
  obtain ⟨m, hm, nm, wm⟩ := trod_ints 4 arr70 h2
  obtain ⟨x, hx', wx⟩ := trod_int und5 h3
  rw [cells68] at nb
  rw [cells70] at nm
  rw [cells72] at hs
  refine ⟨⟨a, b, m, x⟩, fun L => ⟨⟨cs⟩, rfl, ?_, ?_⟩, ⟨wf_u8 wa, ⟨nb, fun y hy => wf_u8 (wb y hy)⟩, ⟨nm, fun y hy => wf_u8 (wm y hy)⟩, wf_u8 wx⟩⟩
  · rw [hs]
    show 19 = contSize _
    simp [contSize, segSize, ET.size, nb, nm]
  · refine ⟨(fun e l h => by cases h), (fun _ => ⟨_, at_one ha, rfl⟩), ?_⟩
    refine ⟨fun e l' he => by cases he; exact cells_run hb, (fun h => by cases h), ?_⟩
    refine ⟨fun e l' he => by cases he; exact cells_run (by simp only [segSize, ET.size, nb]; exact hm), (fun h => by cases h), ?_⟩
    refine ⟨(fun e l h => by cases h), (fun _ => ⟨_, ?_, rfl⟩), trivial⟩
    simp only [segSize, ET.size, nb, nm]
    exact at_one hx'
end read
end Go.Ev.Burn
