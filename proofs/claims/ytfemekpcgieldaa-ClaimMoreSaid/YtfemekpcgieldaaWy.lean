/- The pairs of houses: the iterator of the claim chapter, walked. -/
import Derived.RangeFuncBox
import Derived.RangeFuncLeaves
import Derived.Shelf.Abstract
import Derived.WalkKit
import Derived.OwnWalkIn
import Derived.TacticsInMore
import Derived.LoopNIn
import Derived.LoopIn
import Derived.Test.YtfemekpcgieldaaChecked
import Derived.RangeFuncCalls
import Derived.Test.YtfemekpcgieldaaEvE
set_option linter.unusedVariables false
set_option linter.unusedSimpArgs false
namespace Go.Ev.ClmW
open Go Go.Proofs Go.RowKit Go.Shelf
set_option linter.unusedVariables false
set_option maxRecDepth 100000
set_option maxHeartbeats 2000000
theorem pairs_in (F : Fence) (m : Nat) (h76 : F.fn 76) (hro : F.round = none) (hm : 1 ≤ m) (l B n : Nat) (hn : n ≤ 100) (J : Nat → Nat → World → Prop) (Jx : World → Prop)
    (hB : ∀ i j W, J i j W → W.cell? ⟨B, 0, none⟩ = some (.int .i64 n))
    (hY : ∀ i j W, i < j → j < n → J i j W → YieldAt F (m - 1) Try.prog l #[.int .i64 i, .int .i64 j] W fun e W' => (e = .returned (.bool true) ∧ J i (j + 1) W') ∨ (e = .returned (.bool false) ∧ Jx W'))
    (hR : ∀ i W, i < n → J i n W → J (i + 1) (i + 2) W) (W : World) (h0 : J 0 1 W) :
    CallsIn F m Try.prog 76 #[.func (.yield l) #[] #[], .pointer (some ⟨B, 0, none⟩)] W fun e W' => (∃ v, e = .returned v) ∧ ((∃ j, J n j W') ∨ Jx W') := by
  refine callsIn_of_wp Try.func76 rfl h76 ?_ hro
  have hb := hB 0 1 W h0
  simp only [Try.ntmps76, List.size_toArray, List.length_cons, List.length_nil, Nat.reduceAdd, Nat.reduceSub, Array.replicate_succ, Array.replicate_zero, List.push_toArray, List.append_toArray, List.nil_append, List.cons_append]
  gi_wp2
  gi_loopw [6] (fun a wr => ∃ i : Nat, i ≤ n ∧ a = .int .i64 i ∧ J i (i + 1) wr) (fun a _ => n - (intOf a).toNat)
  case atStart => exact ⟨0, Nat.zero_le _, rfl, h0⟩
  case round =>
    obtain ⟨i, hi, rfl, hJ⟩ := hrel
    by_cases hlt : i < n
    · gi_wp2
      gi_loopw [4] (fun a wr => ∃ j : Nat, i < j ∧ j ≤ n ∧ a = .int .i64 j ∧ J i j wr) (fun a _ => n - (intOf a).toNat)
      case atStart => exact ⟨i + 1, by omega, by omega, by simp, hJ⟩
      case round =>
        obtain ⟨j, hij, hj, rfl, hJ2⟩ := hrel
        have hb2 := hB _ _ _ hJ2
        by_cases hlt2 : j < n
        · obtain ⟨fn, tmps, assign, body, hy, hRd⟩ := hY i j _ hij hlt2 hJ2
          gi_wp2
          refine hRd.mono ?_
          rintro e W3 (⟨rfl, hJ3⟩ | ⟨rfl, hJx3⟩)
          · gi_wp2
            go_roundw
            case rel => exact ⟨j + 1, by omega, by omega, by simp, hJ3⟩
            case measure => simp [intOf]; omega
          · gi_wp2
            refine bodyPost_ret (results_none rfl _ _ _) rfl ?_
            exact ⟨⟨_, rfl⟩, .inr hJx3⟩
        · obtain rfl : j = n := by omega
          gi_wp2
          refine ⟨⟨i + 1, by omega, by simp, hR i _ hlt hJ2⟩, by simp [intOf]; omega⟩
    · obtain rfl : i = n := by omega
      gi_wp2
      go_end0
      exact ⟨⟨_, rfl⟩, .inl ⟨_, hJ⟩⟩
end Go.Ev.ClmW
namespace Go.Ev.ClmW
open Go Go.Proofs Go.RowKit Go.Shelf
set_option linter.unusedVariables false
set_option maxRecDepth 100000
set_option maxHeartbeats 2000000
def pairPost (I : Nat → Nat → World → Prop) (Ix : World → Prop) (i j : Nat) (W : World) : Exit → Act → World → Prop
  | .normal, _, W' => KeepsOthers W W' ∧ I i (j + 1) W'
  | .ret, _, W' => KeepsOthers W W' ∧ Ix W'
  | _, _, _ => False
theorem wp_pairs {F : Fence} {n : Nat} {g : Operand} {ps : Array Tmp} {assign body : Code} {Q : Exit → Act → World → Prop} {a : Act} {w : World}
    (hro : F.round = none) (h2 : 2 ≤ n) {B nn : Nat} (hnn : nn ≤ 100) (hg : a.eval g = .func (.func 76) #[] #[.pointer (some ⟨B, 0, none⟩)]) (hFg : F.fn 76) (hps : ps.size = 2)
    (I : Nat → Nat → World → Prop) (Ix : World → Prop) (hB : ∀ i j W, I i j W → W.cell? ⟨B, 0, none⟩ = some (.int .i64 nn)) (hR : ∀ i W, i < nn → I i nn W → I (i + 1) (i + 2) W)
    (h0 : ∀ r, I 0 1 ((w.alloc (.deferred (some []))).alloc (.loop r)))
    (hp : ∀ i j W r r', I i j W → W.heap[w.heap.size + 1]? = some (.loop r) → I i j (W.putObj (w.heap.size + 1) (.loop r')))
    (hpx : ∀ W r r', Ix W → W.heap[w.heap.size + 1]? = some (.loop r) → Ix (W.putObj (w.heap.size + 1) (.loop r'))) (a₁ : Nat → Nat → Act)
    (hassign : ∀ (l i j : Nat) (W : World) (K : Act → World → Prop), K (a₁ i j) W →
      assign.wpIn (F.inRound l) (n - 1 - 1) Try.prog (Exit.then K (fun _ _ _ => False)) { tmps := (ps.zip #[.int .i64 i, .int .i64 j]).foldl (fun t (p, v) => t.setIfInBounds p v) a.tmps, defers := [] } W)
    (hbody : ∀ (l i j : Nat) (W : World), i < j → j < nn → I i j W → body.wpIn (F.inRound l) (n - 1 - 1) Try.prog (pairPost I Ix i j W) (a₁ i j) W)
    (hdone : ∀ (j : Nat) (W : World), I nn j W → W.heap[w.heap.size]? = some (.deferred (some [])) → Q .normal { a with defers := { target := .collected w.heap.size, args := #[] } :: a.defers } W)
    (hstop : ∀ (W : World), Ix W → W.heap[w.heap.size]? = some (.deferred (some [])) → Code.ret.wpIn F n Try.prog Q { a with defers := { target := .collected w.heap.size, args := #[] } :: a.defers } W) :
    (Code.rangeFunc g ps assign body).wpIn F n Try.prog Q a w := by
  have h1 : 1 ≤ n := by omega
  refine wpIn_rangeFunc ?_
  intro fn hfn
  rw [hro]
  obtain ⟨rec, hrec⟩ : ∃ rec : LoopState → Option Code → Loop, rec = fun st pe => { state := st, pending := pe, fn, tmps := a.tmps, params := ps, assign, body, defers := w.heap.size } := ⟨_, rfl⟩
  obtain ⟨W1, hW1⟩ : ∃ W1, (w.alloc (.deferred (some []))).alloc (.loop (rec .ready none)) = W1 := ⟨_, rfl⟩
  have hL1 : W1.heap[w.heap.size + 1]? = some (.loop (rec .ready none)) := by
    rw [← hW1]; have := World.alloc_heap_new (w.alloc (.deferred (some []))) (.loop (rec .ready none)); rwa [World.size_alloc] at this
  have hK1 : W1.heap[w.heap.size]? = some (.deferred (some [])) := by
    rw [← hW1]; exact (Below.heap_alloc _ _ _ (by simp)).trans (World.alloc_heap_new w _)
  have hI1 : I 0 1 W1 := by rw [← hW1]; exact h0 _
  refine ⟨w.heap.size + 1, [{ target := .collected w.heap.size, args := #[] }], W1, { target := .fn (.func 76) #[.pointer (some ⟨B, 0, none⟩)], args := #[.func (.yield (w.heap.size + 1)) #[] #[]] }, W1, 76,
    #[.func (.yield (w.heap.size + 1)) #[] #[]] ++ #[.pointer (some ⟨B, 0, none⟩)], W1, ?_, ?_, ?_, ?_, fun _ => h1, ?_⟩
  · rw [← hW1, hrec]; exact run_enterLoop_outer _ _ _ _ _
  · simp only [resolve, hg]
    simp [go_sem]
  · intro f' hf'; simp [Target.leads] at hf'; subst hf'; exact hFg
  · simp [invoke, go_sem, enters_of Try.func76 (by kernel_rfl) rfl]
  · refine (pairs_in F (n - 1) hFg hro (by omega) (w.heap.size + 1) B nn hnn
      (fun i j W => I i j W ∧ W.heap[w.heap.size + 1]? = some (.loop (rec .ready none)) ∧ W.heap[w.heap.size]? = some (.deferred (some [])))
      (fun W => Ix W ∧ W.heap[w.heap.size + 1]? = some (.loop (rec .done (some .ret))) ∧ W.heap[w.heap.size]? = some (.deferred (some [])))
      (fun i j W h => hB i j W h.1) ?_ (fun i W hi h => ⟨hR i W hi h.1, h.2⟩) W1 ⟨hI1, hL1, hK1⟩).mono ?_
    · rintro i j W hij hj ⟨hi, hl, hk⟩
      have hlt : w.heap.size + 1 < W.heap.size := (Array.getElem?_eq_some_iff.1 hl).1
      have hy := run_yield (P := Try.prog) (args := #[.int .i64 i, .int .i64 j]) hl (by rw [hrec]; exact hps.symm)
      rw [hrec] at hy
      refine ⟨fn, _, assign, body, hy, roundIn_of_wpIn hfn (hassign _ i j W _ ⟨_, run_beginRound hl (by rw [hrec]), ?_⟩)⟩
      have hl2 : (W.putObj (w.heap.size + 1) (.loop { rec .ready none with state := .busy })).heap[w.heap.size + 1]? = some (.loop { rec .ready none with state := .busy }) := World.putObj_heap_same hlt
      have hk2 : (W.putObj (w.heap.size + 1) (.loop { rec .ready none with state := .busy })).heap[w.heap.size]? = some (.deferred (some [])) := (World.putObj_heap_other (by omega)).trans hk
      refine wpIn_mono (hbody _ i j _ hij hj (hp _ _ _ _ _ hi hl)) ?_
      have fin : ∀ (jump : Option Code) (W3 : World), KeepsOthers (W.putObj (w.heap.size + 1) (.loop { rec .ready none with state := .busy })) W3 →
          (Instr.endRound (w.heap.size + 1) jump).run Try.prog W3 = .ok (.bool jump.isNone) (W3.putObj (w.heap.size + 1) (.loop (rec (if jump.isNone then .ready else .done) jump))) ∧
          W3.heap[w.heap.size + 1]? = some (.loop { rec .ready none with state := .busy }) ∧
          (W3.putObj (w.heap.size + 1) (.loop (rec (if jump.isNone then .ready else .done) jump))).heap[w.heap.size + 1]? = some (.loop (rec (if jump.isNone then .ready else .done) jump)) ∧
          (W3.putObj (w.heap.size + 1) (.loop (rec (if jump.isNone then .ready else .done) jump))).heap[w.heap.size]? = some (.deferred (some [])) := fun jump W3 hk3 => by
        have hl3 := hk3.same _ _ hl2 rfl
        have := run_endRound (P := Try.prog) jump hl3
        rw [hrec] at this ⊢
        exact ⟨this, by rw [hrec] at hl3; exact hl3, World.putObj_heap_same (Array.getElem?_eq_some_iff.1 hl3).1, (World.putObj_heap_other (by omega)).trans (hk3.same _ _ hk2 rfl)⟩
      rintro e a3 W3 hp3
      cases e with
      | normal =>
        obtain ⟨hk3, hi3⟩ := hp3
        obtain ⟨hr, hl3, hl4, hk4⟩ := fin none W3 hk3
        exact ⟨_, _, hr, .inl ⟨rfl, hp _ _ _ _ _ hi3 hl3, hl4, hk4⟩⟩
      | ret =>
        obtain ⟨hk3, hi3⟩ := hp3
        obtain ⟨hr, hl3, hl4, hk4⟩ := fin (some .ret) W3 hk3
        exact ⟨_, _, hr, .inr ⟨rfl, hpx _ _ _ hi3 hl3, hl4, hk4⟩⟩
      | exit id => exact hp3.elim
      | goto t => exact hp3.elim
      | panic ch => exact hp3.elim
      | outgrown => exact hp3.elim
    · rintro e W2 ⟨⟨v, rfl⟩, (⟨j, hi, hl, hk⟩ | ⟨hi, hl, hk⟩)⟩
      · exact ⟨none, _, by have := run_endLoop (P := Try.prog) hl (by rw [hrec]; simp); rw [hrec] at this; exact this, hdone j _ (hp _ _ _ _ _ hi hl) ((World.putObj_heap_other (by omega)).trans hk)⟩
      · exact ⟨some .ret, _, by have := run_endLoop (P := Try.prog) hl (by rw [hrec]; simp); rw [hrec] at this; exact this, hstop _ (hpx _ _ _ hi hl) ((World.putObj_heap_other (by omega)).trans hk)⟩
end Go.Ev.ClmW
namespace Go.Ev.ClmW
open Go Go.Proofs Go.RowKit Go.Shelf
set_option linter.unusedVariables false
set_option linter.unusedSimpArgs false
set_option maxRecDepth 100000
set_option maxHeartbeats 4000000
structure Keep (w W : World) : Prop where
  below : Below w.heap.size w W
  frz : ∀ b o, w.heap.size ≤ b → W.frozen? ⟨b, o, none⟩ = false
theorem Keep.refl_alloc (w : World) (cs : Array Value) (ty : TypeId) : Keep w (w.alloc (.cells cs ty)) := ⟨(Below.refl _ w).alloc (Nat.le_refl _) _, fun b o hb => by
  unfold World.frozen?
  rcases Nat.lt_or_ge w.heap.size b with h | h
  · rw [show (w.alloc (.cells cs ty)).heap[b]? = none from Array.getElem?_eq_none (by simp <;> omega)]
  · obtain rfl : b = w.heap.size := by omega
    rw [World.alloc_heap_new]
    simp⟩
theorem Keep.trans {a b c : World} (h : Keep a b) (k : Keep b c) : Keep a c := ⟨h.below.trans (k.below.mono h.below.size), fun x o hx => by
  rcases Nat.lt_or_ge x b.heap.size with hb | hb
  · exact (World.frozen?_of_block (k.below.block x hb)).trans (h.frz x o hx)
  · exact k.frz x o hb⟩
theorem Keep.cells {a b : World} (h : Keep a b) (cs : Array Value) (ty : TypeId) : Keep a (b.alloc (.cells cs ty)) := h.trans (Keep.refl_alloc b cs ty)
theorem Keep.other {a b : World} (h : Keep a b) (o : Obj) (ho : o.isCells = false) : Keep a (b.alloc o) := h.trans ⟨(Below.refl _ b).alloc (Nat.le_refl _) _, fun x q hb => by
  unfold World.frozen?
  rcases Nat.lt_or_ge b.heap.size x with h | h
  · rw [show (b.alloc o).heap[x]? = none from Array.getElem?_eq_none (by simp <;> omega)]
  · obtain rfl : x = b.heap.size := by omega
    rw [World.alloc_heap_new]
    cases o <;> first | rfl | cases ho⟩
theorem Keep.setCell {a b : World} (h : Keep a b) {x q : Nat} (hx : a.heap.size ≤ x) (v : Value) : Keep a (b.setCell ⟨x, q, none⟩ v) := ⟨h.below.setCell (p := ⟨x, q, none⟩) hx v, fun y r hy => by
  rw [World.frozen?_setCell]; exact h.frz y r hy⟩
theorem Keep.putObj {a b : World} (h : Keep a b) {x : Nat} (hx : a.heap.size ≤ x) (o : Obj) (ho : o.isCells = false) : Keep a (b.putObj x o) := ⟨⟨h.below.os, h.below.tape, h.below.output, by simpa using h.below.size, fun k hk => (World.putObj_heap_other (by omega)).trans (h.below.block k hk)⟩, fun y r hy => by
  by_cases e : y = x
  · subst e
    unfold World.frozen?
    rcases Nat.lt_or_ge y b.heap.size with hb | hb
    · rw [World.putObj_heap_same hb]
      cases o <;> first | rfl | cases ho
    · rw [show (b.putObj y o).heap[y]? = none from Array.getElem?_eq_none (by simpa using hb)]
  · exact (World.frozen?_of_block (World.putObj_heap_other e)).trans (h.frz y r hy)⟩
theorem pairs_make (n : Int) (W : World) : Calls Try.prog 69 #[.int .i64 n] W fun e W' => e = .returned (.func (.func 76) #[] #[.pointer (some ⟨W.heap.size, 0, none⟩)]) ∧ W' = W.alloc (.cells #[.int .i64 n] 3) := by
  refine (callsIn_wide (n := 3)).1 ?_
  refine callsIn_of_wp Try.func69 rfl trivial ?_ rfl
  simp only [Try.ntmps69, List.size_toArray, List.length_cons, List.length_nil, Nat.reduceAdd, Nat.reduceSub, Array.replicate_succ, Array.replicate_zero, List.push_toArray, List.append_toArray, List.nil_append, List.cons_append]
  gi_wp2
  exact bodyPost_ret (results_tmp rfl _ _ _) rfl ⟨rfl, rfl⟩
theorem cell_old {w : World} {o : Obj} {x : Nat} (h : x < w.heap.size) : (w.alloc o).cell? ⟨x, 0, none⟩ = w.cell? ⟨x, 0, none⟩ := World.cell?_of_block (Below.heap_alloc w o x h)
theorem cell_top {w : World} {v : Value} {ty : TypeId} {x : Nat} (h : x = w.heap.size) : (w.alloc (.cells #[v] ty)).cell? ⟨x, 0, none⟩ = some v := by subst h; simp
abbrev W5 (w0 : World) (u1 u2 : Value) : World := (((((w0.alloc (.cells #[u1] 22)).alloc (.cells #[u2] 22)).alloc (.cells #[.int .i64 0] 3)).alloc (.cells #[.int .i64 0] 3)).alloc (.cells #[.int .i64 0] 24))
theorem keep5 (w0 : World) (u1 u2 : Value) : Keep w0 (W5 w0 u1 u2) := ((((Keep.refl_alloc w0 _ _).cells _ _).cells _ _).cells _ _).cells _ _
structure Mem (w0 : World) (u1 u2 x y z : Value) (W : World) : Prop where
  k : Keep w0 W
  hz : w0.heap.size + 5 ≤ W.heap.size
  q4 : W.cell? ⟨w0.heap.size, 0, none⟩ = some u1
  q5 : W.cell? ⟨w0.heap.size + 1, 0, none⟩ = some u2
  q6 : W.cell? ⟨w0.heap.size + 1 + 1, 0, none⟩ = some x
  q7 : W.cell? ⟨w0.heap.size + 1 + 1 + 1, 0, none⟩ = some y
  q8 : W.cell? ⟨w0.heap.size + 1 + 1 + 1 + 1, 0, none⟩ = some z
  f6 : W.frozen? ⟨w0.heap.size + 1 + 1, 0, none⟩ = false
  f7 : W.frozen? ⟨w0.heap.size + 1 + 1 + 1, 0, none⟩ = false
  f8 : W.frozen? ⟨w0.heap.size + 1 + 1 + 1 + 1, 0, none⟩ = false
theorem mem5 {w0 : World} {u1 u2 : Value} {W1 : World} (k1 : Keep (W5 w0 u1 u2) W1) : Mem w0 u1 u2 (.int .i64 0) (.int .i64 0) (.int .i64 0) W1 := by
  have k0 : Keep w0 W1 := (keep5 w0 u1 u2).trans k1
  have hz : w0.heap.size + 5 ≤ W1.heap.size := by have := k1.below.size; simp at this; omega
  have hs : (W5 w0 u1 u2).heap.size = w0.heap.size + 5 := by simp [W5]
  have b : ∀ x, x < w0.heap.size + 5 → W1.heap[x]? = (W5 w0 u1 u2).heap[x]? := fun x hx => k1.below.block x (by omega)
  have c : ∀ x v, x < w0.heap.size + 5 → (W5 w0 u1 u2).cell? ⟨x, 0, none⟩ = some v → W1.cell? ⟨x, 0, none⟩ = some v := fun x v hx h => (World.cell?_of_block (b x hx)).trans h
  refine ⟨k0, hz, c _ _ (by omega) ?_, c _ _ (by omega) ?_, c _ _ (by omega) ?_, c _ _ (by omega) ?_, c _ _ (by omega) ?_, k0.frz _ 0 (by omega), k0.frz _ 0 (by omega), k0.frz _ 0 (by omega)⟩
  · exact (cell_old (by simp <;> omega)).trans ((cell_old (by simp <;> omega)).trans ((cell_old (by simp <;> omega)).trans ((cell_old (by simp)).trans (cell_top rfl))))
  · exact (cell_old (by simp <;> omega)).trans ((cell_old (by simp <;> omega)).trans ((cell_old (by simp)).trans (cell_top (by simp))))
  · exact (cell_old (by simp <;> omega)).trans ((cell_old (by simp)).trans (cell_top (by simp)))
  · exact (cell_old (by simp)).trans (cell_top (by simp))
  · exact cell_top (by simp)
theorem Mem.set6 {w0 : World} {u1 u2 x y z : Value} {W : World} (h : Mem w0 u1 u2 x y z W) (v : Value) : Mem w0 u1 u2 v y z (W.setCell ⟨w0.heap.size + 1 + 1, 0, none⟩ v) := by
  obtain ⟨k, hz, q4, q5, q6, q7, q8, f6, f7, f8⟩ := h
  have o : ∀ b, b ≠ w0.heap.size + 1 + 1 → (W.setCell ⟨w0.heap.size + 1 + 1, 0, none⟩ v).cell? ⟨b, 0, none⟩ = W.cell? ⟨b, 0, none⟩ := fun b hb => World.cell?_of_block (Below.heap_setCell W _ v b hb)
  exact ⟨k.setCell (by omega) v, by simpa using hz, (o _ (by omega)).trans q4, (o _ (by omega)).trans q5, World.cell?_setCell_same' _ _ _ (by rw [q6]; rfl), (o _ (by omega)).trans q7, (o _ (by omega)).trans q8,
    by rw [World.frozen?_setCell]; exact f6, by rw [World.frozen?_setCell]; exact f7, by rw [World.frozen?_setCell]; exact f8⟩
theorem Mem.set7 {w0 : World} {u1 u2 x y z : Value} {W : World} (h : Mem w0 u1 u2 x y z W) (v : Value) : Mem w0 u1 u2 x v z (W.setCell ⟨w0.heap.size + 1 + 1 + 1, 0, none⟩ v) := by
  obtain ⟨k, hz, q4, q5, q6, q7, q8, f6, f7, f8⟩ := h
  have o : ∀ b, b ≠ w0.heap.size + 1 + 1 + 1 → (W.setCell ⟨w0.heap.size + 1 + 1 + 1, 0, none⟩ v).cell? ⟨b, 0, none⟩ = W.cell? ⟨b, 0, none⟩ := fun b hb => World.cell?_of_block (Below.heap_setCell W _ v b hb)
  exact ⟨k.setCell (by omega) v, by simpa using hz, (o _ (by omega)).trans q4, (o _ (by omega)).trans q5, (o _ (by omega)).trans q6, World.cell?_setCell_same' _ _ _ (by rw [q7]; rfl), (o _ (by omega)).trans q8,
    by rw [World.frozen?_setCell]; exact f6, by rw [World.frozen?_setCell]; exact f7, by rw [World.frozen?_setCell]; exact f8⟩
theorem Mem.set8 {w0 : World} {u1 u2 x y z : Value} {W : World} (h : Mem w0 u1 u2 x y z W) (v : Value) : Mem w0 u1 u2 x y v (W.setCell ⟨w0.heap.size + 1 + 1 + 1 + 1, 0, none⟩ v) := by
  obtain ⟨k, hz, q4, q5, q6, q7, q8, f6, f7, f8⟩ := h
  have o : ∀ b, b ≠ w0.heap.size + 1 + 1 + 1 + 1 → (W.setCell ⟨w0.heap.size + 1 + 1 + 1 + 1, 0, none⟩ v).cell? ⟨b, 0, none⟩ = W.cell? ⟨b, 0, none⟩ := fun b hb => World.cell?_of_block (Below.heap_setCell W _ v b hb)
  exact ⟨k.setCell (by omega) v, by simpa using hz, (o _ (by omega)).trans q4, (o _ (by omega)).trans q5, (o _ (by omega)).trans q6, (o _ (by omega)).trans q7, World.cell?_setCell_same' _ _ _ (by rw [q8]; rfl),
    by rw [World.frozen?_setCell]; exact f6, by rw [World.frozen?_setCell]; exact f7, by rw [World.frozen?_setCell]; exact f8⟩
theorem Mem.keep {w0 : World} {u1 u2 x y z : Value} {W W' : World} (h : Mem w0 u1 u2 x y z W) (k : Keep W W') : Mem w0 u1 u2 x y z W' := by
  obtain ⟨k0, hz, q4, q5, q6, q7, q8, f6, f7, f8⟩ := h
  have c : ∀ b v, b < w0.heap.size + 5 → W.cell? ⟨b, 0, none⟩ = some v → W'.cell? ⟨b, 0, none⟩ = some v := fun b v hb h => (World.cell?_of_block (k.below.block b (by omega))).trans h
  have k1 := k0.trans k
  exact ⟨k1, Nat.le_trans hz k.below.size, c _ _ (by omega) q4, c _ _ (by omega) q5, c _ _ (by omega) q6, c _ _ (by omega) q7, c _ _ (by omega) q8, k1.frz _ 0 (by omega), k1.frz _ 0 (by omega), k1.frz _ 0 (by omega)⟩
theorem Mem.put {w0 : World} {u1 u2 x y z : Value} {W : World} (h : Mem w0 u1 u2 x y z W) {l : Nat} (hl : w0.heap.size + 5 ≤ l) (o : Obj) (ho : o.isCells = false) : Mem w0 u1 u2 x y z (W.putObj l o) := by
  obtain ⟨k0, hz, q4, q5, q6, q7, q8, f6, f7, f8⟩ := h
  have c : ∀ b v, b < w0.heap.size + 5 → W.cell? ⟨b, 0, none⟩ = some v → (W.putObj l o).cell? ⟨b, 0, none⟩ = some v := fun b v hb h => (World.cell?_of_block (World.putObj_heap_other (show b ≠ l by omega))).trans h
  have k1 := k0.putObj (x := l) (by omega) o ho
  exact ⟨k1, by simpa using hz, c _ _ (by omega) q4, c _ _ (by omega) q5, c _ _ (by omega) q6, c _ _ (by omega) q7, c _ _ (by omega) q8, k1.frz _ 0 (by omega), k1.frz _ 0 (by omega), k1.frz _ 0 (by omega)⟩
theorem Mem.res {w0 : World} {u1 u2 : Value} {x y z : Int} {W : World} (h : Mem w0 u1 u2 (.int .i64 x) (.int .i64 y) (.int .i64 z) W) {tm : Array Value}
    (h6 : tm[6]? = some (.pointer (some ⟨w0.heap.size + 1 + 1, 0, none⟩))) (h7 : tm[7]? = some (.pointer (some ⟨w0.heap.size + 1 + 1 + 1, 0, none⟩))) (h8 : tm[8]? = some (.pointer (some ⟨w0.heap.size + 1 + 1 + 1 + 1, 0, none⟩))) :
    (results Try.f32 tm).run Try.prog W = .ok (.tuple #[.int .i64 x, .int .i64 y, .int .i64 z]) W := by
  obtain ⟨k0, hz, q4, q5, q6, q7, q8, f6, f7, f8⟩ := h
  simp [results, Try.f32, go_sem, h6, h7, h8, q6, q7, q8]
theorem why_err (w0 : World) (w e : Int) (n c1 l2 c2 : Nat) (p1 p2 : Option Addr) (he : e ≠ 0)
    (H34 : ∀ W, Keep w0 W → Calls Try.prog 34 #[.int .i64 w, .slice p1 n c1, .slice p2 l2 c2] W fun r W' => r = .returned (.int .i64 e) ∧ Keep W W') :
    Calls Try.prog 32 #[.int .i64 w, .slice p1 n c1, .slice p2 l2 c2] w0 fun r W => r = .returned (.tuple #[.int .i64 0, .int .i64 0, .int .i64 e]) ∧ Keep w0 W := by
  refine (callsIn_wide (n := 3)).1 ?_
  refine callsIn_of_wp_marks Try.func32 rfl trivial ?_ rfl
  simp only [Try.ntmps32, List.size_toArray, List.length_cons, List.length_nil, Nat.reduceAdd, Nat.reduceSub, Array.replicate_succ, Array.replicate_zero, List.push_toArray, List.append_toArray, List.nil_append, List.cons_append]
  have hd : decide (e = 0) = false := decide_eq_false he
  have hb : (e != 0) = true := bne_iff_ne.2 he
  gi_wp2_with (refine ⟨trivial, ?_⟩; gi_at_call 34; refine (callsIn_wide.2 (H34 _ (keep5 w0 (.slice p1 n c1) (.slice p2 l2 c2)))).mono ?_; rintro _ W1 ⟨rfl, k1⟩; have M0 := mem5 k1; obtain ⟨k0, hz, q4, q5, q6, q7, q8, f6, f7, f8⟩ := mem5 k1)
  have M := (((mem5 k1).set6 (.int .i64 0)).set7 (.int .i64 0)).set8 (.int .i64 e)
  exact ⟨_, M.res rfl rfl rfl, rfl, M.k⟩
def before (i j a b : Nat) : Prop := a < i ∨ (a = i ∧ b < j)
theorem why_ok (w0 : World) (w : Int) (n c1 l2 c2 : Nat) (p1 p2 : Option Addr) (hn : n ≤ 100) (A : Nat → Nat → Bool) (rx ry rz : Int)
    (hfound : ∀ i j, i < j → j < n → A i j = true → (∀ a b, a < b → b < n → before i j a b → A a b = false) → rx = i ∧ ry = j ∧ rz = 0)
    (hnone : (∀ a b, a < b → b < n → A a b = false) → rx = 0 ∧ ry = 0 ∧ rz = 13)
    (H34 : ∀ W, Keep w0 W → Calls Try.prog 34 #[.int .i64 w, .slice p1 n c1, .slice p2 l2 c2] W fun r W' => r = .returned (.int .i64 0) ∧ Keep W W')
    (H70 : ∀ i j W, i < j → j < n → Keep w0 W → Calls Try.prog 70 #[.slice p1 n c1, .slice p2 l2 c2, .int .i64 (i : Nat), .int .i64 (j : Nat)] W fun r W' => r = .returned (.bool (A i j)) ∧ Keep W W') :
    Calls Try.prog 32 #[.int .i64 w, .slice p1 n c1, .slice p2 l2 c2] w0 fun r W => r = .returned (.tuple #[.int .i64 rx, .int .i64 ry, .int .i64 rz]) ∧ Keep w0 W := by
  refine (callsIn_wide (n := 5)).1 ?_
  refine callsIn_of_wp_marks Try.func32 rfl trivial ?_ rfl
  simp only [Try.ntmps32, List.size_toArray, List.length_cons, List.length_nil, Nat.reduceAdd, Nat.reduceSub, Array.replicate_succ, Array.replicate_zero, List.push_toArray, List.append_toArray, List.nil_append, List.cons_append]
  gi_wp2_with (first
    | (refine ⟨trivial, ?_⟩; gi_at_call 34; refine (callsIn_wide.2 (H34 _ (keep5 w0 (.slice p1 n c1) (.slice p2 l2 c2)))).mono ?_; rintro _ W1 ⟨rfl, k1⟩; have M0 := mem5 k1; obtain ⟨k0, hz, q4, q5, q6, q7, q8, f6, f7, f8⟩ := mem5 k1)
    | (refine ⟨trivial, ?_⟩; gi_at_call 69; refine (callsIn_wide.2 (pairs_make _ _)).mono ?_; rintro _ W2 ⟨rfl, rfl⟩))
  clear q4 q5 q6 q7 q8 f6 f7 f8
  refine wp_pairs rfl (by omega) (B := W1.heap.size) (nn := n) hn rfl trivial rfl
    (fun i j W => Mem w0 (.slice p1 n c1) (.slice p2 l2 c2) (.int .i64 0) (.int .i64 0) (.int .i64 0) W ∧ W.cell? ⟨W1.heap.size, 0, none⟩ = some (.int .i64 n) ∧ W1.heap.size + 1 ≤ W.heap.size ∧ ∀ a b, a < b → b < n → before i j a b → A a b = false)
    (fun W => ∃ i j : Nat, i < j ∧ j < n ∧ A i j = true ∧ (∀ a b, a < b → b < n → before i j a b → A a b = false) ∧ Mem w0 (.slice p1 n c1) (.slice p2 l2 c2) (.int .i64 i) (.int .i64 j) (.int .i64 0) W)
    (fun i j W h => h.2.1) ?row ?start ?put ?putx
    (fun i j => { tmps := #[.int .i64 w, .slice p1 n c1, .slice p2 l2 c2, undef, .pointer (some ⟨w0.heap.size, 0, none⟩), .pointer (some ⟨w0.heap.size + 1, 0, none⟩), .pointer (some ⟨w0.heap.size + 1 + 1, 0, none⟩), .pointer (some ⟨w0.heap.size + 1 + 1 + 1, 0, none⟩), .pointer (some ⟨w0.heap.size + 1 + 1 + 1 + 1, 0, none⟩), .int .i64 0, .int .i64 i, .int .i64 j, .int .i64 w, .slice p1 n c1, .slice p2 l2 c2, .int .i64 0, .int .i64 0, .bool false, undef, .slice p1 n c1, .int .i64 n, .func (.func 76) #[] #[.pointer (some ⟨W1.heap.size, 0, none⟩)], .int .i64 i, .int .i64 j, undef, undef, undef, undef, undef, undef, undef], defers := [] }) ?assign ?body ?done ?stop
  case row =>
    rintro i W hi ⟨m, c, z, h⟩
    refine ⟨m, c, z, fun a b hab hb hbe => h a b hab hb ?_⟩
    unfold before at *
    omega
  case start =>
    intro r
    have s1 : (W1.alloc (.cells #[.int .i64 (n : Int)] 3)).heap.size = W1.heap.size + 1 := by simp
    refine ⟨M0.keep ((((Keep.refl_alloc W1 _ _).other (.deferred (some [])) rfl).other (.loop r) rfl)), ?_, by simp, fun a b hab hb hbe => ?_⟩
    · exact (cell_old (by simp <;> omega)).trans ((cell_old (by simp <;> omega)).trans (cell_top rfl))
    · unfold before at hbe; omega
  case put =>
    rintro i j W r r' ⟨m, c, z, h⟩ hl
    have s1 : (W1.alloc (.cells #[.int .i64 (n : Int)] 3)).heap.size = W1.heap.size + 1 := by simp
    refine ⟨m.put (by rw [s1]; omega) _ rfl, ?_, by simpa using z, h⟩
    exact (World.cell?_of_block (World.putObj_heap_other (by rw [s1]; show W1.heap.size ≠ _; omega))).trans c
  case putx =>
    rintro W r r' ⟨i, j, h1, h2, h3, h4, m⟩ hl
    have s1 : (W1.alloc (.cells #[.int .i64 (n : Int)] 3)).heap.size = W1.heap.size + 1 := by simp
    exact ⟨i, j, h1, h2, h3, h4, m.put (by rw [s1]; omega) _ rfl⟩
  case assign =>
    intro l i j W K hK
    gi_wp2_with (rw [Oper.semAt_eq _ _ _ (fun c h => by cases h)]; go_simp; try go_bits)
    exact hK
  case body =>
    rintro l i j W hij hj ⟨m, c, z, h⟩
    obtain ⟨k0', hz', q4, q5, q6, q7, q8, f6, f7, f8⟩ := id m
    gi_wp2_with (rw [Oper.semAt_eq _ _ _ (fun c h => by cases h)]; go_simp; try go_bits)
    refine ⟨trivial, ?_⟩
    refine (CallsIn.inRound l (callsIn_wide.2 (H70 i j W hij hj k0'))).mono ?_
    rintro _ W3 ⟨rfl, k3⟩
    have M3 := m.keep k3
    obtain ⟨_, hz3, p4, p5, p6, p7, p8, g6, g7, g8⟩ := id M3
    clear q4 q5 q6 q7 q8 f6 f7 f8
    have ko : KeepsOthers W W3 := ⟨k3.below.size, fun x o hx ho => (k3.below.block x (Array.getElem?_eq_some_iff.1 hx).1).trans hx⟩
    cases hA : A i j with
    | false =>
      gi_wp2_with (rw [Oper.semAt_eq _ _ _ (fun c h => by cases h)]; go_simp; try go_bits)
      refine ⟨ko, M3, (World.cell?_of_block (k3.below.block _ (show W1.heap.size < W.heap.size by omega))).trans c, Nat.le_trans z k3.below.size, fun a b hab hb hbe => ?_⟩
      rcases (show before i j a b ∨ (a = i ∧ b = j) by unfold before at *; omega) with hh | ⟨rfl, rfl⟩
      · exact h a b hab hb hh
      · exact hA
    | true =>
      gi_wp2_with (rw [Oper.semAt_eq _ _ _ (fun c h => by cases h)]; go_simp; try go_bits)
      exact ⟨((ko.trans (KeepsOthers.setCell _ _ _)).trans (KeepsOthers.setCell _ _ _)).trans (KeepsOthers.setCell _ _ _), i, j, hij, hj, hA, h, ((M3.set6 (.int .i64 i)).set7 (.int .i64 j)).set8 (.int .i64 0)⟩
  case done =>
    rintro j W ⟨m, c, z, h⟩ hK
    obtain ⟨k0', hz', q4, q5, q6, q7, q8, f6, f7, f8⟩ := id m
    gi_wp2
    have s1 : (W1.alloc (.cells #[.int .i64 (n : Int)] 3)).heap.size = W1.heap.size + 1 := by simp
    obtain ⟨rfl, rfl, rfl⟩ := hnone fun a b hab hb => h a b hab hb (.inl (by omega))
    have M := ((m.set6 (.int .i64 0)).set7 (.int .i64 0)).set8 (.int .i64 13)
    have ko := ((KeepsOthers.setCell W ⟨w0.heap.size + 1 + 1, 0, none⟩ (.int .i64 0)).trans (KeepsOthers.setCell _ ⟨w0.heap.size + 1 + 1 + 1, 0, none⟩ (.int .i64 0))).trans (KeepsOthers.setCell _ ⟨w0.heap.size + 1 + 1 + 1 + 1, 0, none⟩ (.int .i64 13))
    have hK' := ko.same _ _ hK rfl
    have M' := M.put (l := (W1.alloc (.cells #[.int .i64 (n : Int)] 3)).heap.size) (by rw [s1]; omega) (.deferred none) rfl
    refine ⟨by simp, .inl ⟨_, _, rfl, run_takeDeferred hK', ?_⟩⟩
    exact ⟨_, M'.res rfl rfl rfl, rfl, M'.k⟩
  case stop =>
    rintro W ⟨i, j, h1, h2, h3, h4, m⟩ hK
    gi_wp2
    have s1 : (W1.alloc (.cells #[.int .i64 (n : Int)] 3)).heap.size = W1.heap.size + 1 := by simp
    obtain ⟨rfl, rfl, rfl⟩ := hfound i j h1 h2 h3 h4
    have M' := m.put (l := (W1.alloc (.cells #[.int .i64 (n : Int)] 3)).heap.size) (by rw [s1]; omega) (.deferred none) rfl
    refine ⟨by simp, .inl ⟨_, _, rfl, run_takeDeferred hK, ?_⟩⟩
    exact ⟨_, M'.res rfl rfl rfl, rfl, M'.k⟩
end Go.Ev.ClmW
namespace Go.Ev.ClmW
open Go Go.Ev Go.Proofs
set_option linter.unusedVariables false
theorem loc_none {T : Tab} {S : Stab} {w : World} {L : Loc} (h : St T S w L (look []) [0]) : ∀ r, L r = none := fun r => h.fresh r (.inr ⟨0, rfl, Nat.zero_le _⟩)
theorem stays_of_keep {T : Tab} {S : Stab} {w W : World} {L : Loc} (h : St T S w L (look []) [0]) (k : Keep w W) : Stays S w W := fun b o hs => World.cell?_of_block (k.below.block b (h.inv.stab b o hs))
theorem st_of_keep {T : Tab} {S : Stab} {w W : World} {L : Loc} (hg : ∀ g, T.glob g = none) (h : St T S w L (look []) [0]) (k : Keep w W) : St T S W L (look []) [0] :=
  ⟨⟨fun r row hr => by simp [look] at hr, fun r r' row row' p p' h1 _ _ _ _ => by simp [look] at h1, fun b o hb => Nat.lt_of_lt_of_le (h.inv.stab b o hb) k.below.size⟩, h.nd, h.fresh, h.dom, fun g c ty hc => by rw [hg] at hc; cases hc⟩
theorem frz_of_keep {w W : World} (k : Keep w W) (a : Addr) : W.frozen? a = w.frozen? a := by
  rcases Nat.lt_or_ge a.block w.heap.size with hb | hb
  · exact World.frozen?_of_block (k.below.block _ hb)
  · have e : w.heap[a.block]? = none := Array.getElem?_eq_none hb
    have h1 : w.frozen? a = false := by unfold World.frozen?; rw [e]
    rw [h1]
    exact k.frz a.block a.off hb
theorem ext_of_keep {T : Tab} {S : Stab} {w W : World} {L : Loc} (h : St T S w L (look []) [0]) (k : Keep w W) : Ext w S L W S L :=
  ⟨fun _ _ h => h, stays_of_keep h k, Loc.le_refl _, fun _ _ h => .inl h, fun b hb _ => k.below.block b hb, k.below.size, k.below.os, k.below.tape, k.below.output, (fun r p hr => by rw [loc_none h r] at hr; cases hr), frz_of_keep k, fun b arr bt hb => ⟨arr, (k.below.block b (Array.getElem?_eq_some_iff.1 hb).1).trans hb, rfl⟩⟩
theorem keep_of_ext {T : Tab} {S S' : Stab} {w W : World} {L L' : Loc} (h : St T S w L (look []) [0]) (e : Ext w S L W S' L') : Keep w W := by
  have ho : ∀ b, ¬ ownOf L b := fun b => by rintro ⟨r, p, h1, _⟩; rw [loc_none h r] at h1; cases h1
  refine ⟨⟨e.os, e.tape, e.output, e.size, fun b hb => e.blocks b hb (ho b)⟩, fun b o hb => ?_⟩
  rw [e.frz]
  unfold World.frozen?
  rw [show w.heap[b]? = none from Array.getElem?_eq_none hb]
theorem calls_keep {T : Tab} (hP : T.P = Try.prog) (hg : ∀ g, T.glob g = none) {f : FuncId} {args : List AV} {u : Value} (h : CallOK T f args [] (.sc u) []) {S : Stab} {w W : World} {L : Loc} {us : List Value}
    (hst : St T S w L (look []) [0]) (k : Keep w W) (hr : RelL T.P S w args L us) : Calls Try.prog f us.toArray W fun r W' => r = .returned u ∧ Keep W W' := by
  have hst' := st_of_keep hg hst k
  rw [← hP]
  refine (h.run S W L us hst' (RelL.mono (fun _ _ h => h) (stays_of_keep hst k) _ (Loc.le_refl _) hr)).mono ?_
  rintro e W' ⟨u', S', L', rfl, hu, _, he⟩
  simp only [Rel] at hu
  exact ⟨by rw [hu], keep_of_ext hst' he⟩
theorem why_fnin {T : Tab} (hP : T.P = Try.prog) : FnIn T.P 32 := by
  rw [hP]
  exact ⟨_, _, Try.func32, rfl, by kernel_rfl⟩
theorem why_callE {T : Tab} (hP : T.P = Try.prog) (hg : ∀ g, T.glob g = none) {w e : Int} {cs gs : List Int} (he : e ≠ 0)
    (h34 : CallOK T 34 [vi w, .sl (.int .i64) cs false, .sl (.int .i64) gs false] [] (vi e) []) : CallOK T 32 [vi w, .sl (.int .i64) cs false, .sl (.int .i64) gs false] [] (.tuple [vi 0, vi 0, vi e]) [] := by
  refine ⟨why_fnin hP, Nat.le_refl _, fun S w0 L us hst hr => ?_⟩
  have hr0 := hr
  simp only [RelL, Rel] at hr
  obtain ⟨_, _, rfl, rfl, _, _, rfl, ⟨p1, c1, rfl, _⟩, _, _, rfl, ⟨p2, c2, rfl, _⟩, rfl⟩ := hr
  have hw := why_err w0 w e cs.length c1 gs.length c2 p1 p2 he (fun W k => calls_keep hP hg h34 hst k hr0)
  rw [hP]
  refine hw.mono ?_
  rintro r W ⟨rfl, k⟩
  exact ⟨_, S, L, rfl, ⟨_, rfl, _, _, rfl, rfl, _, _, rfl, rfl, _, _, rfl, rfl, rfl⟩, st_of_keep hg hst k, ext_of_keep hst k⟩
theorem why_callO {T : Tab} (hP : T.P = Try.prog) (hg : ∀ g, T.glob g = none) {w : Int} {cs gs : List Int} (hn : cs.length ≤ 100) (A : Nat → Nat → Bool) (rx ry rz : Int)
    (hfound : ∀ i j, i < j → j < cs.length → A i j = true → (∀ a b, a < b → b < cs.length → before i j a b → A a b = false) → rx = i ∧ ry = j ∧ rz = 0)
    (hnone : (∀ a b, a < b → b < cs.length → A a b = false) → rx = 0 ∧ ry = 0 ∧ rz = 13)
    (h34 : CallOK T 34 [vi w, .sl (.int .i64) cs false, .sl (.int .i64) gs false] [] (vi 0) [])
    (h70 : ∀ i j : Nat, i < j → j < cs.length → CallOK T 70 [.sl (.int .i64) cs false, .sl (.int .i64) gs false, vi i, vi j] [] (vb (A i j)) []) :
    CallOK T 32 [vi w, .sl (.int .i64) cs false, .sl (.int .i64) gs false] [] (.tuple [vi rx, vi ry, vi rz]) [] := by
  refine ⟨why_fnin hP, Nat.le_refl _, fun S w0 L us hst hr => ?_⟩
  have hr0 := hr
  simp only [RelL, Rel] at hr
  obtain ⟨_, _, rfl, rfl, _, _, rfl, h1, _, _, rfl, h2, rfl⟩ := hr
  have h1' := h1
  have h2' := h2
  obtain ⟨p1, c1, rfl, _⟩ := h1
  obtain ⟨p2, c2, rfl, _⟩ := h2
  have hw := why_ok w0 w cs.length c1 gs.length c2 p1 p2 hn A rx ry rz hfound hnone (fun W k => calls_keep hP hg h34 hst k hr0)
    (fun i j W hi hj k => calls_keep hP hg (h70 i j hi hj) hst k (by simp only [RelL, Rel]; exact ⟨_, _, rfl, h1', _, _, rfl, h2', _, _, rfl, rfl, _, _, rfl, rfl, rfl⟩))
  rw [hP]
  refine hw.mono ?_
  rintro r W ⟨rfl, k⟩
  exact ⟨_, S, L, rfl, ⟨_, rfl, _, _, rfl, rfl, _, _, rfl, rfl, _, _, rfl, rfl, rfl⟩, st_of_keep hg hst k, ext_of_keep hst k⟩
end Go.Ev.ClmW
