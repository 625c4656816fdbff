/- Laws of the burn chapter: what they share. -/
import Derived.Test.YtpieoljeikpemaaDoorSd
import Derived.Test.YtpieoljeikpemaaDoorWj
import Derived.Test.YtpieoljeikpemaaDoorDr
import Derived.Test.YtpieoljeikpemaaDoorEvE
set_option linter.unusedVariables false
set_option linter.unusedSimpArgs false
namespace Go.Ev.Burn
open Go Go.Ev Go.Proofs Go.RowKit Go.ChangeShapes Go.WideShapes
set_option maxRecDepth 1000000
set_option linter.unusedVariables false
theorem works_ok : CallOK BurnC.TC 16 [] [] (vb true) [] :=
  evBody_sound (carried_ok (T := BurnC.T0) (fun _ _ h => fnsOf_spec h) (by kernel_rfl) 200 80).1 BurnC.ran16
theorem c16_run : ∀ args H v H', (c16 args H).val = some (v, H') → CallOK S14 16 args H v H' := by
  intro args H v H' hv
  unfold c16 at hv
  split at hv
  · cases leaf_val hv
    refine CallOK.tab ?_ ?_ works_ok <;> rfl
  · cases hv
theorem S15_ok : TabOK S15 := by
  have h := S14_ok
  have h := h.addCall (g := 24) (r := c24) fun a H v H' hv => by refine CallOK.tab ?_ ?_ (c24_run a H v H' hv) <;> rfl
  have h := h.addCall (g := 16) (r := c16) fun a H v H' hv => by refine CallOK.tab ?_ ?_ (c16_run a H v H' hv) <;> rfl
  exact h
theorem glob_same : S15.glob = BurnC.globB := rfl
section read
variable {H : Type} {enc : TypeId × Value → H} {W : World} {base : Nat}
theorem und3 : Tryd.prog.underlying 3 = some (.int .i64) := by kernel_rfl
theorem und25 : Tryd.prog.underlying 25 = some (.slice 3) := by kernel_rfl
theorem und22 : Tryd.prog.underlying 22 = some (.slice 66) := by kernel_rfl
theorem und66 : Tryd.prog.underlying 66 = some (.array 2 3) := by kernel_rfl
theorem cells3 : Tryd.prog.cellsOf 3 = 1 := by kernel_rfl
theorem cells22 : Tryd.prog.cellsOf 22 = 1 := by kernel_rfl
theorem cells66 : Tryd.prog.cellsOf 66 = 2 := by kernel_rfl
theorem cells24 : Tryd.prog.cellsOf 24 = 2 := by kernel_rfl
noncomputable def fields24 : Array Field := match Tryd.prog.underlying 24 with
  | some (.struct fs) => fs
  | _ => #[]
theorem und24 : Tryd.prog.underlying 24 = some (.struct fields24) := by kernel_rfl
theorem f24_0 : (fields24[0]?).map (fun f => (f.type, f.offset)) = some (3, 0) := by kernel_rfl
theorem f24_1 : (fields24[1]?).map (fun f => (f.type, f.offset)) = some (22, 1) := by kernel_rfl
theorem f24_n : fields24.size = 2 := by kernel_rfl
theorem read_heap {v : Value} {d : DataW H} {p : List MemPlace} (hv : Value.okWide Tryd.prog W .any base 24 v) (h : DataW.Trod enc Tryd.prog W 0 (fun _ => true) true 24 v d p) :
    ∃ n ws, ∀ L, Rel Tryd.prog (allOld W) W (aH n ws) L v := by
  obtain ⟨fuel, h⟩ := h
  obtain ⟨cs, rfl, hs⟩ := okWide_struct und24 hv
  obtain ⟨xs, n, rfl, _, hl, hx, hf⟩ := DataW.trod_struct und24 h
  rw [cells24] at hs
  obtain ⟨c0, c1, rfl⟩ : ∃ c0 c1, cs = #[c0, c1] := by
    obtain ⟨l⟩ := cs
    match l, hs with
    | [a, b], _ => exact ⟨a, b, rfl⟩
  rw [f24_n] at hx
  obtain ⟨f0, e0, e1⟩ := Option.map_eq_some_iff.1 f24_0
  obtain ⟨f1, e2, e3⟩ := Option.map_eq_some_iff.1 f24_1
  simp only [Prod.mk.injEq] at e1 e3
  have h0 := hf 0 f0 e0
  have h1 := hf 1 f1 e2
  rw [e1.1, e1.2, cells3, List.getElem?_eq_getElem (by omega)] at h0
  rw [e3.1, e3.2, cells22, List.getElem?_eq_getElem (by omega)] at h1
  obtain ⟨m, hm, _⟩ := trod_int und3 h0
  obtain ⟨u, l, hu, hr⟩ := read_pairs und22 und66 und3 cells66 cells3 h1
  simp [Value.cells] at hm hu
  subst hm
  subst hu
  refine ⟨m, l, fun L => ?_⟩
  refine ⟨_, rfl, rfl, ?_⟩
  refine ⟨(fun e l h => by cases h), (fun _ => ⟨_, rfl, rfl⟩), ?_⟩
  refine ⟨(fun e l h => by cases h), (fun _ => ⟨_, rfl, hr _⟩), trivial⟩
theorem read_list {v : Value} {d : DataW H} {p : List MemPlace} (hv : Value.okWide Tryd.prog W .any base 25 v) (h : DataW.Trod enc Tryd.prog W 0 (fun _ => true) true 25 v d p) :
    ∃ l, (∀ L, Rel Tryd.prog (allOld W) W (lI l) L v) := by
  obtain ⟨fuel, h⟩ := h
  obtain ⟨a, len, cap, rfl⟩ := okWide_slice und25 hv
  obtain ⟨u, l, hu, hr, _⟩ := read_ints und25 und3 cells3 h
  simp [Value.cells] at hu
  subst hu
  exact ⟨l, hr⟩
theorem read_num {v : Value} {d : DataW H} {p : List MemPlace} (hv : Value.okWide Tryd.prog W .any base 3 v) (h : DataW.Trod enc Tryd.prog W 0 (fun _ => true) true 3 v d p) :
    ∃ n, v = .int .i64 n := by
  obtain ⟨n, rfl, _⟩ := open_int und3 hv h
  exact ⟨n, rfl⟩
end read
end Go.Ev.Burn
