/- Arguments of the laws by numbers. -/
import Derived.Test.YtajhpbahjindkaaDoorRr
import Derived.Test.YtajhpbahjindkaaDoorNc
import Derived.Test.YtajhpbahjindkaaDoorEvF
set_option linter.unusedVariables false
set_option linter.unusedSimpArgs false
namespace Go.Ev.Rag
open Go Go.Ev Go.Proofs Go.RowKit Go.ChangeShapes Go.WideShapes
set_option maxRecDepth 1000000
set_option linter.unusedVariables false
theorem und38 : Tryd.prog.underlying 38 = some (.int .u32) := by kernel_rfl
theorem cells38 : Tryd.prog.cellsOf 38 = 1 := by kernel_rfl
theorem cells40 : Tryd.prog.cellsOf 40 = 2 := by kernel_rfl
noncomputable def fields40 : Array Field := match Tryd.prog.underlying 40 with
  | some (.struct fs) => fs
  | _ => #[]
theorem und40 : Tryd.prog.underlying 40 = some (.struct fields40) := by kernel_rfl
theorem f40_0 : (fields40[0]?).map (fun f => (f.type, f.offset)) = some (5, 0) := by kernel_rfl
theorem f40_1 : (fields40[1]?).map (fun f => (f.type, f.offset)) = some (38, 1) := by kernel_rfl
theorem f40_n : fields40.size = 2 := by kernel_rfl
section read
variable {H : Type} {enc : TypeId × Value → H} {W : World} {base : Nat}
theorem read_u8 {v : Value} {d : DataW H} {p : List MemPlace} (hv : Value.okWide Tryd.prog W .any base 5 v) (h : DataW.Trod enc Tryd.prog W 0 (fun _ => true) true 5 v d p) :
    ∃ n, v = .int .u8 n ∧ 0 ≤ n ∧ n < 256 := by
  obtain ⟨n, rfl, _, _, hw⟩ := open_int und5 hv h
  exact ⟨n, rfl, wf_u8 hw⟩
theorem in32_rng {b : Int} (h : 0 ≤ b ∧ b < 4294967296) : Rgg.in32 b = true := by
  obtain ⟨m, rfl⟩ := Int.eq_ofNat_of_zero_le h.1
  exact Nat.ble_eq_true_of_le (by omega)
theorem read_pile {v : Value} {d : DataW H} {p : List MemPlace} (hv : Value.okWide Tryd.prog W .any base 40 v) (h : DataW.Trod enc Tryd.prog W 0 (fun _ => true) true 40 v d p) :
    ∃ k b, (∀ L, Rel Tryd.prog (allOld W) W (pil k b) L v) ∧ (0 ≤ k ∧ k < 256) ∧ Rgg.in32 b = true := by
  obtain ⟨fuel, h⟩ := h
  obtain ⟨cs, rfl, hs⟩ := okWide_struct und40 hv
  obtain ⟨cs⟩ := cs
  obtain ⟨xs, n, rfl, _, hl, hx, hf⟩ := DataW.trod_struct und40 h
  rw [f40_n] at hx
  obtain ⟨f0, e0, d0⟩ := Option.map_eq_some_iff.1 f40_0
  obtain ⟨f1, e1, d1⟩ := Option.map_eq_some_iff.1 f40_1
  simp only [Prod.mk.injEq] at d0 d1
  have h0 := hf 0 f0 e0
  have h1 := hf 1 f1 e1
  rw [d0.1, d0.2, cells5, List.getElem?_eq_getElem (by omega)] at h0
  rw [d1.1, d1.2, cells38, List.getElem?_eq_getElem (by omega)] at h1
  obtain ⟨a, ha, wa⟩ := trod_int und5 h0
  obtain ⟨b, hb, wb⟩ := trod_int und38 h1
  rw [cells40] at hs
  refine ⟨a, b, fun L => ⟨⟨cs⟩, rfl, ?_, ?_⟩, wf_u8 wa, in32_rng (wf_u32 wb)⟩
  · rw [hs]
    simp [contSize, segSize]
  · refine ⟨(fun e l h => by cases h), (fun _ => ⟨_, at_one ha, rfl⟩), ?_⟩
    refine ⟨(fun e l h => by cases h), (fun _ => ⟨_, at_one hb, rfl⟩), trivial⟩
end read
end Go.Ev.Rag
