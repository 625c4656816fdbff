/- Arguments: arrays of integers, and structs of such arrays and integers. -/
import Derived.Test.YtpieoljeikpemaaDoorEvE
import Derived.OpenShut
import Derived.Test.YtpieoljeikpemaaDoorLa
set_option linter.unusedVariables false
set_option linter.unusedSimpArgs false
namespace Go.Ev
open Go Go.RowKit Go.ChangeShapes Go.WideShapes
set_option linter.unusedVariables false
section
variable {H : Type} {enc : TypeId × Value → H} {P : Program} {W : World} {base : Nat} {sp : Nat → Bool} {held : Bool}
def arrI (P : Program) (k : IntKind) : Nat → TypeId → Bool
  | 0, _ => false
  | f + 1, t => match P.underlying t with
    | some (.int k') => decide (k' = k) && Nat.beq (P.cellsOf t) 1
    | some (.array n e) => Nat.beq (P.cellsOf t) (n * P.cellsOf e) && arrI P k f e
    | _ => false
theorem trod_arr {k : IntKind} : ∀ (f : Nat) {t : TypeId} {fuel : Nat} {cs : List Value} {x : DataW H × List MemPlace}, arrI P k f t = true → DataW.trod enc P W base sp held fuel t cs = some x →
    cs.length = P.cellsOf t ∧ ∀ c ∈ cs, ∃ z, c = .int k z ∧ (Lit.int k z).wf = true
  | 0, t, fuel, cs, x, ha, h => by cases ha
  | f + 1, t, fuel, cs, x, ha, h => by
    unfold arrI at ha
    split at ha
    · rename_i k' ht
      simp only [Bool.and_eq_true, decide_eq_true_eq] at ha
      obtain ⟨rfl, hc⟩ := ha
      obtain ⟨n, rfl, hw⟩ := trod_int ht h
      exact ⟨(Nat.eq_of_beq_eq_true hc).symm, fun c hc => by rw [List.mem_singleton] at hc; exact ⟨n, hc, hw⟩⟩
    · rename_i n e ht
      rw [Bool.and_eq_true] at ha
      obtain ⟨hc, ha⟩ := ha
      have hc := Nat.eq_of_beq_eq_true hc
      obtain ⟨xs, m, rfl, rfl, hl, hx, hf⟩ := DataW.trod_array ht h
      refine ⟨hl, fun c hcm => ?_⟩
      obtain ⟨j, hj, rfl⟩ := List.getElem_of_mem hcm
      have he : 0 < P.cellsOf e := Nat.pos_of_ne_zero fun h0 => by rw [h0, Nat.mul_zero] at hc; omega
      have hi : j / P.cellsOf e < n := by
        rw [Nat.div_lt_iff_lt_mul he]; omega
      have h1 := hf _ hi
      rw [List.getElem?_eq_getElem (by omega)] at h1
      obtain ⟨h2, h3⟩ := trod_arr f ha h1
      have hm : cs[j] ∈ (cs.drop (j / P.cellsOf e * P.cellsOf e)).take (P.cellsOf e) := by
        have hmod := Nat.mod_lt j he
        have hdm := Nat.div_add_mod j (P.cellsOf e)
        rw [Nat.mul_comm] at hdm
        rw [List.mem_iff_getElem?]
        refine ⟨j % P.cellsOf e, ?_⟩
        rw [List.getElem?_take, if_pos hmod, List.getElem?_drop, hdm, List.getElem?_eq_getElem hj]
      exact h3 _ hm
    · cases ha
theorem ints_of {k : IntKind} : ∀ {cs : List Value}, (∀ c ∈ cs, ∃ z, c = .int k z ∧ (Lit.int k z).wf = true) → ∃ zs : List Int, cs = zs.map (Value.int k) ∧ ∀ z ∈ zs, (Lit.int k z).wf = true
  | [], _ => ⟨[], rfl, fun z hz => by cases hz⟩
  | c :: cs, h => by
    obtain ⟨z, rfl, hz⟩ := h c (by simp)
    obtain ⟨zs, rfl, hzs⟩ := ints_of (cs := cs) fun c hc => h c (List.mem_cons_of_mem _ hc)
    refine ⟨z :: zs, rfl, fun y hy => ?_⟩
    rcases List.mem_cons.1 hy with rfl | hy
    · exact hz
    · exact hzs y hy
theorem trod_ints {k : IntKind} (f : Nat) {t : TypeId} {fuel : Nat} {cs : List Value} {x : DataW H × List MemPlace} (ha : arrI P k f t = true) (h : DataW.trod enc P W base sp held fuel t cs = some x) :
    ∃ zs : List Int, cs = zs.map (Value.int k) ∧ zs.length = P.cellsOf t ∧ ∀ z ∈ zs, (Lit.int k z).wf = true := by
  obtain ⟨h1, h2⟩ := trod_arr f ha h
  obtain ⟨zs, rfl, h3⟩ := ints_of h2
  exact ⟨zs, rfl, by simpa using h1, h3⟩
theorem cells_run {k : IntKind} {S : Stab} {w : World} {cs : List Value} {o n : Nat} {l : List Int} (h : (cs.drop o).take n = l.map (Value.int k)) : RunR S w (.int k) l (fun i => cs.toArray[i]?) o := by
  intro i x hx
  show (cs.toArray[o + i * 1]?) = some (.int k x)
  have h1 := congrArg (fun l => l[i]?) h
  simp only [List.getElem?_take, List.getElem?_drop, List.getElem?_map] at h1
  rw [Nat.mul_one, List.getElem?_toArray]
  rw [show l[i]? = some x from hx] at h1
  split at h1
  · exact h1
  · cases h1
theorem at_one {cs : List Value} {o : Nat} {v : Value} (h : (cs.drop o).take 1 = [v]) : cs.toArray[o]? = some v := by
  have h1 := congrArg (fun l => l[0]?) h
  simp only [List.getElem?_take, List.getElem?_drop] at h1
  rw [List.getElem?_toArray]
  simpa using h1
theorem wf_u8 {z : Int} (h : (Lit.int .u8 z).wf = true) : 0 ≤ z ∧ z < 256 := by
  simp [Lit.wf, IntKind.min, IntKind.max, IntKind.signed, IntKind.bits] at h; omega
theorem wf_u16 {z : Int} (h : (Lit.int .u16 z).wf = true) : 0 ≤ z ∧ z < 65536 := by
  simp [Lit.wf, IntKind.min, IntKind.max, IntKind.signed, IntKind.bits] at h; omega
theorem wf_u32 {z : Int} (h : (Lit.int .u32 z).wf = true) : 0 ≤ z ∧ z < 4294967296 := by
  simp [Lit.wf, IntKind.min, IntKind.max, IntKind.signed, IntKind.bits] at h; omega
theorem wf_i64 {z : Int} (h : (Lit.int .i64 z).wf = true) : -9223372036854775808 ≤ z ∧ z < 9223372036854775808 := by
  simp [Lit.wf, IntKind.min, IntKind.max, IntKind.signed, IntKind.bits] at h; omega
end
end Go.Ev
namespace Go.Ev.Burn
open Go Go.Ev Go.Proofs Go.RowKit Go.ChangeShapes Go.WideShapes
set_option maxRecDepth 1000000
section read
variable {H : Type} {enc : TypeId × Value → H} {W : World} {base : Nat}
theorem und5 : Tryd.prog.underlying 5 = some (.int .u8) := by kernel_rfl
theorem read_u8 {v : Value} {d : DataW H} {p : List MemPlace} (hv : Value.okWide Tryd.prog W .any base 5 v) (h : DataW.Trod enc Tryd.prog W 0 (fun _ => true) true 5 v d p) :
    ∃ n, v = .int .u8 n ∧ 0 ≤ n ∧ n < 256 := by
  obtain ⟨n, rfl, _, _, hw⟩ := open_int und5 hv h
  exact ⟨n, rfl, wf_u8 hw⟩
end read
end Go.Ev.Burn
