/- Quarrels and divisions: bounds as booleans. -/
import Derived.Test.YtfemekpcgieldaaSb
import Derived.Test.YtfemekpcgieldaaLa
set_option linter.unusedVariables false
set_option linter.unusedSimpArgs false
namespace Clm
open Go
def divB (w : Int) (cs gs : List Int) : Bool := (chk w cs == 0) && decide (gs.length = cs.length) && okG cs gs && (sumI gs == 120 * w)
def u16B (l : List Int) : Bool := l.all fun x => decide (0 ≤ x) && decide (x < 65536)
def u32B (l : List Int) : Bool := l.all fun x => decide (0 ≤ x) && decide (x < 4294967296)
def fitB (q : Qu) : Bool := decide (0 ≤ q.houses) && decide (q.houses < 256) && decide (q.claims.length = 5) && u16B q.claims && decide (0 ≤ q.worth) && decide (q.worth < 65536)
def sprG (left rest : Int) (cs bs : List Int) : Bool := decide (0 ≤ left) && decide (left ≤ rest) && decide (rest = 120 * sumI cs) && decide (cs.length ≤ 5) && okC cs && decide (bs.length = 5) && u32B bs
theorem fit_of {q : Qu} (h : q.Fit) : fitB q = true := by
  unfold fitB u16B
  simp only [Bool.and_eq_true, decide_eq_true_eq, List.all_eq_true]
  exact ⟨⟨⟨⟨⟨h.h.1, h.h.2⟩, h.c.1⟩, h.c.2⟩, h.w.1⟩, h.w.2⟩
theorem of_fit {q : Qu} (h : fitB q = true) : q.Fit := by
  unfold fitB u16B at h
  simp only [Bool.and_eq_true, decide_eq_true_eq, List.all_eq_true] at h
  obtain ⟨⟨⟨⟨⟨a, b⟩, c⟩, d⟩, e⟩, f⟩ := h
  exact ⟨⟨a, b⟩, ⟨c, d⟩, ⟨e, f⟩⟩
theorem u32_of {l : List Int} (h : ∀ x ∈ l, 0 ≤ x ∧ x < 4294967296) : u32B l = true := by
  unfold u32B
  simp only [Bool.and_eq_true, decide_eq_true_eq, List.all_eq_true]
  exact h
theorem of_u32 {l : List Int} (h : u32B l = true) : ∀ x ∈ l, 0 ≤ x ∧ x < 4294967296 := by
  unfold u32B at h
  simpa only [Bool.and_eq_true, decide_eq_true_eq, List.all_eq_true] using h
theorem divB_of {w : Int} {cs gs : List Int} (h : OkW w cs) (d : Div w cs gs) : divB w cs gs = true := by
  unfold divB
  rw [ok_iff h, decide_eq_true d.len, d.g, d.sum]
  simp
end Clm
namespace Clm
open Go
set_option linter.unusedVariables false
def sprX (left rest : Int) (x : Int × Int) : Int := max 0 (left - (rest - 120 * x.1)) + x.2.tmod (min left (120 * x.1) - max 0 (left - (rest - 120 * x.1)) + 1)
def sprStep (s : Int × Int × List Int) (x : Int × Int) : Int × Int × List Int := (s.1 - sprX s.1 s.2.1 x, s.2.1 - 120 * x.1, s.2.2 ++ [sprX s.1 s.2.1 x])
theorem spr_fold : ∀ (l : List (Int × Int)) (a b : Int) (out : List Int), (l.foldl sprStep (a, b, out)).2.2 = out ++ sprR a b l
  | [], a, b, out => by simp [sprR]
  | x :: l, a, b, out => by
    rw [List.foldl_cons]
    show (l.foldl sprStep (a - sprX a b x, b - 120 * x.1, out ++ [sprX a b x])).2.2 = _
    rw [spr_fold l, List.append_assoc]
    rfl
theorem sprX_in {left rest c b : Int} (h0 : 0 ≤ left) (h1 : left ≤ rest) (hc : 0 ≤ c) (hr : 120 * c ≤ rest) (hb : 0 ≤ b) :
    0 < min left (120 * c) - max 0 (left - (rest - 120 * c)) + 1 ∧ 0 ≤ b.tmod (min left (120 * c) - max 0 (left - (rest - 120 * c)) + 1) ∧ b.tmod (min left (120 * c) - max 0 (left - (rest - 120 * c)) + 1) < min left (120 * c) - max 0 (left - (rest - 120 * c)) + 1 := by
  have : 0 < min left (120 * c) - max 0 (left - (rest - 120 * c)) + 1 := by omega
  exact ⟨this, tmod_in hb this⟩
structure SprI (cs : List Int) (i : Nat) (s : Int × Int × List Int) : Prop where
  l0 : 0 ≤ s.1
  l1 : s.1 ≤ s.2.1
  r : s.2.1 = 120 * sumI (cs.drop i)
  n : s.2.2.length = i
theorem sum_drop {cs : List Int} {i : Nat} {c : Int} (h : cs[i]? = some c) : sumI (cs.drop i) = c + sumI (cs.drop (i + 1)) := by
  obtain ⟨hi, e⟩ := List.getElem?_eq_some_iff.1 h
  rw [List.drop_eq_getElem_cons hi, sumI_cons, e]
theorem okC_sum {cs : List Int} (h : okC cs = true) (h5 : cs.length ≤ 5) (i : Nat) : 0 ≤ sumI (cs.drop i) ∧ sumI (cs.drop i) ≤ 5000 := by
  unfold okC at h
  rw [List.all_eq_true] at h
  have key : ∀ l : List Int, (∀ x ∈ l, 1 ≤ x ∧ x ≤ 1000) → 0 ≤ sumI l ∧ sumI l ≤ l.length * 1000 := by
    intro l
    induction l with
    | nil => intro _; simp [sumI_nil]
    | cons x l ih =>
      intro hx
      have a := hx x (by simp)
      have b := ih fun y hy => hx y (by simp [hy])
      rw [sumI_cons, List.length_cons]
      omega
  have := key (cs.drop i) fun x hx => by
    have := h x (List.mem_of_mem_drop hx)
    simpa [inR] using this
  have hl : (cs.drop i).length ≤ cs.length := by simp
  omega
theorem spr_next {cs : List Int} {i : Nat} {s : Int × Int × List Int} {c b : Int} (h : SprI cs i s) (hc : cs[i]? = some c) (hk : okC cs = true) (h5 : cs.length ≤ 5) (hb : 0 ≤ b) : SprI cs (i + 1) (sprStep s (c, b)) ∧ 120 * c ≤ s.2.1 ∧ 1 ≤ c ∧ c ≤ 1000 := by
  have e := sum_drop hc
  have p := okC_sum hk h5 (i + 1)
  have hcc : 1 ≤ c ∧ c ≤ 1000 := by
    unfold okC at hk
    rw [List.all_eq_true] at hk
    have := hk c (List.mem_of_getElem? hc)
    simpa [inR] using this
  have hr := h.r
  have h0 := h.l0
  have h1 := h.l1
  have t := sprX_in (b := b) h0 h1 (show 0 ≤ c by omega) (by omega) hb
  refine ⟨⟨?_, ?_, ?_, ?_⟩, by omega, hcc⟩
  · simp only [sprStep, sprX]; omega
  · simp only [sprStep, sprX]; omega
  · simp only [sprStep]; omega
  · simp only [sprStep, List.length_append, List.length_singleton, h.n]
def sprS (left rest : Int) (cs bs : List Int) (i : Nat) : Int × Int × List Int := ((cs.zip bs).take i).foldl sprStep (left, rest, [])
theorem zip_at {cs bs : List Int} (hb : cs.length ≤ bs.length) {i : Nat} (hi : i < cs.length) : (cs.zip bs)[i]? = some (cs.getD i 0, bs.getD i 0) := by
  have e1 : cs[i]? = some (cs.getD i 0) := by rw [List.getD_eq_getElem?_getD, List.getElem?_eq_getElem hi]; rfl
  have e2 : bs[i]? = some (bs.getD i 0) := by rw [List.getD_eq_getElem?_getD, List.getElem?_eq_getElem (show i < bs.length by omega)]; rfl
  exact (List.getElem?_zip_eq_some (z := (cs.getD i 0, bs.getD i 0))).2 ⟨e1, e2⟩
theorem sprS_succ {left rest : Int} {cs bs : List Int} (hb : cs.length ≤ bs.length) {i : Nat} (hi : i < cs.length) : sprS left rest cs bs (i + 1) = sprStep (sprS left rest cs bs i) (cs.getD i 0, bs.getD i 0) := by
  unfold sprS
  rw [take_succ' (zip_at hb hi), List.foldl_append]
  rfl
theorem sprS_inv {left rest : Int} {cs bs : List Int} (h : sprG left rest cs bs = true) : ∀ i : Nat, i ≤ cs.length → SprI cs i (sprS left rest cs bs i)
  | 0, _ => by
    unfold sprG at h
    simp only [Bool.and_eq_true, decide_eq_true_eq] at h
    obtain ⟨⟨⟨⟨⟨⟨a, b⟩, c⟩, d⟩, e⟩, f⟩, g⟩ := h
    exact ⟨a, b, c, rfl⟩
  | i + 1, hi => by
    have ih := sprS_inv h i (by omega)
    unfold sprG at h
    simp only [Bool.and_eq_true, decide_eq_true_eq] at h
    obtain ⟨⟨⟨⟨⟨⟨a, b⟩, c⟩, d⟩, e⟩, f⟩, g⟩ := h
    rw [sprS_succ (by omega) (by omega)]
    have e1 : cs[i]? = some (cs.getD i 0) := by rw [List.getD_eq_getElem?_getD, List.getElem?_eq_getElem (show i < cs.length by omega)]; rfl
    have e2 : bs[i]? = some (bs.getD i 0) := by rw [List.getD_eq_getElem?_getD, List.getElem?_eq_getElem (show i < bs.length by omega)]; rfl
    exact (spr_next ih e1 e d (of_u32 g _ (List.mem_of_getElem? e2)).1).1
theorem sprS_end {left rest : Int} {cs bs : List Int} (h : sprG left rest cs bs = true) : sprS left rest cs bs cs.length = (0, 0, sprR left rest (cs.zip bs)) := by
  have i := sprS_inv h cs.length (Nat.le_refl _)
  unfold sprG at h
  simp only [Bool.and_eq_true, decide_eq_true_eq] at h
  obtain ⟨⟨⟨⟨⟨⟨a, b⟩, c⟩, d⟩, e⟩, f⟩, g⟩ := h
  have e3 : (sprS left rest cs bs cs.length).2.2 = sprR left rest (cs.zip bs) := by
    unfold sprS
    rw [List.take_of_length_le (by simp; omega), spr_fold]; rfl
  have r := i.r
  have l0 := i.l0
  have l1 := i.l1
  rw [List.drop_length, sumI_nil] at r
  rw [← e3]
  refine Prod.ext ?_ (Prod.ext ?_ rfl)
  · show (sprS left rest cs bs cs.length).1 = 0
    omega
  · show (sprS left rest cs bs cs.length).2.1 = 0
    omega
theorem two_ok {w a b : Int} (ha : 1 ≤ a ∧ a ≤ 1000) (hb : 1 ≤ b ∧ b ≤ 1000) (h0 : 0 ≤ w) (h1 : w ≤ a + b) : OkW w [a, b] :=
  ⟨by simp, by simp, by intro x hx; simp at hx; rcases hx with rfl | rfl <;> omega, h0, by simp [sumI]; omega⟩
theorem two_val {w a b : Int} (ha : 1 ≤ a ∧ a ≤ 1000) (hb : 1 ≤ b ∧ b ≤ 1000) (h0 : 0 ≤ w) (h1 : w ≤ a + b) : 2 * two1 w a b = pairV (120 * w) (120 * a) (120 * b) ∧ two2 w a b = 120 * w - two1 w a b := by
  unfold two1 two2
  rw [ok_iff (two_ok ha hb h0 h1)]
  simp only [beq_self_eq_true, cond_true]
  refine ⟨?_, trivial⟩
  obtain ⟨p, q, h, _⟩ := gar_even w a b
  rw [gar_pair] at h
  rw [h, tdiv120]
  omega
theorem two_div {w a b : Int} (ha : 1 ≤ a ∧ a ≤ 1000) (hb : 1 ≤ b ∧ b ≤ 1000) (h0 : 0 ≤ w) (h1 : w ≤ a + b) : divV w [a, b] = [two1 w a b, two2 w a b] := by
  have ok := two_ok ha hb h0 h1
  have t := two_val ha hb h0 h1
  have d := rule_div ok
  have hs : sumI [two1 w a b, two2 w a b] = 120 * w := by
    show (0 : Int) + two1 w a b + two2 w a b = _
    omega
  refine uniq (cs := [a, b]) d.len rfl (d.sum.trans hs.symm) (fun i j hij hj => div_one ok (by omega) hj) (fun i j hij hj => ?_)
  have hi : i = 0 := by simp at hj; omega
  have hj : j = 1 := by simp at hj; omega
  subst hi hj
  unfold apartV
  rw [gar_pair]
  show (pairV (two1 w a b + two2 w a b) (120 * a) (120 * b) != 2 * two1 w a b) = false
  rw [show two1 w a b + two2 w a b = 120 * w by omega, ← t.1]
  simp
theorem two_avg {w a b : Int} (ha : 1 ≤ a ∧ a ≤ 1000) (hb : 1 ≤ b ∧ b ≤ 1000) (h0 : 0 ≤ w) (h1 : w ≤ a + b) : avgV w [a, b] = [two1 w a b, two2 w a b] := by
  have ok := two_ok ha hb h0 h1
  have t := two_val ha hb h0 h1
  have e : avgV w [a, b] = avgL w [a, b] := by unfold avgV; rw [ok_iff ok]; rfl
  have k0 := (avg_eq ok.lo ok.nn ok.len (k := 0) (by simp)).2
  have k1 := (avg_eq ok.lo ok.nn ok.len (k := 1) (by simp)).2
  have f : (fac 2 : Int) = 2 := rfl
  have t0 : totO w [a, b] 0 = (0 + 120 * min w a) + 120 * min (w - min w b) a := rfl
  have t1 : totO w [a, b] 1 = (0 + 120 * min (w - min w a) b) + 120 * min w b := rfl
  have k0 : totO w [a, b] 0 = 2 * avgK w [a, b] 0 := k0
  have k1 : totO w [a, b] 1 = 2 * avgK w [a, b] 1 := k1
  rw [e]
  show [avgK w [a, b] 0, avgK w [a, b] 1] = _
  unfold pairV at t
  have e0 : avgK w [a, b] 0 = two1 w a b := by omega
  have e1 : avgK w [a, b] 1 = two2 w a b := by omega
  rw [e0, e1]
theorem two_no {a b : Int} (ha : 1 ≤ a ∧ a ≤ 1000) (hb : 1 ≤ b ∧ b ≤ 1000) : chk (a + b + 1) [a, b] = 1 := by
  unfold chk
  have h1 : okC [a, b] = true := by simp [okC, inR]; omega
  have h2 : inR (a + b + 1) 0 (sumI [a, b]) = false := by simp [inR, sumI]; omega
  rw [h1, h2]
  rfl
theorem two_in {w a b : Int} (ha : 1 ≤ a ∧ a ≤ 1000) (hb : 1 ≤ b ∧ b ≤ 1000) (h0 : 0 ≤ w) (h1 : w ≤ a + b) : -1000000 ≤ two1 w a b ∧ two1 w a b ≤ 1000000 := by
  have t := two_val ha hb h0 h1
  unfold pairV at t
  omega
end Clm
namespace Go.Ev.Clm
open Go Go.Ev Go.Proofs Go.RowKit Go.ChangeShapes Go.WideShapes
set_option maxRecDepth 1000000
set_option linter.unusedVariables false
def aQ (q : Clm.Qu) : AV := .agg [.sc (.int .u8 q.houses), .run (.int .u16) q.claims, .sc (.int .u16 q.worth)] false
section read
variable {H : Type} {enc : TypeId × Value → H} {W : World} {base : Nat}
theorem und5 : Try.prog.underlying 5 = some (.int .u8) := by kernel_rfl
theorem und37 : Try.prog.underlying 37 = some (.int .u16) := by kernel_rfl
theorem und38 : ∃ e, Try.prog.underlying 38 = some (.array 5 e) := ⟨37, by kernel_rfl⟩
theorem und42 : ∃ e, Try.prog.underlying 42 = some (.array 5 e) := by first | exact ⟨41, by kernel_rfl⟩ | exact ⟨43, by kernel_rfl⟩ | exact ⟨39, by kernel_rfl⟩ | exact ⟨6, by kernel_rfl⟩ | exact ⟨9, by kernel_rfl⟩
theorem und54 : ∃ e, Try.prog.underlying 54 = some (.array 5 e) := ⟨5, by kernel_rfl⟩
theorem arr38 : arrI Try.prog .u16 4 38 = true := by kernel_rfl
theorem arr42 : arrI Try.prog .u32 4 42 = true := by kernel_rfl
theorem arr54 : arrI Try.prog .u8 4 54 = true := by kernel_rfl
theorem cells5 : Try.prog.cellsOf 5 = 1 := by kernel_rfl
theorem cells37 : Try.prog.cellsOf 37 = 1 := by kernel_rfl
theorem cells38 : Try.prog.cellsOf 38 = 5 := by kernel_rfl
theorem cells42 : Try.prog.cellsOf 42 = 5 := by kernel_rfl
theorem cells54 : Try.prog.cellsOf 54 = 5 := by kernel_rfl
theorem cells40 : Try.prog.cellsOf 40 = 7 := by kernel_rfl
noncomputable def fields40 : Array Field := match Try.prog.underlying 40 with
  | some (.struct fs) => fs
  | _ => #[]
theorem und40 : Try.prog.underlying 40 = some (.struct fields40) := by kernel_rfl
theorem f40_0 : (fields40[0]?).map (fun f => (f.type, f.offset)) = some (5, 0) := by kernel_rfl
theorem f40_1 : (fields40[1]?).map (fun f => (f.type, f.offset)) = some (38, 1) := by kernel_rfl
theorem f40_2 : (fields40[2]?).map (fun f => (f.type, f.offset)) = some (37, 6) := by kernel_rfl
theorem f40_n : fields40.size = 3 := by kernel_rfl
theorem read_u16 {v : Value} {d : DataW H} {p : List MemPlace} (hv : Value.okWide Try.prog W .any base 37 v) (h : DataW.Trod enc Try.prog W 0 (fun _ => true) true 37 v d p) :
    ∃ n, v = .int .u16 n ∧ 0 ≤ n ∧ n < 65536 := by
  obtain ⟨n, rfl, _, _, hw⟩ := open_int und37 hv h
  exact ⟨n, rfl, wf_u16 hw⟩
theorem agg_cells {v : Value} {t : TypeId} {n : Nat} {e : TypeId} (ht : Try.prog.underlying t = some (.array n e)) (hv : Value.okWide Try.prog W .any base t v) : ∃ cs, v = .agg cs ∧ cs.size = Try.prog.cellsOf t := by
  unfold Value.okWide at hv
  rw [ht] at hv
  obtain ⟨cs, h1, h2, _⟩ := hv
  exact ⟨cs, h1, h2⟩
theorem read_arr {k : IntKind} {t : TypeId} {v : Value} {d : DataW H} {p : List MemPlace} (hu : ∃ e, Try.prog.underlying t = some (.array 5 e)) (ha : arrI Try.prog k 4 t = true) (hc : Try.prog.cellsOf t = 5) (hv : Value.okWide Try.prog W .any base t v) (h : DataW.Trod enc Try.prog W 0 (fun _ => true) true t v d p) :
    ∃ l : List Int, (∀ L, Rel Try.prog (allOld W) W (.agg [.run (.int k) l] false) L v) ∧ l.length = 5 ∧ ∀ x ∈ l, (Lit.int k x).wf = true := by
  obtain ⟨fuel, h⟩ := h
  obtain ⟨e, hu⟩ := hu
  obtain ⟨cs, rfl, hs⟩ := agg_cells hu hv
  obtain ⟨cs⟩ := cs
  obtain ⟨l, hl, hn, hw⟩ := trod_ints 4 ha h
  rw [hc] at hn
  have hl : cs = l.map (Value.int k) := hl
  refine ⟨l, fun L => ⟨⟨cs⟩, rfl, ?_, ?_⟩, hn, fun x hx => hw x hx⟩
  · show cs.length = _
    rw [hl, List.length_map]; simp [contSize, segSize, ET.size]
  · exact ⟨fun e l' he => by cases he; exact cells_run (n := 5) (by rw [List.drop_zero, hl, List.take_of_length_le (by rw [List.length_map]; omega)]), (fun h => by cases h), trivial⟩
theorem read_arr8 {v : Value} {d : DataW H} {p : List MemPlace} (hv : Value.okWide Try.prog W .any base 54 v) (h : DataW.Trod enc Try.prog W 0 (fun _ => true) true 54 v d p) :
    ∃ l : List Int, (∀ L, Rel Try.prog (allOld W) W (.agg [.run (.int .u8) l] false) L v) ∧ l.length = 5 ∧ ∀ x ∈ l, 0 ≤ x ∧ x < 256 := by
  obtain ⟨l, h1, h2, h3⟩ := read_arr und54 arr54 cells54 hv h
  exact ⟨l, h1, h2, fun x hx => wf_u8 (h3 x hx)⟩
theorem read_arr32 {v : Value} {d : DataW H} {p : List MemPlace} (hv : Value.okWide Try.prog W .any base 42 v) (h : DataW.Trod enc Try.prog W 0 (fun _ => true) true 42 v d p) :
    ∃ l : List Int, (∀ L, Rel Try.prog (allOld W) W (.agg [.run (.int .u32) l] false) L v) ∧ l.length = 5 ∧ ∀ x ∈ l, 0 ≤ x ∧ x < 4294967296 := by
  obtain ⟨l, h1, h2, h3⟩ := read_arr und42 arr42 cells42 hv h
  exact ⟨l, h1, h2, fun x hx => wf_u32 (h3 x hx)⟩
theorem read_quarrel {v : Value} {d : DataW H} {p : List MemPlace} (hv : Value.okWide Try.prog W .any base 40 v) (h : DataW.Trod enc Try.prog W 0 (fun _ => true) true 40 v d p) :
    ∃ q : Clm.Qu, (∀ L, Rel Try.prog (allOld W) W (aQ q) L v) ∧ q.Fit := by
  obtain ⟨fuel, h⟩ := h
  obtain ⟨cs, rfl, hs⟩ := okWide_struct und40 hv
  obtain ⟨cs⟩ := cs
  obtain ⟨xs, n, rfl, _, hl, hx, hf⟩ := DataW.trod_struct und40 h
  rw [f40_n] at hx
  obtain ⟨f0, e0, d0⟩ := Option.map_eq_some_iff.1 f40_0
  obtain ⟨f1, e1, d1⟩ := Option.map_eq_some_iff.1 f40_1
  obtain ⟨f2, e2, d2⟩ := Option.map_eq_some_iff.1 f40_2
  simp only [Prod.mk.injEq] at d0 d1 d2
  have h0 := hf 0 f0 e0
  have h1 := hf 1 f1 e1
  have h2 := hf 2 f2 e2
  rw [d0.1, d0.2, cells5, List.getElem?_eq_getElem (by omega)] at h0
  rw [d1.1, d1.2, cells38, List.getElem?_eq_getElem (by omega)] at h1
  rw [d2.1, d2.2, cells37, List.getElem?_eq_getElem (by omega)] at h2
  obtain ⟨a, ha, wa⟩ := trod_int und5 h0
  obtain ⟨b, hb, nb, wb⟩ := trod_ints 4 arr38 h1
  obtain ⟨x, hx', wx⟩ := trod_int und37 h2
  rw [cells38] at nb
  rw [cells40] at hs
  refine ⟨⟨a, b, x⟩, fun L => ⟨⟨cs⟩, rfl, ?_, ?_⟩, ⟨wf_u8 wa, ⟨nb, fun y hy => wf_u16 (wb y hy)⟩, wf_u16 wx⟩⟩
  · rw [hs]
    show 7 = contSize _
    simp [contSize, segSize, ET.size, nb]
  · refine ⟨(fun e l h => by cases h), (fun _ => ⟨_, at_one ha, rfl⟩), ?_⟩
    refine ⟨fun e l' he => by cases he; exact cells_run hb, (fun h => by cases h), ?_⟩
    refine ⟨(fun e l h => by cases h), (fun _ => ⟨_, ?_, rfl⟩), trivial⟩
    simp only [segSize, ET.size, nb]
    exact at_one hx'
end read
end Go.Ev.Clm
