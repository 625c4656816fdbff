/- A world where the tables of RagRead's card lie. -/
import Derived.Test.YtajhpbahjindkaaDoorDr
set_option linter.unusedVariables false
set_option linter.unusedSimpArgs false
namespace Go.Ev.Rag
open Go Go.Ev Go.Proofs
set_option linter.unusedVariables false
set_option maxRecDepth 1000000
def fill5 (l : List Value) : Obj → Obj
  | .cells _ t frozen => .cells l.toArray t frozen
  | o => o
def u8V (l : List Int) : List Value := l.map fun z => Value.int .u8 z
def accT : List Int := [128, 191, 160, 191, 128, 159, 144, 191, 128, 143, 0, 0, 0, 0, 0, 0, 0, 0, 0, 0, 0, 0, 0, 0, 0, 0, 0, 0, 0, 0, 0, 0]
def firstV : List Value := Go.Pinned.utf8FirstZ.map fun (n : Nat) => Value.int .u8 (n : Int)
def cellsX (x : Nat × Nat × Int × Int × Int) : List Value := [Value.int .u32 x.1, Value.int .u32 x.2.1, Value.int .i32 x.2.2.1, Value.int .i32 x.2.2.2.1, Value.int .i32 x.2.2.2.2]
def caseV : List Value := (Go.Pinned.caseRows.map cellsX).flatten
def headV : List Value := [.slice (some ⟨11, 0, none⟩) 336 336]
noncomputable def laidWorld5 (os : Os) : World :=
  { World.holding Tryd.prog os ⟨#[], #[], []⟩ with heap := ((((((World.holding Tryd.prog os ⟨#[], #[], []⟩).heap.modify 0 (fill5 (u8V tab32))).modify 5 (fill5 (u8V tab64))).modify 4 (fill5 (u8V accT))).modify 3 (fill5 firstV)).modify 1 (fill5 headV)).push (.cells caseV.toArray 157 (0, 0)) }
def cellsOp (w : World) (b : Nat) : Option (Option (Array Value × Nat × Nat)) := (w.heap[b]?).map fun o => match o with
  | .cells a _ f => some (a, f)
  | _ => none
theorem cellsAt_of {w : World} {b : Nat} {a : Array Value} (h : cellsOp w b = some (some (a, (0, 0)))) : ∃ t, w.heap[b]? = some (.cells a t (0, 0)) := by
  unfold cellsOp at h
  cases ho : w.heap[b]? with
  | none => rw [ho] at h; cases h
  | some o =>
    rw [ho] at h
    simp only [Option.map_some, Option.some.injEq] at h
    split at h
    · rename_i a' t f
      simp only [Option.some.injEq, Prod.mk.injEq] at h
      obtain ⟨rfl, h2⟩ := h
      refine ⟨t, ?_⟩
      rw [h2]
    · cases h
structure Lie (w : World) : Prop where
  h0 : cellsOp w 0 = some (some ((u8V tab32).toArray, (0, 0)))
  h5 : cellsOp w 5 = some (some ((u8V tab64).toArray, (0, 0)))
  h4 : cellsOp w 4 = some (some ((u8V accT).toArray, (0, 0)))
  h3 : cellsOp w 3 = some (some (firstV.toArray, (0, 0)))
  h1 : cellsOp w 1 = some (some (headV.toArray, (0, 0)))
  h11 : cellsOp w 11 = some (some (caseV.toArray, (0, 0)))
noncomputable def tOf (g : Nat) : Nat := ((Tryd.prog.globals[g]?).map (·.type)).getD 0
theorem tOf_eq0 : (Tryd.prog.globals[0]?).map (·.type) = some (tOf 0) := by kernel_rfl
theorem tOf_eq5 : (Tryd.prog.globals[5]?).map (·.type) = some (tOf 5) := by kernel_rfl
theorem tOf_eq4 : (Tryd.prog.globals[4]?).map (·.type) = some (tOf 4) := by kernel_rfl
theorem tOf_eq3 : (Tryd.prog.globals[3]?).map (·.type) = some (tOf 3) := by kernel_rfl
theorem tOf_eq1 : (Tryd.prog.globals[1]?).map (·.type) = some 135 := by kernel_rfl
theorem gn4 : Tryd.prog.globalNamed "unicode/utf8.acceptRanges" = some 4 := by kernel_rfl
theorem gn1 : Tryd.prog.globalNamed "unicode.CaseRanges" = some 1 := by kernel_rfl
theorem gn3 : Tryd.prog.globalNamed "unicode/utf8.first" = some 3 := by kernel_rfl
theorem tr0 (w : World) : DataW.trod (fun _ => ()) Tryd.prog w 0 (fun _ => true) false 8 (tOf 0) (u8V tab32).toArray.toList = some (YtajhpbahjindkaaDoor.Rows.laid_math_bits_deBruijn32tab, []) := by kernel_rfl
theorem tr5 (w : World) : DataW.trod (fun _ => ()) Tryd.prog w 0 (fun _ => true) false 8 (tOf 5) (u8V tab64).toArray.toList = some (YtajhpbahjindkaaDoor.Rows.laid_math_bits_deBruijn64tab, []) := by kernel_rfl
theorem tr4 (w : World) : DataW.trod (fun _ => ()) Tryd.prog w 0 (fun _ => true) false 8 (tOf 4) (u8V accT).toArray.toList = some (YtajhpbahjindkaaDoor.Rows.laid_unicode_utf8_acceptRanges, []) := by kernel_rfl
theorem tr3 (w : World) : DataW.trod (fun _ => ()) Tryd.prog w 0 (fun _ => true) false 8 (tOf 3) firstV.toArray.toList = some (YtajhpbahjindkaaDoor.Rows.laid_unicode_utf8_first, []) := by kernel_rfl
theorem trRows (w : World) : (Go.Pinned.caseRows.map fun x => DataW.trod (fun _ => ()) Tryd.prog w 0 (fun _ => true) false 7 157 (cellsX x)) = Go.Pinned.caseRows.map fun x => some (Go.Pinned.caseRange x, []) := by kernel_rfl
theorem und135 : Tryd.prog.underlying 135 = some (.slice 157) := by kernel_rfl
theorem cells157 : Tryd.prog.cellsOf 157 = 5 := by kernel_rfl
theorem rows336 : Go.Pinned.caseRows.length = 336 := by kernel_rfl
theorem flat_get {α β : Type} (f : α → List β) (hf : ∀ x, (f x).length = 5) : ∀ (l : List α) (i : Nat) (x : α), l[i]? = some x → ∀ j, j < 5 → ((l.map f).flatten)[i * 5 + j]? = (f x)[j]?
  | [], i, x, h, j, hj => by cases h
  | y :: l, 0, x, h, j, hj => by
    obtain rfl : y = x := Option.some.inj h
    rw [List.map_cons, List.flatten_cons, Nat.zero_mul, Nat.zero_add, List.getElem?_append_left (by rw [hf]; exact hj)]
  | y :: l, i + 1, x, h, j, hj => by
    rw [List.map_cons, List.flatten_cons, List.getElem?_append_right (by rw [hf]; omega), hf, show (i + 1) * 5 + j - 5 = i * 5 + j by omega]
    exact flat_get f hf l i x h j hj
theorem cell_of {w : World} {b : Nat} {a : Array Value} {t : TypeId} (h : w.heap[b]? = some (.cells a t (0, 0))) (o : Nat) : w.cell? ⟨b, o, none⟩ = a[o]? := by
  unfold World.cell?
  simp only [h]
  rfl
theorem mapM_range {α γ : Type} (l : List α) (f : Nat → Option γ) (g : α → γ) (h : ∀ i x, l[i]? = some x → f i = some (g x)) : (List.range l.length).mapM f = some (l.map g) := by
  have main : ∀ k i, i + k = l.length → (List.range' i k).mapM f = some ((l.drop i).map g) := by
    intro k
    induction k with
    | zero =>
      intro i hi
      rw [List.drop_of_length_le (by omega)]; rfl
    | succ k ih =>
      intro i hi
      have hx := List.getElem?_eq_getElem (show i < l.length by omega)
      rw [List.range'_succ, List.mapM_cons, h i _ hx, ih (i + 1) (by omega), List.drop_eq_getElem_cons (show i < l.length by omega)]
      rfl
  rw [List.range_eq_range']
  exact main l.length 0 (by omega)
theorem trod_slice_mk {H : Type} {enc : TypeId × Value → H} {P : Program} {w : World} {t e : TypeId} {fuel len : Nat} {a : Addr} {elems : List (DataW H × List MemPlace)} (ht : P.underlying t = some (.slice e)) (hl : len ≤ maxLen)
    (hm : ((List.range len).mapM fun i => (w.cells? 0 (a.add (i * P.cellsOf e)) (P.cellsOf e)).bind (DataW.trod enc P w 0 (fun _ => true) false fuel e)) = some elems) :
    DataW.trod enc P w 0 (fun _ => true) false (fuel + 1) t [.slice (some a) len len] = some (.slice (elems.map (·.1)) [], MemPlace.row a (elems.length * P.cellsOf e) ++ elems.flatMap (·.2)) := by
  unfold DataW.trod
  simp only [ht]
  rw [if_pos ⟨Nat.zero_le _, Nat.le_refl _, hl⟩, hm]
  simp
theorem case_elem {w : World} {t : TypeId} (h : w.heap[11]? = some (.cells caseV.toArray t (0, 0))) (i : Nat) (x : Nat × Nat × Int × Int × Int) (hx : Go.Pinned.caseRows[i]? = some x) : (w.cells? 0 ((⟨11, 0, none⟩ : Addr).add (i * 5)) 5).bind (DataW.trod (fun _ => ()) Tryd.prog w 0 (fun _ => true) false 7 157) = some (Go.Pinned.caseRange x, []) := by
  have hc : ∀ j, j < 5 → w.cell? ⟨11, 0 + i * 5 + j, none⟩ = (cellsX x)[j]? := fun j hj => by
    rw [cell_of h, List.getElem?_toArray, Nat.zero_add]
    exact flat_get cellsX (fun _ => rfl) Go.Pinned.caseRows i x hx j hj
  have hcells : w.cells? 0 ((⟨11, 0, none⟩ : Addr).add (i * 5)) 5 = some (cellsX x) := by
    unfold World.cells?
    rw [if_pos (Nat.zero_le _)]
    have e : ∀ j, w.cell? (((⟨11, 0, none⟩ : Addr).add (i * 5)).add j) = w.cell? ⟨11, 0 + i * 5 + j, none⟩ := fun j => by
      have hadd : ∀ (a : Addr) (n : Nat), a.spot = none → a.add n = ⟨a.block, a.off + n, none⟩ := fun a n ha => by
        obtain ⟨b, o, s⟩ := a
        obtain rfl : s = none := ha
        unfold Addr.add
        by_cases h0 : n = 0
        · subst h0; rfl
        · rw [if_neg h0]
      rw [hadd ⟨11, 0, none⟩ (i * 5) rfl, hadd _ j rfl]
    show ([0, 1, 2, 3, 4] : List Nat).mapM (fun j => w.cell? (((⟨11, 0, none⟩ : Addr).add (i * 5)).add j)) = _
    simp only [List.mapM_cons, List.mapM_nil, e, hc 0 (by decide), hc 1 (by decide), hc 2 (by decide), hc 3 (by decide), hc 4 (by decide)]
    rfl
  rw [hcells]
  have := congrArg (fun l => l[i]?) (trRows w)
  simp only [List.getElem?_map, hx, Option.map_some, Option.some.injEq] at this
  exact this
theorem trCase {w : World} {t : TypeId} (h : w.heap[11]? = some (.cells caseV.toArray t (0, 0))) : DataW.trod (fun _ => ()) Tryd.prog w 0 (fun _ => true) false 8 135 headV.toArray.toList = some (YtajhpbahjindkaaDoor.Rows.laid_unicode_CaseRanges, MemPlace.row ⟨11, 0, none⟩ 1680) := by
  have hm : ((List.range 336).mapM fun i => (w.cells? 0 ((⟨11, 0, none⟩ : Addr).add (i * Tryd.prog.cellsOf 157)) (Tryd.prog.cellsOf 157)).bind (DataW.trod (fun _ => ()) Tryd.prog w 0 (fun _ => true) false 7 157)) = some (Go.Pinned.caseRows.map fun x => (Go.Pinned.caseRange x, [])) := by
    rw [cells157, ← rows336]
    exact mapM_range Go.Pinned.caseRows _ (fun x => (Go.Pinned.caseRange x, [])) fun i x hx => case_elem h i x hx
  have := trod_slice_mk (enc := fun _ => ()) (w := w) (fuel := 7) und135 (by decide) hm
  refine this.trans ?_
  rw [List.length_map, rows336, cells157, List.map_map]
  have e1 : ((Go.Pinned.caseRows.map fun x => (Go.Pinned.caseRange x, ([] : List MemPlace))).flatMap (·.2)) = [] := by
    rw [List.flatMap_eq_nil_iff]
    intro y hy
    obtain ⟨x, _, rfl⟩ := List.mem_map.1 hy
    rfl
  rw [e1, List.append_nil]
  rfl
theorem mem_row {a : Addr} {n : Nat} {p : MemPlace} : p ∈ MemPlace.row a n ↔ ∃ i, i < n ∧ p = .cell a.block (a.off + i) := by
  unfold MemPlace.row
  rw [List.mem_map]
  constructor
  · rintro ⟨i, hi, rfl⟩; exact ⟨i, List.mem_range.1 hi, rfl⟩
  · rintro ⟨i, hi, rfl⟩; exact ⟨i, List.mem_range.2 hi, rfl⟩
theorem row_nd (a : Addr) (n : Nat) : (MemPlace.row a n).Nodup := by
  unfold MemPlace.row
  rw [List.Nodup, List.pairwise_map]
  refine List.Pairwise.imp (fun {i j} hne e => hne ?_) List.nodup_range
  injection e with _ e
  omega
def noIf (l : List Value) : Bool := l.all fun v => match v with
  | .iface _ _ => false
  | _ => true
theorem no_iface {l : List Value} (h : noIf l = true) {o : Nat} {u : TypeId} {v : Value} (hc : l.toArray[o]? = some (.iface u v)) : False := by
  rw [List.getElem?_toArray] at hc
  unfold noIf at h
  rw [List.all_eq_true] at h
  have := h _ (List.mem_of_getElem? hc)
  cases this
theorem lie_laid {w : World} (h : Lie w) : laidMet Tryd.prog [("math/bits.deBruijn32tab", YtajhpbahjindkaaDoor.Rows.laid_math_bits_deBruijn32tab), ("math/bits.deBruijn64tab", YtajhpbahjindkaaDoor.Rows.laid_math_bits_deBruijn64tab), ("unicode/utf8.acceptRanges", YtajhpbahjindkaaDoor.Rows.laid_unicode_utf8_acceptRanges), ("unicode.CaseRanges", YtajhpbahjindkaaDoor.Rows.laid_unicode_CaseRanges), ("unicode/utf8.first", YtajhpbahjindkaaDoor.Rows.laid_unicode_utf8_first)] w := by
  obtain ⟨t0, e0⟩ := cellsAt_of h.h0
  obtain ⟨t5, e5⟩ := cellsAt_of h.h5
  obtain ⟨t4, e4⟩ := cellsAt_of h.h4
  obtain ⟨t3, e3⟩ := cellsAt_of h.h3
  obtain ⟨t1, e1⟩ := cellsAt_of h.h1
  obtain ⟨t11, e11⟩ := cellsAt_of h.h11
  have hv : ∀ {n : String} {g : Nat} {a : Array Value} {t : TypeId}, Tryd.prog.globalNamed n = some g → w.heap[g]? = some (.cells a t (0, 0)) → w.var? Tryd.prog n = some a := fun hg he => by
    unfold World.var?
    rw [hg]
    simp only [Option.bind_some, he]
  refine ⟨_, ⟨0, tOf 0, _, 8, [], _, gTab0, tOf_eq0, hv gTab0 e0, tr0 w, ⟨5, tOf 5, _, 8, [], _, gTab1, tOf_eq5, hv gTab1 e5, tr5 w, ⟨4, tOf 4, _, 8, [], _, gn4, tOf_eq4, hv gn4 e4, tr4 w, ⟨1, 135, _, 8, _, _, gn1, tOf_eq1, hv gn1 e1, trCase e11, ⟨3, tOf 3, _, 8, [], _, gn3, tOf_eq3, hv gn3 e3, tr3 w, rfl, rfl⟩, rfl⟩, rfl⟩, rfl⟩, rfl⟩, ?_, ?_⟩
  · simp only [List.append_nil]
    have dis : ∀ {a b : Addr} {n m : Nat}, a.block ≠ b.block → ∀ x ∈ MemPlace.row a n, ∀ y ∈ MemPlace.row b m, x ≠ y := fun hne x hx y hy e => by
      obtain ⟨i, _, rfl⟩ := mem_row.1 hx
      obtain ⟨j, _, rfl⟩ := mem_row.1 hy
      injection e with e _
      exact hne e
    refine List.nodup_append.2 ⟨row_nd .., List.nodup_append.2 ⟨row_nd .., List.nodup_append.2 ⟨row_nd .., List.nodup_append.2 ⟨List.nodup_append.2 ⟨row_nd .., row_nd .., dis (by decide)⟩, row_nd .., fun x hx => ?_⟩, fun x hx => ?_⟩, fun x hx => ?_⟩, fun x hx => ?_⟩
    · intro y hy
      rcases List.mem_append.1 hx with hx | hx
      · exact dis (by decide) x hx y hy
      · exact dis (by decide) x hx y hy
    all_goals
      intro y hy
      repeat' rcases List.mem_append.1 hy with hy | hy
      all_goals exact dis (by decide) x hx y hy
  · intro b off hp
    have fin : ∀ {b' : Nat} {l : List Value} {t : TypeId}, noIf l = true → w.heap[b']? = some (.cells l.toArray t (0, 0)) → b = b' → (∃ c t, w.heap[b]? = some (.cells c t (0, 0))) ∧ ∀ u v, w.cell? ⟨b, off, none⟩ = some (.iface u v) → Value.okWide Tryd.prog w .any 0 u v := fun hn he hb => by
      subst hb
      refine ⟨⟨_, _, he⟩, fun u v hc => ?_⟩
      rw [cell_of he] at hc
      exact (no_iface hn hc).elim
    have blk : ∀ {a : Addr} {n : Nat}, MemPlace.cell b off ∈ MemPlace.row a n → b = a.block := fun hm => by
      obtain ⟨i, _, e⟩ := mem_row.1 hm
      injection e
    simp only [List.append_nil, List.mem_append] at hp
    rcases hp with hp | hp | hp | (hp | hp) | hp
    · exact fin (by kernel_rfl) e0 (blk hp)
    · exact fin (by kernel_rfl) e5 (blk hp)
    · exact fin (by kernel_rfl) e4 (blk hp)
    · exact fin (by kernel_rfl) e1 (blk hp)
    · exact fin (by kernel_rfl) e11 (blk hp)
    · exact fin (by kernel_rfl) e3 (blk hp)
theorem glob_ok5 {W : World} (h : laidMetH Tryd.prog YtajhpbahjindkaaDoor.Rows.ragReadRow.laid W) {T : Tab} (hP : T.P = Tryd.prog) (hg : T.glob = globB) : GlobOK T (allOld W) W := by
  have h' : laidMet Tryd.prog (("math/bits.deBruijn32tab", Lib.tabData .u8 tab32) :: ("math/bits.deBruijn64tab", Lib.tabData .u8 tab64) :: [("unicode/utf8.acceptRanges", YtajhpbahjindkaaDoor.Rows.laid_unicode_utf8_acceptRanges), ("unicode.CaseRanges", YtajhpbahjindkaaDoor.Rows.laid_unicode_CaseRanges), ("unicode/utf8.first", YtajhpbahjindkaaDoor.Rows.laid_unicode_utf8_first)]) W := h
  have h0 := Lib.tabIs_of_head gTab0 gType0 und95 und5 cells5 cells95 h'
  have h1 := Lib.tabIs_of_head gTab1 gType1 und150 und5 cells5 cells150 h'.tail
  intro g c ty hc
  rw [hg] at hc
  rw [hP]
  unfold globB at hc
  split at hc
  · cases hc
    have hr : RunR (allOld W) W (.int .u8) tab32 (cellsAt W 0) 0 := run_of_cells fun i hi => h0.cell gTab0 i hi
    have hb := cell_lt (h0.cell gTab0 0 (by decide))
    refine ⟨0, 0, rfl, ⟨fun e l he => ?_, (fun hs => by cases hs), trivial⟩, fun i _ => hb, fun t ht => ?_⟩
    · cases he; exact hr
    · cases ht; kernel_rfl
  · cases hc
    have hr : RunR (allOld W) W (.int .u8) tab64 (cellsAt W 5) 0 := run_of_cells fun i hi => h1.cell gTab1 i hi
    have hb := cell_lt (h1.cell gTab1 0 (by decide))
    refine ⟨5, 0, rfl, ⟨fun e l he => ?_, (fun hs => by cases hs), trivial⟩, fun i _ => hb, fun t ht => ?_⟩
    · cases he; exact hr
    · cases ht; kernel_rfl
  · cases hc
end Go.Ev.Rag
