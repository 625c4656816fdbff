/- Literals of slices. -/
import Derived.Test.YtajhpbahjindkaaDoorEvB
import Derived.Laws.IdiomCopy
import Derived.Laws.Tables
import Derived.Laws.MakeOwn
import Derived.Laws.AppendOwn
import Derived.Laws.BytesString
set_option linter.unusedVariables false
set_option linter.unusedSimpArgs false
namespace Go.Ev
open Go
set_option linter.unusedVariables false
set_option linter.unusedSimpArgs false
theorem setAll_list (off : Nat) : ∀ (l : List (Value × Nat)) (cs : Array Value), (l.foldl (fun cs (p : Value × Nat) => cs.setIfInBounds (off + p.2) p.1) cs).size = cs.size
  | [], cs => rfl
  | p :: l, cs => by rw [List.foldl_cons, setAll_list off l]; simp
theorem setAll_get (off : Nat) : ∀ (l : List Value) (k : Nat) (cs : Array Value) (q : Nat), off + k + l.length ≤ cs.size →
    ((l.zipIdx k).foldl (fun cs (p : Value × Nat) => cs.setIfInBounds (off + p.2) p.1) cs)[q]? = if off + k ≤ q ∧ q < off + k + l.length then l[q - (off + k)]? else cs[q]?
  | [], k, cs, q, h => by
    simp only [List.zipIdx_nil, List.foldl_nil, List.length_nil]
    rw [if_neg (by omega)]
  | v :: l, k, cs, q, h => by
    simp only [List.zipIdx_cons, List.foldl_cons, List.length_cons] at h ⊢
    rw [setAll_get off l (k + 1) _ q (by simp; omega)]
    by_cases h1 : off + k = q
    · subst h1
      rw [if_neg (by omega), if_pos (by omega), Array.getElem?_setIfInBounds_self_of_lt (by omega)]
      simp
    · by_cases h2 : off + (k + 1) ≤ q ∧ q < off + (k + 1) + l.length
      · rw [if_pos h2, if_pos (by omega)]
        have : q - (off + k) = (q - (off + (k + 1))) + 1 := by omega
        rw [this, List.getElem?_cons_succ]
      · rw [if_neg h2, if_neg (by omega), Array.getElem?_setIfInBounds_ne (by omega)]
theorem fill_spec {size : Nat} : ∀ (us : List Value) (k : Nat) (cells : Array Value), (∀ u ∈ us, u.cells.size = size) → (k + us.length) * size ≤ cells.size →
    ∃ cells', Instr.fill (fun i => some (i * size, size)) cells ((List.range' k us.length).zip us) = some cells' ∧ cells'.size = cells.size ∧
      (∀ q, q < k * size → cells'[q]? = cells[q]?) ∧ ∀ i u, us[i]? = some u → ∀ j, j < size → cells'[(k + i) * size + j]? = u.cells[j]?
  | [], k, cells, _, _ => ⟨cells, rfl, rfl, fun _ _ => rfl, fun i u h => by simp at h⟩
  | u :: us, k, cells, hu, hs => by
    have h0 := hu u (by simp)
    simp only [List.length_cons] at hs ⊢
    have hle : k * size + size ≤ (k + (us.length + 1)) * size := by
      have : (k + 1) * size ≤ (k + (us.length + 1)) * size := Nat.mul_le_mul_right _ (by omega)
      rwa [Nat.succ_mul] at this
    have e0 : (k + 1) * size = k * size + size := Nat.succ_mul _ _
    have hfold : u.cells.zipIdx.foldl (fun cs (p : Value × Nat) => cs.setIfInBounds (k * size + p.2) p.1) cells = (u.cells.toList.zipIdx).foldl (fun cs (p : Value × Nat) => cs.setIfInBounds (k * size + p.2) p.1) cells := by
      rw [← Array.foldl_toList, Array.toList_zipIdx]
    have hget := fun q => setAll_get (k * size) u.cells.toList 0 cells q (by simp [h0]; omega)
    obtain ⟨cells', h1, h2, h3, h4⟩ := fill_spec us (k + 1) ((u.cells.toList.zipIdx).foldl (fun cs (p : Value × Nat) => cs.setIfInBounds (k * size + p.2) p.1) cells) (fun x hx => hu x (by simp [hx]))
      (by rw [setAll_list]; have : k + 1 + us.length = k + (us.length + 1) := by omega
          rw [this]; exact hs)
    refine ⟨cells', ?_, by rw [h2, setAll_list], fun q hq => ?_, fun i x hx j hj => ?_⟩
    · simp only [List.range'_succ, List.zip_cons_cons, Instr.fill]
      rw [if_neg (by rw [h0]; simp; omega)]
      rw [← h1]
      exact congrArg (fun c => Instr.fill _ c _) hfold
    · rw [h3 q (by omega), hget q, if_neg (by omega)]
    · cases i with
      | zero =>
        simp at hx; subst hx
        rw [Nat.add_zero, h3 _ (by omega), hget, if_pos (by simp [h0]; omega)]
        simp
      | succ i =>
        have := h4 i x (by simpa using hx) j hj
        have e : k + 1 + i = k + (i + 1) := by omega
        rw [e] at this; exact this
theorem fill_range {size : Nat} {us : List Value} {cells : Array Value} (hu : ∀ u ∈ us, u.cells.size = size) (hs : us.length * size ≤ cells.size) :
    ∃ cells', Instr.fill (fun i => some (i * size, size)) cells ((List.range us.length).zip us) = some cells' ∧ cells'.size = cells.size ∧
      ∀ i u, us[i]? = some u → ∀ j, j < size → cells'[i * size + j]? = u.cells[j]? := by
  obtain ⟨c, h1, h2, _, h4⟩ := fill_spec us 0 cells hu (by simpa using hs)
  exact ⟨c, by rw [List.range_eq_range']; exact h1, h2, fun i u hi j hj => by have := h4 i u hi j hj; rwa [Nat.zero_add] at this⟩
section
variable {T : Tab} {S : Stab} {w : World} {L : Loc} {h : Hs} {ids : List Nat} {a : Act} {o : Oper} {fr : Fr}
theorem elem_cells {e : ET} {v : AV} {x : e.T} {u : Value} (hv : elemOfV e v = some x) (hr : Rel T.P S w v L u) : u.cells.size = e.size ∧
    ∀ (F : CellF) (q : Nat), (∀ j, j < e.size → F (q + j) = u.cells[j]?) → ElR S w e x F q := by
  unfold elemOfV at hv
  split at hv
  · rename_i k k' n
    by_cases hk : k = k'
    · subst hk
      simp at hv
      subst hv
      simp only [Rel] at hr
      subst hr
      refine ⟨rfl, fun F q hF => ?_⟩
      have := hF 0 (by simp [ET.size])
      simpa [ElR, ElR0, Value.cells] using this
    · simp [hk] at hv
  · simp at hv
    subst hv
    simp only [Rel] at hr
    subst hr
    refine ⟨rfl, fun F q hF => ?_⟩
    have := hF 0 (by simp [ET.size])
    simpa [ElR, ElR0, Value.cells] using this
  · simp at hv
    subst hv
    simp only [Rel] at hr
    subst hr
    refine ⟨rfl, fun F q hF => ?_⟩
    have := hF 0 (by simp [ET.size])
    simpa [ElR, ElR0, Value.cells] using this
  · rename_i k k' l loose
    by_cases hk : k = k'
    · subst hk
      simp only [decide_true, cond_true] at hv
      split at hv
      · rename_i m n
        cases hv
        simp only [Rel, Cont] at hr
        obtain ⟨arr, rfl, hsz, hc, _⟩ := hr
        have h1 := hc _ _ rfl
        have e0 := h1 0 m (by simp)
        have e1 := h1 1 n (by simp)
        simp [ElR, ElR0, ET.size] at e0 e1
        refine ⟨by simpa [Value.cells, contSize, segSize, ET.size] using hsz, fun F q hF => ?_⟩
        have f0 := hF 0 (by simp [ET.size])
        have f1 := hF 1 (by simp [ET.size])
        simp only [Value.cells] at f0 f1
        simp only [ElR, ElR0]
        rw [Nat.add_zero] at f0
        rw [f0, f1]
        exact ⟨e0, e1⟩
      · cases hv
    · simp [hk] at hv
  · rename_i k k' l t
    by_cases hk : k = k'
    · subst hk
      simp only [decide_true, cond_true, Option.some.injEq] at hv
      subst hv
      simp only [Rel] at hr
      have hcs : u.cells = #[u] := by obtain ⟨b, cap, rfl, _⟩ := hr; rfl
      refine ⟨by rw [hcs]; rfl, fun F q hF => ?_⟩
      have f0 := hF 0 (by simp [ET.size])
      rw [hcs] at f0
      simp only [ElR]
      refine ⟨u, by simpa using f0, ?_⟩
      have := slR0_of_slR hr
      obtain ⟨b, cap, h1, h2, _, h4⟩ := this
      exact ⟨b, cap, h1, h2, (fun h => by cases h), h4⟩
    · simp [hk] at hv
  · rename_i k
    simp only [Option.some.injEq] at hv
    subst hv
    simp only [Rel] at hr
    subst hr
    refine ⟨rfl, fun F q hF => ?_⟩
    have f0 := hF 0 (by simp [ET.size])
    simp only [ElR]
    exact ⟨_, by simpa [Value.cells] using f0, none, 0, rfl, Nat.le_refl _, fun _ => rfl, fun h => absurd rfl h⟩
  · cases hv
theorem elems_run {e : ET} : ∀ {vs : List AV} {xs : List e.T} {us : List Value}, elemsOfV e vs = some xs → RelL T.P S w vs L us → xs.length = us.length ∧ (∀ u ∈ us, u.cells.size = e.size) ∧
    ∀ (F : CellF) (q : Nat), (∀ i u, us[i]? = some u → ∀ j, j < e.size → F (q + (i * e.size + j)) = u.cells[j]?) → RunR S w e xs F q
  | [], xs, us, h, hr => by
    simp only [RelL] at hr
    simp only [elemsOfV] at h
    cases h; subst hr
    exact ⟨rfl, by simp, fun F q hF i x hx => by simp at hx⟩
  | v :: vs, xs, us, h, hr => by
    simp only [RelL] at hr
    obtain ⟨u, rest, rfl, h1, h2⟩ := hr
    simp only [elemsOfV] at h
    split at h
    · rename_i x xs' e1 e2
      cases h
      obtain ⟨h3, h4, h5⟩ := elems_run e2 h2
      obtain ⟨h6, h7⟩ := elem_cells e1 h1
      refine ⟨by simp [h3], fun y hy => ?_, fun F q hF i y hy => ?_⟩
      · simp at hy
        rcases hy with rfl | hy
        · exact h6
        · exact h4 y hy
      · cases i with
        | zero =>
          simp at hy; subst hy
          have := h7 F (q + 0 * e.size) (fun j hj => by have := hF 0 u (by simp) j hj; rw [← this]; congr 1; omega)
          exact this
        | succ i =>
          have := h5 F (q + e.size) (fun i' u' hu' j hj => by
            have := hF (i' + 1) u' (by simpa using hu') j hj
            rw [← this]; congr 1; rw [Nat.succ_mul]; omega) i y (by simpa using hy)
          have e0 : q + (i + 1) * e.size = q + e.size + i * e.size := by rw [Nat.succ_mul]; omega
          rw [e0]; exact this
    · cases h
theorem cont_ones {F : CellF} : ∀ {vs : List AV} {us : List Value} {q : Nat}, vs.all oneCell = true → RelL T.P S w vs L us → (∀ i u, us[i]? = some u → F (q + i) = some u) → Cont T.P S w vs L F q ∧ vs.length = us.length ∧ (∀ u ∈ us, u.cells = #[u]) ∧ (∀ v ∈ vs, single v = true)
  | [], us, q, _, hr, _ => by
    simp only [RelL] at hr
    subst hr
    simp [Cont]
  | v :: vs, us, q, ho, hr, hF => by
    simp only [RelL] at hr
    obtain ⟨u, rest, rfl, h1, h2⟩ := hr
    simp only [List.all_cons, Bool.and_eq_true] at ho
    have hs : single v = true := by
      cases v <;> first | rfl | (have := ho.1; simp [oneCell] at this)
    obtain ⟨h3, h4, h5, h6⟩ := cont_ones (q := q + 1) ho.2 h2 (fun i u' hu' => by have := hF (i + 1) u' (by simpa using hu'); rw [← this]; congr 1; omega)
    refine ⟨?_, by simp [h4], fun y hy => ?_, fun y hy => ?_⟩
    · simp only [Cont]
      refine ⟨fun e l hv => by rw [hv] at hs; simp [single] at hs, fun _ => ⟨u, by have := hF 0 u (by simp); simpa using this, h1⟩, ?_⟩
      rw [segSize_single hs]; exact h3
    · simp at hy
      rcases hy with rfl | hy
      · exact (rel_oneCell ho.1 h1).1
      · exact h5 y hy
    · simp at hy
      rcases hy with rfl | hy
      · exact hs
      · exact h6 y hy
theorem St.newStable {w' : World} {arr : Array Value} {ty : TypeId} {n : Nat} (hst : St T S w L h ids) (hw : w'.heap = w.heap.push (.cells arr ty (0, 0))) (h1 : w'.os = w.os) (h2 : w'.tape = w.tape) (h3 : w'.output = w.output) :
    St T (fun b q => S b q ∨ (b = w.heap.size ∧ q < n)) w' L h ids ∧ Ext w S L w' (fun b q => S b q ∨ (b = w.heap.size ∧ q < n)) L := by
  have hstay : Stays S w w' := fun b q hb => cell_push hw q (hst.inv.stab b q hb)
  have hsize : w'.heap.size = w.heap.size + 1 := by rw [hw]; simp
  refine ⟨⟨⟨fun r row hr => ?_, hst.inv.disj, fun b q hb => ?_⟩, hst.nd, hst.fresh, hst.dom, hst.glob.mono (fun _ _ h => .inl h) hstay⟩, ?_⟩
  · rcases hst.inv.rows r row hr with ⟨e1, e2⟩ | ⟨p, e1, e2⟩
    · exact .inl ⟨e1, e2⟩
    · refine .inr ⟨p, e1, e2.world (fun _ _ h => .inl h) hstay (Loc.le_refl _) (heap_push_lt hw e2.lt) fun q hq => ?_⟩
      rcases hq with hq | ⟨hq, _⟩
      · exact e2.st q hq
      · have := e2.lt; omega
  · rcases hb with hb | ⟨rfl, _⟩
    · have := hst.inv.stab b q hb; omega
    · omega
  · refine ⟨fun _ _ h => .inl h, hstay, Loc.le_refl _, fun b q hb => ?_, fun b hb _ => heap_push_lt hw hb, by omega, h1, h2, h3, fun r p hr => .inl ⟨r, p, hr, rfl⟩, fun a _ => frozen_push hw a, shape_push hw⟩
    rcases hb with hb | ⟨rfl, _⟩
    · exact .inl hb
    · exact .inr (.inl (Nat.le_refl _))
theorem cells_alloc {w : World} {arr : Array Value} {ty : TypeId} {q : Nat} : (cellsAt (w.alloc (.cells arr ty)) w.heap.size) q = arr[q]? := by
  have e : (w.alloc (.cells arr ty)).heap = w.heap.push (.cells arr ty (0, 0)) := rfl
  simp only [cellsAt, World.cell?, e]
  simp
section ops
variable {Q : AV → Hs → List Nat → Prop}
theorem zip_fst_snd {α β : Type} : ∀ l : List (α × β), (l.map (·.1)).zip (l.map (·.2)) = l
  | [] => rfl
  | p :: l => by simp [zip_fst_snd l]
theorem op_buildSlice {t : TypeId} {n : Nat} {ps : Array (Nat × Operand)} (ho : o.op = .buildSlice t n ps) (hst : St T S w L h ids) (hx : ∀ p ∈ ps.toList, Rel T.P S w (opv T fr p.2) L (a.eval p.2))
    (hp : (evOp T o fr).post h ids Q) : Runs T o a w S L Q := by
  simp only [evOp, ho, buildSl] at hp
  split at hp
  · rename_i e hd
    have hd := desc_some hd (by simp)
    split at hp
    · rename_i z0 hcond hz
      simp only [Bool.and_eq_true, decide_eq_true_eq] at hcond
      obtain ⟨c1, c2⟩ := hcond
      obtain ⟨i, z, hi, hiz, hzs, hzc, _⟩ := zeroT_spec hz
      have hsz : szOf T.P e = i.size := by simp [szOf, Program.cellsOf, hi]
      rw [hsz] at c2
      have hR : RelL T.P S w ((ps.toList.map fun p => (p.1, opv T fr p.2)).map (·.2)) L (ps.toList.map fun p => a.eval p.2) := by
        rw [List.map_map]
        exact relL_map _ _ _ fun p hp => hx p hp
      have hlen : ps.toList.length = n := by
        have := congrArg List.length c1
        simpa using this
      have hpl : (ps.map fun p => (p.1, a.eval p.2)).toList = (List.range (ps.toList.map fun p => a.eval p.2).length).zip (ps.toList.map fun p => a.eval p.2) := by
        have h1 := zip_fst_snd (ps.toList.map fun p => (p.1, a.eval p.2))
        rw [Array.toList_map, ← h1]
        have e1 : (ps.toList.map fun p => (p.1, a.eval p.2)).map (·.1) = List.range (ps.toList.map fun p => a.eval p.2).length := by
          have : (ps.toList.map fun p => (p.1, a.eval p.2)).map (·.1) = (ps.toList.map fun p => (p.1, opv T fr p.2)).map (·.1) := by simp [List.map_map, Function.comp_def]
          rw [this, c1]; simp [hlen]
        rw [e1]
        simp [List.map_map, Function.comp_def]
      have hlv : (ps.toList.map fun p => a.eval p.2).length = n := by simpa using hlen
      have key : ∀ (size : Nat), i.size = size → (∀ u ∈ (ps.toList.map fun p => a.eval p.2), u.cells.size = size) → ∃ cells : Array Value, cells.size = n * size ∧ (∀ j u, (ps.toList.map fun p => a.eval p.2)[j]? = some u → ∀ k, k < size → cells[j * size + k]? = u.cells[k]?) ∧
          (execOp a.eval o).run T.P w = .ok (.value (.slice (some ⟨w.heap.size, 0, none⟩) n n)) (w.alloc (.cells cells e)) := by
        intro size hs hu
        subst hs
        let c0 : Array Value := if n * i.size = 0 then (Array.range (n * i.size)).map (fun k => (#[] : Array Value)[k % (#[] : Array Value).size]!) else (Array.range (n * i.size)).map (fun k => z.cells[k % z.cells.size]!)
        have hc0 : c0.size = n * i.size := by
          show (if n * i.size = 0 then (Array.range (n * i.size)).map (fun k => (#[] : Array Value)[k % (#[] : Array Value).size]!) else (Array.range (n * i.size)).map (fun k => z.cells[k % z.cells.size]!)).size = _
          split <;> simp
        obtain ⟨cells, f1, f2, f3⟩ := fill_range (size := i.size) (cells := c0) hu (by rw [hc0, hlv]; exact Nat.le_refl _)
        refine ⟨cells, by rw [f2, hc0], f3, ?_⟩
        have hu0 : (underlying t).run T.P w = .ok (.slice e) w := by simp [underlying, hd]
        have hs0 : (sizeOf e).run T.P w = .ok i.size w := run_sizeOf hi
        have hrun : (Instr.buildSlice t n (ps.map fun p => (p.1, a.eval p.2))).run T.P w = .ok (.slice (some ⟨w.heap.size, 0, none⟩) n n) (w.alloc (.cells cells e)) := by
          unfold Instr.buildSlice
          simp only [Sem.run_bind, hu0, Result.andThen_ok, hs0]
          rw [if_neg (by simpa using c2)]
          rw [hpl]
          by_cases h0 : n * i.size = 0
          · rw [if_pos h0]
            have : c0 = (Array.range (n * i.size)).map (fun k => (#[] : Array Value)[k % (#[] : Array Value).size]!) := if_pos h0
            rw [this] at f1
            rw [pure_bind, f1]
            simp [newRow]
          · rw [if_neg h0]
            have : c0 = (Array.range (n * i.size)).map (fun k => z.cells[k % z.cells.size]!) := if_neg h0
            rw [this] at f1
            have hzv : (zeroValue e).run T.P w = .ok z w := by simp [zeroValue, typeInfo, hi, hiz]
            simp only [Sem.run_bind, hzv, Result.andThen_ok, Sem.run_pure]
            rw [f1]
            simp [newRow]
        simp only [execOp, ho]
        simp only [Sem.run_bind, hrun, Result.andThen_ok, Sem.run_pure]
      split at hp
      · split at hp
        · rename_i x hx'
          split at hp
          · rename_i l hl hxs
            have hxs := of_decide_eq_true hxs
            rw [hsz] at hxs
            obtain ⟨r1, r2, r3⟩ := elems_run hl hR
            obtain ⟨cells, k1, k2, k3⟩ := key x.size hxs r2
            have hll : l.length = n := by rw [r1, hlv]
            cases ids with
            | nil => exact hp.elim
            | cons id rest =>
              simp only [HP.post] at hp
              have hrr : RunR S w x l (fun j => cells[j]?) 0 := r3 (fun j => cells[j]?) 0 (fun j u hu k hk => by
                rw [Nat.zero_add]; exact k2 j u hu k hk)
              have hxp : 0 < x.size := by cases x <;> simp [ET.size]
              obtain ⟨e1, e2⟩ := hst.newRow (w' := w.alloc (.cells cells e)) (row := { c := [.run x l], vr := false, ty := e, fz := false, loose := false }) (arr := cells) (bt := e) (z := x.size) rfl rfl rfl rfl (cont_of_run hrr) (by simp only [contSize, segSize]; rw [hll, k1]; omega)
                (fun s hs => by simp at hs; subst hs; simp [zAt]) ⟨hxp, fun h => by cases h⟩ (fun h => by cases h)
              refine ⟨_, _, _, S, _, _, _, _, hp, k3, .inl rfl, ?_, e1, e2⟩
              simp only [Rel, OsR]
              rw [setL_same]
              exact ⟨_, n, rfl, fun _ => by simp [contSize], Nat.le_refl _, fun _ => rfl, by simp [contSize, k1], by simp only [contSize, List.take_zero, segSize, hll]; omega, fun _ => ⟨trivial, trivial, rfl, by simp only [contSize, segSize, hll]; omega, by simp [k1]⟩, fun _ => by simp only [contSize, List.take_zero, segSize, hll]; omega⟩
          · exact hp.elim
        split at hp
        · rename_i hb
          simp only [Bool.and_eq_true, decide_eq_true_eq] at hb
          have hone := hb.1
          rw [hsz] at hone
          cases ids with
          | nil => exact hp.elim
          | cons id rest =>
            simp only [HP.post] at hp
            have r0 := cont_ones (F := fun j => (ps.toList.map fun p => a.eval p.2)[j]?) (q := 0) hb.2 hR (fun j u hu => by simpa using hu)
            obtain ⟨cells, k1, k2, k3⟩ := key 1 hone (fun u hu => by rw [r0.2.2.1 u hu]; rfl)
            have r1 := cont_ones (F := fun j => cells[j]?) (q := 0) hb.2 hR (fun j u hu => by
              rw [Nat.zero_add]
              have := k2 j u hu 0 (by omega)
              rw [r0.2.2.1 u (List.mem_of_getElem? hu)] at this
              simpa using this)
            have hll : contSize ((ps.toList.map fun p => (p.1, opv T fr p.2)).map (·.2)) = n := by rw [contSize_single r0.2.2.2, r0.2.1, hlv]
            rw [Nat.mul_one] at k1
            obtain ⟨e1, e2⟩ := hst.newRow (w' := w.alloc (.cells cells e)) (row := { c := (ps.toList.map fun p => (p.1, opv T fr p.2)).map (·.2), vr := false, ty := e, fz := false, loose := true }) (arr := cells) (bt := e) (z := 1) rfl rfl rfl rfl r1.1 (by simp only; rw [hll, k1]; exact Nat.le_refl _)
              (fun s hs => zAt_single r0.2.2.2) ⟨by omega, fun _ => rfl⟩ (fun h => by cases h)
            refine ⟨_, _, _, S, _, _, _, _, hp, k3, .inl rfl, ?_, e1, e2⟩
            simp only [Rel, OsR]
            rw [setL_same]
            exact ⟨_, n, rfl, fun _ => by simp [contSize], Nat.le_refl _, fun _ => rfl, by simp [contSize, k1], by simp only [contSize, List.take_zero, hll]; omega, fun _ => ⟨trivial, trivial, rfl, by simp only [hll, Nat.mul_one], by simp [k1]⟩, fun _ => by simp only [contSize, List.take_zero, hll]; omega⟩
        · exact hp.elim
      rw [HP.post_bind] at hp
      obtain ⟨vs, h', S', hp, hst', hext, hR'⟩ := post_mapNormF _ _ hst hR hp
      obtain ⟨st1, ext1⟩ := hst'.newStable (w' := w.alloc (.cells #[] e)) (n := 0) rfl rfl rfl rfl
      split at hp
      · rename_i x hx'
        split at hp
        · rename_i l hl hxs
          simp only [HP.post] at hp
          simp at hxs
          rw [hsz] at hxs
          obtain ⟨r1, r2, r3⟩ := elems_run hl hR'
          obtain ⟨cells, k1, k2, k3⟩ := key x.size hxs r2
          obtain ⟨st2, ext2⟩ := hst'.newStable (w' := w.alloc (.cells cells e)) (n := n * x.size) rfl rfl rfl rfl
          refine ⟨_, _, _, _, L, _, _, _, hp, k3, .inl rfl, ?_, st2, hext.trans ext2⟩
          simp only [Rel]
          have hll : l.length = n := by rw [r1, hlv]
          refine ⟨some ⟨w.heap.size, 0, none⟩, n, by rw [hll], by rw [hll]; exact Nat.le_refl _, fun _ => hll.symm, fun _ => ⟨w.heap.size, 0, rfl, ?_, fun j hj => .inr ⟨rfl, by rw [hll] at hj; simpa using hj⟩⟩⟩
          have := r3 (cellsAt (w.alloc (.cells cells e)) w.heap.size) 0 (fun j u hu k hk => by
            rw [cells_alloc, Nat.zero_add]; exact k2 j u hu k hk)
          exact this.mono ext2.sub ext2.stays (fun _ _ => rfl)
        · exact hp.elim
      · split at hp
        · rename_i hx' hb
          simp only [HP.post] at hp
          simp only [Bool.and_eq_true, decide_eq_true_eq] at hb
          have hone := hb.1
          rw [hsz] at hone
          have r0 := cont_ones (F := fun j => (ps.toList.map fun p => a.eval p.2)[j]?) (q := 0) hb.2 hR' (fun j u hu => by simpa using hu)
          obtain ⟨cells, k1, k2, k3⟩ := key 1 hone (fun u hu => by rw [r0.2.2.1 u hu]; rfl)
          obtain ⟨st2, ext2⟩ := hst'.newStable (w' := w.alloc (.cells cells e)) (n := n) rfl rfl rfl rfl
          refine ⟨_, _, _, _, L, _, _, _, hp, k3, .inl rfl, ?_, st2, hext.trans ext2⟩
          simp only [Rel]
          have hll : vs.length = n := by rw [r0.2.1, hlv]
          refine ⟨r0.2.2.2, some ⟨w.heap.size, 0, none⟩, n, by rw [hll], by rw [hll]; exact Nat.le_refl _, fun _ => hll.symm, fun _ => ⟨w.heap.size, 0, rfl, ?_, fun j hj => .inr ⟨rfl, by rw [hll] at hj; simpa using hj⟩⟩⟩
          have r1 := cont_ones (F := cellsAt (w.alloc (.cells cells e)) w.heap.size) (q := 0) hb.2 hR' (fun j u hu => by
            rw [cells_alloc, Nat.zero_add]
            have := k2 j u hu 0 (by omega)
            rw [r0.2.2.1 u (List.mem_of_getElem? hu)] at this
            simpa using this)
          exact r1.1.mono ext2.sub ext2.stays _ (Loc.le_refl _) (fun _ _ => rfl)
        · exact hp.elim
    · exact hp.elim
  · exact hp.elim
end ops
end
end Go.Ev
namespace Go.Ev
open Go
set_option linter.unusedVariables false
set_option linter.unusedSimpArgs false
theorem zAt_zOf (c : List AV) (s : Nat) : zAt c s = ((c[s]?).map zOf).getD 1 := by
  unfold zAt
  cases h : c[s]? with
  | none => rfl
  | some v => cases v <;> rfl
theorem zAt_congr {c c' : List AV} (h : c'.map zOf = c.map zOf) (k : Nat) : zAt c' k = zAt c k := by
  rw [zAt_zOf, zAt_zOf, ← List.getElem?_map, ← List.getElem?_map, h]
theorem lOf_or {a b : Bool} (h : a = true → b = true) (L : Loc) : (lOf a L).le (lOf b L) := by
  cases a
  · exact noLoc_le _
  · rw [h rfl]; exact Loc.le_refl _
theorem split3 {c : List AV} {s : Nat} {v : AV} (h : c[s]? = some v) : c = c.take s ++ ([v] ++ c.drop (s + 1)) := by
  have hlt := lt_of_get h
  have h1 : c[s] = v := by simpa [List.getElem?_eq_getElem hlt] using h
  rw [List.singleton_append, ← h1, ← List.drop_eq_getElem_cons hlt, List.take_append_drop]
theorem set3 {c : List AV} {s : Nat} (v : AV) (h : s < c.length) : c.set s v = c.take s ++ ([v] ++ c.drop (s + 1)) := by
  rw [List.set_eq_take_append_cons_drop, if_pos h]; rfl
theorem contSize_split {c : List AV} {s : Nat} {v : AV} (h : c[s]? = some v) : contSize c = contSize (c.take s) + (segSize v + contSize (c.drop (s + 1))) := by
  have := congrArg contSize (split3 h)
  rw [contSize_append, contSize_append] at this
  simpa [contSize] using this
theorem map_set_same {α : Type} (f : AV → α) {c : List AV} {s : Nat} {v v' : AV} (h : c[s]? = some v) (he : f v' = f v) : (c.set s v').map f = c.map f := by
  apply List.ext_getElem?
  intro k
  rw [List.getElem?_map, List.getElem?_map, List.getElem?_set]
  by_cases hk : s = k
  · subst hk
    rw [if_pos rfl, if_pos (lt_of_get h), h]
    simp [he]
  · rw [if_neg hk]
section
variable {T : Tab} {S : Stab} {w : World} {L : Loc} {h : Hs} {ids : List Nat}
theorem cont_put {P : Program} {a b b' d : List AV} {F F' : CellF} (hc : Cont P S w (a ++ (b ++ d)) L F 0) (hb : contSize b' = contSize b)
    (h' : Cont P S w b' L F' (contSize a)) (hF : ∀ q, q < contSize (a ++ (b ++ d)) → (q < contSize a ∨ contSize a + contSize b ≤ q) → F' q = F q) :
    Cont P S w (a ++ (b' ++ d)) L F' 0 := by
  rw [cont_append] at hc
  obtain ⟨h1, h2⟩ := hc
  rw [cont_append] at h2
  simp only [contSize_append] at hF
  rw [cont_append, cont_append, hb]
  refine ⟨h1.mono (fun _ _ h => h) (fun _ _ _ => rfl) _ (Loc.le_refl _) (fun i hi => ?_), by simpa using h', h2.2.mono (fun _ _ h => h) (fun _ _ _ => rfl) _ (Loc.le_refl _) (fun i hi => ?_)⟩
  · simpa using hF i (by omega) (.inl hi)
  · exact hF _ (by omega) (.inr (by omega))
theorem setOne_spec {e : ET} {j : Nat} {v : AV} {x y : e.T} {u : Value} (he : e.size = 1) (hv : setOne e j v = some y) (hr : Rel T.P S w v L u) :
    u.cells.size = 1 ∧ j < e.size ∧ ∀ (F F' : CellF) (q : Nat), ElR S w e x F q → (∀ k, k < e.size → F' (q + k) = if k = j then u.cells[0]? else F (q + k)) → ElR S w e y F' q := by
  unfold setOne at hv
  split at hv
  · obtain ⟨h1, h2⟩ := elem_cells hv hr
    refine ⟨by rw [h1, he], by omega, fun F F' q _ hF => h2 F' q fun k hk => ?_⟩
    have := hF k hk
    have h0 : k = 0 := by omega
    subst h0
    simpa using this
  · cases hv
theorem setComp_spec {e : ET} {x y : e.T} {j : Nat} {v : AV} {u : Value} (hv : setComp e x j v = some y) (hr : Rel T.P S w v L u) :
    u.cells.size = 1 ∧ j < e.size ∧ ∀ (F F' : CellF) (q : Nat), ElR S w e x F q → (∀ k, k < e.size → F' (q + k) = if k = j then u.cells[0]? else F (q + k)) → ElR S w e y F' q := by
  cases e with
  | int k => exact setOne_spec rfl hv hr
  | bool => exact setOne_spec rfl hv hr
  | str => exact setOne_spec rfl hv hr
  | ilist k => exact setOne_spec rfl hv hr
  | pair k =>
    simp only [setComp, setPair] at hv
    split at hv
    · rename_i k' a
      simp only [Rel] at hr
      subst hr
      split at hv
      · by_cases hk : k = k'
        · subst hk
          simp at hv
          subst hv
          refine ⟨rfl, by simp [ET.size], fun F F' q hx hF => ?_⟩
          have f0 := hF 0 (by simp [ET.size])
          have f1 := hF 1 (by simp [ET.size])
          simp [ElR, ElR0, Value.cells] at hx f0 f1 ⊢
          rw [f0, f1]
          exact ⟨rfl, hx.2⟩
        · simp [hk] at hv
      · by_cases hk : k = k'
        · subst hk
          simp at hv
          subst hv
          refine ⟨rfl, by simp [ET.size], fun F F' q hx hF => ?_⟩
          have f0 := hF 0 (by simp [ET.size])
          have f1 := hF 1 (by simp [ET.size])
          simp [ElR, ElR0, Value.cells] at hx f0 f1 ⊢
          rw [f0, f1]
          exact ⟨hx.1, rfl⟩
        · simp [hk] at hv
      · cases hv
    · cases hv
structure Wrote (P : Program) (S : Stab) (w : World) (L : Loc) (c c' : List AV) (s i j : Nat) (v : AV) (u : Value) : Prop where
  lt : s < c.length
  seg : c'.map segSize = c.map segSize
  z : ∀ k, zAt c' k = zAt c k
  room : contSize (c.take s) + i * zAt c s + j + u.cells.size ≤ contSize c
  one : ∀ x ∈ u.cells, x.oneCell' = true
  cont : ∀ (lo lo' : Bool), (lo = true → lo' = true) → (lo' = false → tree v = true) → ∀ (F F' : CellF), Cont P S w c (lOf lo L) F 0 →
    (∀ q, q < contSize c → F' q = if contSize (c.take s) + i * zAt c s + j ≤ q ∧ q < contSize (c.take s) + i * zAt c s + j + u.cells.size then u.cells[q - (contSize (c.take s) + i * zAt c s + j)]? else F q) →
    Cont P S w c' (lOf lo' L) F' 0
theorem Rel.lo {P : Program} {lo : Bool} {v : AV} {u : Value} (hr : Rel P S w v L u) (ht : lo = false → tree v = true) : Rel P S w v (lOf lo L) u := by
  cases lo
  · exact rel_tree (ht rfl) hr _
  · exact hr
theorem oneCell_elem {e : ET} (he : e.size = 1) {v : AV} {x : e.T} (hv : elemOfV e v = some x) : oneCell v = true := by
  unfold elemOfV at hv
  split at hv
  all_goals first | rfl | (simp [ET.size] at he; done) | (cases hv; done)
theorem oneCell_comp {e : ET} {x y : e.T} {j : Nat} {v : AV} (hv : setComp e x j v = some y) : oneCell v = true := by
  have one : ∀ e : ET, e.size = 1 → ∀ y : e.T, setOne e j v = some y → oneCell v = true := by
    intro e he y hv
    unfold setOne at hv
    split at hv
    · exact oneCell_elem he hv
    · cases hv
  cases e with
  | int k => exact one _ rfl _ hv
  | bool => exact one _ rfl _ hv
  | str => exact one _ rfl _ hv
  | ilist k => exact one _ rfl _ hv
  | pair k =>
    simp only [setComp, setPair] at hv
    split at hv
    · rfl
    · cases hv
theorem post_setAt {c : List AV} {s i j : Nat} {v : AV} {u : Value} {Q : List AV → Hs → List Nat → Prop} (hr : Rel T.P S w v L u) (hp : (setAt c s i j v).post h ids Q) :
    ∃ c', Q c' h ids ∧ u.cells.size = 1 ∧ Wrote T.P S w L c c' s i j v u := by
  unfold setAt at hp
  split at hp
  · rename_i e l hs
    simp only [HP.post] at hp
    obtain ⟨x, hx, hp⟩ := hp
    split at hp
    · rename_i y hy
      simp only [HP.post] at hp
      obtain ⟨h1, h2, h3⟩ := setComp_spec hy hr
      have hone := rel_oneCell (oneCell_comp hy) hr
      have hz : zAt c s = e.size := by simp [zAt, hs]
      have hsz := contSize_split hs
      have hil := lt_of_get hx
      have hm := mul_lt_part (z := e.size) hil
      simp only [segSize] at hsz
      refine ⟨_, hp, h1, lt_of_get hs, map_set_same _ hs (by simp [segSize]), zAt_congr (map_set_same _ hs rfl), by rw [h1, hz]; omega, by rw [hone.1]; simpa using hone.2, fun lo lo' hlo ht F F' hc hF => ?_⟩
      rw [hz, h1] at hF
      have hc' := hc.mono (fun _ _ h => h) (fun _ _ _ => rfl) _ (lOf_or hlo L) (fun _ _ => rfl)
      have hrun := (cont_get hc' hs).1 e l rfl
      rw [Nat.zero_add] at hrun
      rw [split3 hs] at hc'
      rw [set3 _ (lt_of_get hs)]
      refine cont_put hc' (by simp [contSize, segSize]) (cont_of_run fun i' x' hx' => ?_) (fun q hq hor => ?_)
      · rw [List.getElem?_set] at hx'
        by_cases hi : i = i'
        · subst hi
          rw [if_pos rfl, if_pos hil] at hx'
          injection hx' with hx'
          subst hx'
          refine h3 F F' _ (hrun i x hx) fun k hk => ?_
          rw [hF _ (by omega)]
          by_cases hkj : k = j
          · subst hkj
            rw [if_pos (by omega), if_pos rfl]
            congr 1; omega
          · rw [if_neg (by omega), if_neg hkj]
        · rw [if_neg hi] at hx'
          have hil' := lt_of_get hx'
          have hm' := mul_lt_part (z := e.size) hil'
          refine ElR.mono (fun _ _ h => h) (fun _ _ _ => rfl) (fun k hk => ?_) (hrun i' x' hx')
          rw [hF _ (by omega), if_neg]
          rcases Nat.lt_or_ge i i' with hlt | hge
          · have := mul_lt_part (z := e.size) hlt; omega
          · have := mul_lt_part (z := e.size) (show i' < i by omega); omega
      · rw [← split3 hs] at hq
        simp only [contSize, segSize] at hor
        rw [hF _ hq, if_neg (by omega)]
    · exact hp.elim
  · rename_i v0 hne hs
    split at hp
    · rename_i ho
      simp only [HP.post] at hp
      have hone := rel_oneCell ho hr
      have hcs : u.cells.size = 1 := by rw [hone.1]; rfl
      have hs0 : single v0 = true := by
        cases v0 <;> first | rfl | (exact (hne _ _ hs).elim) | (exact (hne _ _ rfl).elim)
      have hsv : single v = true := by
        cases v <;> first | rfl | (simp [oneCell] at ho)
      have hz : zAt c s = 1 := by
        rw [zAt_zOf, hs]
        cases v0 <;> first | rfl | (simp [single] at hs0)
      have hzv : zOf v = zOf v0 := by
        cases v <;> cases v0 <;> first | rfl | (simp [single] at hs0 hsv)
      have hsz := contSize_split hs
      rw [segSize_single hs0] at hsz
      refine ⟨_, hp, hcs, lt_of_get hs, map_set_same _ hs (by rw [segSize_single hs0, segSize_single hsv]), zAt_congr (map_set_same _ hs hzv), by rw [hcs, hz]; omega, by rw [hone.1]; simpa using hone.2, fun lo lo' hlo ht F F' hc hF => ?_⟩
      rw [hz, hcs] at hF
      have hc' := hc.mono (fun _ _ h => h) (fun _ _ _ => rfl) _ (lOf_or hlo L) (fun _ _ => rfl)
      rw [split3 hs] at hc'
      rw [set3 _ (lt_of_get hs)]
      refine cont_put hc' (by simp [contSize, segSize_single hs0, segSize_single hsv]) ?_ (fun q hq hor => ?_)
      · simp only [Cont, and_true]
        refine ⟨fun e l hv => by rw [hv] at hsv; simp [single] at hsv, fun _ => ⟨u, ?_, hr.lo ht⟩⟩
        rw [hF _ (by omega), if_pos (by omega), hone.1]
        simp
      · rw [← split3 hs] at hq
        simp only [contSize, segSize_single hs0] at hor
        rw [hF _ hq, if_neg (by omega)]
    · exact hp.elim
  · exact hp.elim
end
end Go.Ev
namespace Go.Ev
open Go
set_option linter.unusedVariables false
set_option linter.unusedSimpArgs false
section
variable {T : Tab} {S : Stab} {w : World} {L : Loc} {h : Hs} {ids : List Nat} {a : Act} {o : Oper} {fr : Fr}
theorem ElR.move {e : ET} {x : e.T} {F F' : CellF} {q q' : Nat} (hx : ElR S w e x F q) (hF : ∀ k, k < e.size → F' (q' + k) = F (q + k)) : ElR S w e x F' q' := by
  have h0 := hF 0 (by cases e <;> simp [ET.size])
  rw [Nat.add_zero, Nat.add_zero] at h0
  cases e with
  | int k => simp only [ElR, ElR0] at *; rw [h0]; exact hx
  | bool => simp only [ElR, ElR0] at *; rw [h0]; exact hx
  | str => simp only [ElR, ElR0] at *; rw [h0]; exact hx
  | pair k =>
    have h1 := hF 1 (by simp [ET.size])
    simp only [ElR, ElR0] at *
    rw [h0, h1]; exact hx
  | ilist k =>
    obtain ⟨u, hu, hs⟩ := hx
    exact ⟨u, by rw [h0]; exact hu, hs⟩
theorem RunR.move {e : ET} {l : List e.T} {F F' : CellF} {q q' : Nat} (hx : RunR S w e l F q) (hF : ∀ k, k < l.length * e.size → F' (q' + k) = F (q + k)) : RunR S w e l F' q' := by
  intro i x hi
  have hm := mul_lt_part (z := e.size) (lt_of_get hi)
  refine (hx i x hi).move fun k hk => ?_
  have := hF (i * e.size + k) (by omega)
  rwa [← Nat.add_assoc, ← Nat.add_assoc] at this
theorem cont_move {P : Program} {F F' : CellF} : ∀ {c : List AV} {q q' : Nat}, Cont P S w c L F q → (∀ k, k < contSize c → F' (q' + k) = F (q + k)) → Cont P S w c L F' q'
  | [], _, _, _, _ => by simp only [Cont]
  | v :: c, q, q', hc, hF => by
    simp only [Cont, contSize] at *
    refine ⟨fun e l hv => (hc.1 e l hv).move fun k hk => hF k (by subst hv; simp only [segSize]; omega), fun hs => ?_, cont_move hc.2.2 fun k hk => ?_⟩
    · obtain ⟨u, hu, hr⟩ := hc.2.1 hs
      have := hF 0 (by rw [segSize_single hs]; omega)
      rw [Nat.add_zero, Nat.add_zero] at this
      exact ⟨u, by rw [this]; exact hu, hr⟩
    · have := hF (segSize v + k) (by omega)
      rwa [← Nat.add_assoc, ← Nat.add_assoc] at this
theorem elR_one {e : ET} {x : e.T} {F : CellF} {q : Nat} (hx : ElR S w e x F q) : ∀ k, k < e.size → ∃ u, F (q + k) = some u ∧ u.oneCell' = true := by
  intro k hk
  cases e with
  | int i => have : k = 0 := by simp [ET.size] at hk; exact hk
             subst this; exact ⟨_, hx, rfl⟩
  | bool => have : k = 0 := by simp [ET.size] at hk; exact hk
            subst this; exact ⟨_, hx, rfl⟩
  | str => have : k = 0 := by simp [ET.size] at hk; exact hk
           subst this; exact ⟨_, hx, rfl⟩
  | pair i =>
    simp only [ElR, ElR0] at hx
    simp only [ET.size] at hk
    rcases (by omega : k = 0 ∨ k = 1) with rfl | rfl
    · exact ⟨_, hx.1, rfl⟩
    · exact ⟨_, hx.2, rfl⟩
  | ilist i =>
    have : k = 0 := by simp [ET.size] at hk; exact hk
    subst this
    obtain ⟨u, hu, a, cap, hs, _⟩ := hx
    exact ⟨u, hu, by rw [hs]; rfl⟩
theorem cells_one {F : CellF} : ∀ {c : List AV} {q : Nat}, cellsOK c = true → Cont T.P S w c L F q → ∀ k, k < contSize c → ∃ u, F (q + k) = some u ∧ u.oneCell' = true
  | [], q, _, _, k, hk => by simp [contSize] at hk
  | v :: c, q, ho, hc, k, hk => by
    simp only [Cont, contSize] at hc hk
    have ho1 : cellOK v = true ∧ cellsOK c = true := by
      simpa only [cellsOK, List.all_cons, Bool.and_eq_true] using ho
    by_cases hlt : k < segSize v
    · by_cases hs : single v = true
      · rw [segSize_single hs] at hlt
        have h0 : k = 0 := by omega
        subst h0
        obtain ⟨u, hu, hr⟩ := hc.2.1 hs
        have hov : oneCell v = true := by
          have := ho1.1
          cases v <;> first | exact this | (simp [single] at hs)
        exact ⟨u, hu, (rel_oneCell hov hr).2⟩
      · have : ∃ e l, v = .run e l := by cases v <;> first | (exact ⟨_, _, rfl⟩) | (exact absurd rfl hs)
        obtain ⟨e, l, rfl⟩ := this
        have hr := hc.1 e l rfl
        simp only [segSize] at hlt
        have hz : 0 < e.size := by cases e <;> simp [ET.size]
        have hq : k / e.size < l.length := (Nat.div_lt_iff_lt_mul hz).2 hlt
        have hx := hr (k / e.size) l[k / e.size] (List.getElem?_eq_getElem hq)
        obtain ⟨u, hu, h1⟩ := elR_one hx (k % e.size) (Nat.mod_lt _ hz)
        refine ⟨u, ?_, h1⟩
        rw [← hu]
        congr 1
        have := Nat.div_add_mod k e.size
        rw [Nat.mul_comm] at this
        omega
    · obtain ⟨u, hu, h1⟩ := cells_one ho1.2 hc.2.2 (k - segSize v) (by omega)
      exact ⟨u, by rw [← hu]; congr 1; omega, h1⟩
theorem take_part {c : List AV} (s n : Nat) : c = c.take s ++ ((c.drop s).take n ++ c.drop (s + n)) := by
  have h1 : c.drop (s + n) = (c.drop s).drop n := by rw [List.drop_drop]
  rw [h1, List.take_append_drop, List.take_append_drop]
theorem wrote_part {c c' : List AV} {s : Nat} {v : AV} {u : Value} (hs : s < c.length) (hseg : c'.map segSize = ((c.drop s).take c'.length).map segSize)
    (hz : c'.map zOf = ((c.drop s).take c'.length).map zOf) (hok : cellsOK c' = true) (hsz : u.cells.size = contSize c') (hc : Cont T.P S w c' L (fun q => u.cells[q]?) 0)
    (ht : tree v = true → Cont T.P S w c' noLoc (fun q => u.cells[q]?) 0) : Wrote T.P S w L c (c.take s ++ (c' ++ c.drop (s + c'.length))) s 0 0 v u := by
  have he := take_part (c := c) s c'.length
  have hsame : ∀ {α : Type} (f : AV → α), c'.map f = ((c.drop s).take c'.length).map f → (c.take s ++ (c' ++ c.drop (s + c'.length))).map f = c.map f := by
    intro α f hf
    conv => rhs; rw [he]
    rw [List.map_append, List.map_append, List.map_append, List.map_append, hf]
  have hcs : contSize c' = contSize ((c.drop s).take c'.length) := contSize_congr hseg
  have hcs2 := congrArg contSize he
  rw [contSize_append, contSize_append] at hcs2
  refine ⟨hs, hsame _ hseg, zAt_congr (hsame _ hz), by rw [hsz]; omega, fun x hx => ?_, fun lo lo' hlo htr F F' hcF hF => ?_⟩
  · obtain ⟨k, hk, hkx⟩ := Array.mem_iff_getElem.1 hx
    obtain ⟨y, hy, h1⟩ := cells_one hok hc k (by omega)
    simp only [Nat.zero_add] at hy
    rw [Array.getElem?_eq_getElem hk, hkx] at hy
    injection hy with hy
    rw [hy]; exact h1
  · have hc1 := hcF.mono (fun _ _ h => h) (fun _ _ _ => rfl) _ (lOf_or hlo L) (fun _ _ => rfl)
    have e1 : c = c.take s ++ ((c.drop s).take c'.length ++ c.drop (s + c'.length)) := he
    have hcp : Cont T.P S w c' (lOf lo' L) (fun q => u.cells[q]?) 0 := by
      cases lo' with
      | true => exact hc
      | false => exact ht (htr rfl)
    simp only [Nat.zero_mul, Nat.add_zero] at hF
    rw [e1] at hc1
    refine cont_put hc1 hcs (cont_move hcp fun k hk => ?_) (fun q hq hor => ?_)
    · rw [hF _ (by omega), if_pos (by omega)]
      simp
    · rw [← e1] at hq
      rw [hF _ hq, if_neg (by omega)]
theorem runR_two {k : IntKind} {m n : Int} {F : CellF} {q : Nat} (hr : RunR S w (.int k) ([m, n] : List Int) F q) : F q = some (.int k m) ∧ F (q + 1) = some (.int k n) := by
  have e0 := hr 0 m (by simp)
  have e1 := hr 1 n (by simp)
  simp [ElR, ElR0, ET.size] at e0 e1
  exact ⟨e0, e1⟩
theorem wrote_pair {P : Program} {c : List AV} {s i : Nat} {k : IntKind} {l : List (Int × Int)} {m n : Int} {v : AV} {u : Value} {p : Int × Int} (hs : c[s]? = some (.run (.pair k) l)) (hi : l[i]? = some p)
    (hu : u.cells.size = 2) (h0 : u.cells[0]? = some (.int k m)) (h1 : u.cells[1]? = some (.int k n)) :
    Wrote P S w L c (c.set s (.run (.pair k) (List.set (α := Int × Int) l i (m, n)))) s i 0 v u := by
  have hz : zAt c s = 2 := by simp [zAt, hs, ET.size]
  have hsz := contSize_split hs
  have hil := lt_of_get hi
  have hm := mul_lt_part (z := 2) hil
  simp only [segSize, ET.size] at hsz
  refine ⟨lt_of_get hs, map_set_same _ hs (by simp [segSize]), zAt_congr (map_set_same _ hs rfl), by rw [hu, hz]; omega, fun x hx => ?_, fun lo lo' hlo ht F F' hc hF => ?_⟩
  · obtain ⟨q, hq, hqx⟩ := Array.mem_iff_getElem.1 hx
    rw [hu] at hq
    have hg : u.cells[q]? = some x := by rw [Array.getElem?_eq_getElem (by omega), hqx]
    rcases (by omega : q = 0 ∨ q = 1) with rfl | rfl
    · rw [h0] at hg; injection hg with hg; rw [← hg]; rfl
    · rw [h1] at hg; injection hg with hg; rw [← hg]; rfl
  · rw [hz, hu] at hF
    have hc' := hc.mono (fun _ _ h => h) (fun _ _ _ => rfl) _ (lOf_or hlo L) (fun _ _ => rfl)
    have hrun := (cont_get hc' hs).1 (.pair k) l rfl
    rw [Nat.zero_add] at hrun
    rw [split3 hs] at hc'
    rw [set3 _ (lt_of_get hs)]
    refine cont_put hc' (by simp [contSize, segSize]) (cont_of_run fun i' x' hx' => ?_) (fun q hq hor => ?_)
    · rw [List.getElem?_set] at hx'
      by_cases hii : i = i'
      · subst hii
        rw [if_pos rfl, if_pos hil] at hx'
        injection hx' with hx'
        subst hx'
        simp only [ElR, ElR0, ET.size]
        rw [hF _ (by omega), if_pos (by omega), hF _ (by omega), if_pos (by omega)]
        refine ⟨?_, ?_⟩
        · rw [← h0]; congr 1; omega
        · rw [← h1]; congr 1; omega
      · rw [if_neg hii] at hx'
        have hil' := lt_of_get hx'
        have hm' := mul_lt_part (z := 2) hil'
        refine ElR.mono (fun _ _ h => h) (fun _ _ _ => rfl) (fun q hq => ?_) (hrun i' x' hx')
        simp only [ET.size] at hq ⊢
        rw [hF _ (by omega), if_neg]
        omega
    · rw [← split3 hs] at hq
      simp only [contSize, segSize, ET.size] at hor
      rw [hF _ hq, if_neg (by omega)]
theorem post_storeC {t : TypeId} {c : List AV} {ty : Option TypeId} {s i j : Nat} {v : AV} {u : Value} {Q : List AV → Hs → List Nat → Prop} (hty : ∀ x, ty = some x → c.map segSize = segSizes T.P x)
    (hr : Rel T.P S w v L u) (hp : (storeC T.P t c ty s i j v).post h ids Q) :
    ∃ c', Q c' h ids ∧ Wrote T.P S w L c c' s i j v u ∧ ∃ ti, T.P.info? t = some ti ∧ ti.size = u.cells.size := by
  unfold storeC at hp
  split at hp
  · exact hp.elim
  · split at hp
    · rename_i hag hsz
      have hsz := of_decide_eq_true hsz
      obtain ⟨c', hq, h1, hw⟩ := post_setAt hr hp
      obtain ⟨ti, hti, hz⟩ := szOf_some hsz (by omega)
      exact ⟨c', hq, hw, ti, hti, by rw [hz, h1]⟩
    · exact hp.elim
  · rename_i hag
    obtain ⟨_, ti, hti, htz⟩ := isAggT_run (w := w) hag
    split at hp
    · rename_i hwh
      split at hp
      · rename_i c' loose
        split at hp
        · rename_i hcond
          simp only [Bool.and_eq_true, decide_eq_true_eq] at hcond
          obtain ⟨⟨k1, k2⟩, k3⟩ := hcond
          simp only [HP.post, decide_eq_true_eq] at hp
          obtain ⟨k4, hq⟩ := hp
          unfold wholeT at hwh
          split at hwh
          · rename_i y
            simp only [Bool.and_eq_true, decide_eq_true_eq] at hwh
            obtain ⟨⟨w1, w2⟩, w3⟩ := hwh
            have hsl : s < c.length := by
              have h1 := congrArg List.length (hty y rfl)
              have h2 := Nat.le_of_ble_eq_true w3
              simp at h1; omega
            have hseg : c'.map segSize = ((c.drop s).take c'.length).map segSize := by
              rw [k1, k4]; exact (take_drop_sizes (hty y rfl) w1).symm
            simp only [Rel] at hr
            obtain ⟨arr, rfl, hsz, hc⟩ := hr
            refine ⟨_, hq, wrote_part hsl hseg k2 k3 hsz ?_ fun ht => ?_, ti, hti, ?_⟩
            · cases loose with
              | false => exact hc.mono (fun _ _ h => h) (fun _ _ _ => rfl) _ (noLoc_le L) (fun _ _ => rfl)
              | true => exact hc
            · cases loose with
              | false => exact hc
              | true => simp [tree] at ht
            · rw [htz, ← w2]
              show _ = arr.size
              rw [hsz, contSize_sum, k4]
          · cases hwh
        · exact hp.elim
      · exact hp.elim
    · split at hp
      · rename_i k' l' loose k l hs
        split at hp
        · rename_i m n
          split at hp
          · rename_i hk hd
            simp only [HP.post] at hp
            obtain ⟨p, hpi, hq⟩ := hp
            have hk := of_decide_eq_true hk
            have hd := of_decide_eq_true hd
            subst hk
            simp only [Rel, Cont] at hr
            obtain ⟨arr, rfl, hsz, hc, _⟩ := hr
            have h2 := runR_two (hc _ _ rfl)
            have hsz2 : arr.size = 2 := by rw [hsz]; rfl
            exact ⟨_, hq, wrote_pair hs hpi hsz2 h2.1 h2.2, ti, hti, by rw [htz, hd]; exact hsz2.symm⟩
          · exact hp.elim
        · exact hp.elim
      · exact hp.elim
structure Wr (w w' : World) (b : Nat) (arr arr' : Array Value) (ty : TypeId) : Prop where
  bef : w.heap[b]? = some (.cells arr ty (0, 0))
  aft : w'.heap[b]? = some (.cells arr' ty (0, 0))
  asz : arr'.size = arr.size
  other : ∀ x, x ≠ b → w'.heap[x]? = w.heap[x]?
  size : w'.heap.size = w.heap.size
  os : w'.os = w.os
  tape : w'.tape = w.tape
  output : w'.output = w.output
theorem Wr.frz {w w' : World} {b : Nat} {arr arr' : Array Value} {ty : TypeId} (h : Wr w w' b arr arr' ty) (a : Addr) : w'.frozen? a = w.frozen? a := by
  unfold World.frozen?
  by_cases e : a.block = b
  · rw [e, h.bef, h.aft]
  · rw [h.other _ e]
theorem Wr.shape {w w' : World} {b : Nat} {arr arr' : Array Value} {ty : TypeId} (h : Wr w w' b arr arr' ty) (x : Nat) (a0 : Array Value) (bt : TypeId) (hx : w.heap[x]? = some (.cells a0 bt (0, 0))) : ∃ a1, w'.heap[x]? = some (.cells a1 bt (0, 0)) ∧ a1.size = a0.size := by
  by_cases e : x = b
  · subst e
    rw [h.bef] at hx
    injection hx with hx
    injection hx with h1 h2
    subst h1 h2
    exact ⟨_, h.aft, h.asz⟩
  · exact ⟨a0, by rw [h.other _ e]; exact hx, rfl⟩
theorem Wr.refl {b : Nat} {arr : Array Value} {ty : TypeId} (hb : w.heap[b]? = some (.cells arr ty (0, 0))) : Wr w w b arr arr ty :=
  ⟨hb, hb, rfl, fun _ _ => rfl, rfl, rfl, rfl, rfl⟩
theorem Wr.trans {w1 w2 : World} {b : Nat} {arr arr1 arr2 : Array Value} {ty : TypeId} (h1 : Wr w w1 b arr arr1 ty) (h2 : Wr w1 w2 b arr1 arr2 ty) : Wr w w2 b arr arr2 ty :=
  ⟨h1.bef, h2.aft, by rw [h2.asz, h1.asz], fun x hx => by rw [h2.other x hx, h1.other x hx], by rw [h2.size, h1.size], by rw [h2.os, h1.os], by rw [h2.tape, h1.tape], by rw [h2.output, h1.output]⟩
theorem setCell_wr {b q : Nat} {arr : Array Value} {ty : TypeId} {v : Value} (hb : w.heap[b]? = some (.cells arr ty (0, 0))) : Wr w (w.setCell ⟨b, q, none⟩ v) b arr (arr.setIfInBounds q v) ty :=
  ⟨hb, heap_setCell_same w b q arr ty v hb, by simp, fun x hx => heap_setCell_other w _ x v hx, by simp, rfl, rfl, rfl⟩
theorem setCells_wr {b : Nat} {ty : TypeId} : ∀ (vs : List Value) (q : Nat) {w : World} {arr : Array Value}, w.heap[b]? = some (.cells arr ty (0, 0)) → q + vs.length ≤ arr.size →
    ∃ arr', Wr w (w.setCells b q vs) b arr arr' ty ∧ ∀ k, arr'[k]? = if q ≤ k ∧ k < q + vs.length then vs[k - q]? else arr[k]?
  | [], q, w, arr, hb, _ => ⟨arr, Wr.refl hb, fun k => by rw [if_neg (by rw [List.length_nil]; omega)]⟩
  | v :: vs, q, w, arr, hb, hs => by
    simp only [List.length_cons] at hs
    have h1 := setCell_wr (q := q) (v := v) hb
    obtain ⟨arr', h2, h3⟩ := setCells_wr vs (q + 1) h1.aft (by rw [h1.asz]; omega)
    refine ⟨arr', h1.trans h2, fun k => ?_⟩
    rw [h3 k]
    simp only [List.length_cons]
    by_cases e : k = q
    · subst e
      rw [if_neg (by omega), if_pos (by omega), Array.getElem?_setIfInBounds_self_of_lt (by omega)]
      simp
    · by_cases h4 : q + 1 ≤ k ∧ k < q + 1 + vs.length
      · rw [if_pos h4, if_pos (by omega)]
        have : k - q = (k - (q + 1)) + 1 := by omega
        rw [this, List.getElem?_cons_succ]
      · rw [if_neg h4, if_neg (by omega), Array.getElem?_setIfInBounds_ne (by omega)]
theorem run_storeCells_row {P : Program} {b q : Nat} {ty : TypeId} {arr : Array Value} {vs : List Value} (hb : w.heap[b]? = some (.cells arr ty (0, 0))) (hs : q + vs.length ≤ arr.size) (h1 : ∀ v ∈ vs, v.oneCell' = true) :
    ∃ w' arr', (storeCells ⟨b, q, none⟩ vs).run P w = .ok () w' ∧ Wr w w' b arr arr' ty ∧ ∀ k, arr'[k]? = if q ≤ k ∧ k < q + vs.length then vs[k - q]? else arr[k]? := by
  obtain ⟨arr', h2, h3⟩ := setCells_wr vs q hb hs
  refine ⟨_, arr', ?_, h2, h3⟩
  have := run_storeCells_cells (P := P) b q vs 0 w (fun j hj => ?_) (fun j hj => frozen_of_row w b _ arr ty hb) h1
  · simpa using this
  · rw [cell_of_row w b _ arr ty _ hb, Array.getElem?_eq_getElem (by omega)]; rfl
theorem St.writeRow {r : Nat} {row row' : Row} {p : Place} {w' : World} {arr arr' : Array Value} {bt : TypeId} (hst : St T S w L h ids) (hr : h r = some row) (hl : L r = some (some p)) (hsole : Sole L h r p) (hfz : row.fz = false)
    (hw : Wr w w' p.b arr arr' bt) (hc : Cont T.P S w row'.c (lOf row'.loose L) (fun q => arr'[q]?) 0) (hseg : row'.c.map segSize = row.c.map segSize) (hz : ∀ k, zAt row'.c k = zAt row.c k)
    (hvr : row'.vr = row.vr) (hty : row'.ty = row.ty) (hfz' : row'.fz = false) :
    St T S w' L (upd h r (some row')) ids ∧ Ext w S L w' S L := by
  have hok := hst.row hr hl
  have hno : ∀ q, ¬ S p.b q := fun q hq => by have := (hok.st q hq).1; rw [hfz] at this; cases this
  have hstay : Stays S w w' := fun b q hb => by
    have hne : b ≠ p.b := by rintro rfl; exact hno q hb
    simp only [World.cell?, hw.other b hne]
  have hlen : row'.c.length = row.c.length := by have := congrArg List.length hseg; simpa using this
  refine ⟨⟨⟨fun r' rw' hr' => ?_, fun r1 r2 x1 x2 p1 p2 h1 h2 h3 h4 h5 => ?_, fun b q hb => by rw [hw.size]; exact hst.inv.stab b q hb⟩, hst.nd, hst.fresh, fun r' hr' => ?_, hst.glob.mono (fun _ _ h => h) hstay⟩, ?_⟩
  · by_cases e : r' = r
    · subst e
      rw [upd_same] at hr'
      injection hr' with hr'
      subst hr'
      obtain ⟨arr0, bt0, hb0, hs0, _⟩ := hok.blk
      have : arr0 = arr := by
        have := hw.bef
        rw [hb0] at this
        simp at this; exact this.1
      subst this
      refine .inr ⟨p, hl, ⟨⟨arr', bt, hw.aft, by rw [hw.asz, hs0], hc.mono (fun _ _ h => h) hstay _ (Loc.le_refl _) (fun _ _ => rfl)⟩, by rw [contSize_congr hseg, hok.size], hok.le, fun s hs => ?_, fun s hs => by rw [hz, hok.zz s (by omega)], fun hv => by rw [hseg, hok.vr (by rw [← hvr]; exact hv), hty], fun q hq => absurd hq (hno q), hok.zp.1, fun hn => hok.zp.2 (List.eq_nil_of_length_eq_zero (by rw [← hlen, hn]; rfl))⟩⟩
      rw [hok.lay s (by omega)]
      have : (row'.c.take s).map segSize = (row.c.take s).map segSize := by rw [List.map_take, List.map_take, hseg]
      exact (contSize_congr this).symm
    · rw [upd_ne _ _ e] at hr'
      rcases hst.inv.rows r' rw' hr' with ⟨h1, h2⟩ | ⟨p', h1, h2⟩
      · exact .inl ⟨h1, h2⟩
      · have hne : p'.b ≠ p.b := fun hb => e (hsole r' rw' p' hr' h1 hb)
        exact .inr ⟨p', h1, h2.world (fun _ _ h => h) hstay (Loc.le_refl _) (hw.other _ hne) h2.st⟩
  · by_cases e1 : r1 = r
    · subst e1
      by_cases e2 : r2 = r1
      · exact .inl e2.symm
      · rw [upd_ne _ _ e2] at h2
        rw [hl] at h3
        cases h3
        exact .inl (hsole r2 x2 p2 h2 h4 h5.symm).symm
    · rw [upd_ne _ _ e1] at h1
      by_cases e2 : r2 = r
      · subst e2
        rw [hl] at h4
        cases h4
        exact .inl (hsole r1 x1 p1 h1 h3 h5)
      · rw [upd_ne _ _ e2] at h2
        exact hst.inv.disj r1 r2 x1 x2 p1 p2 h1 h2 h3 h4 h5
  · by_cases e : r' = r
    · subst e; rw [hst.dom r' hr'] at hr; cases hr
    · rw [upd_ne _ _ e]; exact hst.dom r' hr'
  · exact ⟨fun _ _ h => h, hstay, Loc.le_refl _, fun _ _ h => .inl h, fun b hb hn => hw.other b (fun e => hn ⟨r, p, hl, e.symm⟩), Nat.le_of_eq hw.size.symm, hw.os, hw.tape, hw.output, fun r p h => .inl ⟨r, p, h, rfl⟩, fun a _ => hw.frz a, hw.shape⟩
section ops
variable {Q : AV → Hs → List Nat → Prop}
theorem post_storeVal {r s : Nat} {v : AV} {u : Value} (hst : St T S w L h ids) (hv : Rel T.P S w v L u) (hp : (storeVal r s v).post h ids Q) :
    ∃ v' h' ids' L' S', Q v' h' ids' ∧ Rel T.P S' w v' L' u ∧ St T S' w L' h' ids' ∧ L.le L' ∧ Ext w S L w S' L' := by
  unfold storeVal at hp
  simp only [HP.post] at hp
  obtain ⟨row, hrow, hp⟩ := hp
  split at hp
  · obtain ⟨v', h', S', hq, h1, h2, h3, _⟩ := post_normF hst hv hp
    exact ⟨v', h', ids, L, S', hq, h3.mono (fun _ _ h => h) (fun _ _ _ => rfl) _ (noLoc_le L), h1, Loc.le_refl _, h2⟩
  · obtain ⟨v', h', ids', L', hq, h1, h2, h3, h4⟩ := post_nilRow hst hv hp
    exact ⟨v', h', ids', L', S, hq, h1, h2, h3, h4⟩
theorem op_store {t : TypeId} {x y : Operand} (ho : o.op = .store t x y) (hst : St T S w L h ids) (hx : Rel T.P S w (opv T fr x) L (a.eval x)) (hy : Rel T.P S w (opv T fr y) L (a.eval y))
    (hp : (evOp T o fr).post h ids Q) : Runs T o a w S L Q := by
  simp only [evOp, ho, store] at hp
  generalize opv T fr x = v at hx hp
  generalize opv T fr y = vy at hy hp
  rw [HP.post_bind] at hp
  split at hp
  · rename_i r s i j
    rw [HP.post_bind] at hp
    obtain ⟨v', h', ids', L', S', hp, e1, e2, e3, e4⟩ := post_storeVal hst hy hp
    simp only [HP.post] at hp
    obtain ⟨row, hrow, hp⟩ := hp
    split at hp
    · exact hp.elim
    · rename_i hfz
      rw [HP.post_bind] at hp
      simp only [Rel] at hx
      obtain ⟨p, hl, hu⟩ := psR_some (hx.mono e3)
      have hok := e2.row hrow hl
      obtain ⟨c', hp, hw, ti, hti, htz⟩ := post_storeC (rowTy_sizes hok) e1 hp
      have hp := post_killKin hp
      simp only [HP.post] at hp
      obtain ⟨hk, hq⟩ := hp
      obtain ⟨g1, g2, g3⟩ := e2.kill hrow hk
      obtain ⟨arr, bt, hb, hs, hc⟩ := hok.blk
      have hoff : p.lay s + i * p.z + j = contSize (row.c.take s) + i * zAt row.c s + j := by rw [hok.off hw.lt]; omega
      have hroom : p.lay s + i * p.z + j + (a.eval y).cells.toList.length ≤ arr.size := by
        rw [hoff, hs, Array.length_toList]
        have h1 := hw.room
        have h2 := hok.size
        have h3 := hok.le
        omega
      obtain ⟨w', arr', hrun, hwr, hget⟩ := run_storeCells_row (P := T.P) hb hroom (fun v hv => hw.one v (by simpa using hv))
      have hrow' := g1.writeRow (row' := { row with c := c', loose := (match row.loose with | true => true | false => !tree v'), kin := none }) g2 hl (g3 p hl) hfz hwr
        (hw.cont row.loose (match row.loose with | true => true | false => !tree v') (by intro h; rw [h]) (by intro h; cases hlo : row.loose <;> rw [hlo] at h <;> simp at h; exact h) _ _ hc fun q hq => by
          rw [hget q, hoff]; simp)
        hw.seg hw.z rfl rfl hfz
      refine ⟨_, _, _, S', L', w', _, undef, hq, ?_, .inr ⟨rfl, rfl⟩, by simp only [Rel], hrow'.1, e4.trans hrow'.2⟩
      simp only [execOp, ho, hu]
      have hsv : (storeVar t ⟨p.b, p.lay s + i * p.z + j, none⟩ (a.eval y)).run T.P w = .ok () w' := by
        simp only [storeVar, Sem.run_bind, run_sizeOf hti, Result.andThen_ok]
        rw [if_neg (by rw [htz]; simp)]
        simpa using hrun
      simp [Instr.storeAt, Instr.sureAddr, hsv]
  · exact hp.elim
end ops
end
end Go.Ev
namespace Go.Ev
open Go
set_option linter.unusedVariables false
set_option linter.unusedSimpArgs false
section
variable {T : Tab} {S : Stab} {w : World} {L : Loc} {h : Hs} {ids : List Nat} {a : Act} {o : Oper} {fr : Fr}
theorem content_cells {v : AV} {u : Value} (hr : Rel T.P S w v L u) (hok : cellsOK (contentOf v) = true) :
    u.cells.size = contSize (contentOf v) ∧ Cont T.P S w (contentOf v) L (fun q => u.cells[q]?) 0 ∧ (tree v = true → Cont T.P S w (contentOf v) noLoc (fun q => u.cells[q]?) 0) := by
  by_cases hag : ∃ c l, v = .agg c l
  · obtain ⟨c, l, rfl⟩ := hag
    simp only [Rel] at hr
    obtain ⟨arr, rfl, hsz, hc⟩ := hr
    refine ⟨hsz, ?_, fun ht => ?_⟩
    · cases l with
      | false => exact hc.mono (fun _ _ h => h) (fun _ _ _ => rfl) _ (noLoc_le L) (fun _ _ => rfl)
      | true => exact hc
    · cases l with
      | false => exact hc
      | true => simp [tree] at ht
  · have hcv : contentOf v = [v] := by
      cases v <;> first | rfl | (exact absurd ⟨_, _, rfl⟩ hag)
    rw [hcv] at hok ⊢
    have hov : cellOK v = true := by simpa [cellsOK] using hok
    have hsv : single v = true := by
      cases v <;> first | rfl | (simp only [Rel] at hr)
    have hone : oneCell v = true := by
      cases v <;> first | exact hov | (simp [single] at hsv)
    have hcells := (rel_oneCell hone hr).1
    have key : ∀ L', Rel T.P S w v L' u → Cont T.P S w [v] L' (fun q => u.cells[q]?) 0 := by
      intro L' hr'
      simp only [Cont, and_true]
      exact ⟨fun e l hv => by rw [hv] at hsv; simp [single] at hsv, fun _ => ⟨u, by rw [hcells]; simp, hr'⟩⟩
    exact ⟨by rw [hcells]; simp [contSize, segSize_single hsv], key L hr, fun ht => key _ (rel_tree ht hr _)⟩
theorem fill_one {place : Nat → Option (Nat × Nat)} {cells : Array Value} {i off size : Nat} {v : Value} {rest : List (Nat × Value)} (hp : place i = some (off, size)) (hs : v.cells.size = size) (hr : off + size ≤ cells.size) :
    ∃ cells1, Instr.fill place cells ((i, v) :: rest) = Instr.fill place cells1 rest ∧ cells1.size = cells.size ∧ ∀ q, cells1[q]? = if off ≤ q ∧ q < off + size then v.cells[q - off]? else cells[q]? := by
  have hfold : v.cells.zipIdx.foldl (fun cs (p : Value × Nat) => cs.setIfInBounds (off + p.2) p.1) cells = (v.cells.toList.zipIdx).foldl (fun cs (p : Value × Nat) => cs.setIfInBounds (off + p.2) p.1) cells := by
    rw [← Array.foldl_toList, Array.toList_zipIdx]
  refine ⟨(v.cells.toList.zipIdx).foldl (fun cs (p : Value × Nat) => cs.setIfInBounds (off + p.2) p.1) cells, ?_, setAll_list off _ _, fun q => ?_⟩
  · simp only [Instr.fill, hp]
    rw [if_neg (by rw [hs]; simp; omega)]
    exact congrArg (fun c => Instr.fill _ c _) hfold
  · have := setAll_get off v.cells.toList 0 cells q (by simp [hs]; omega)
    rw [this]
    simp [hs]
theorem places_of : ∀ (fs : List Field), (∀ g ∈ fs, (T.P.info? g.type).isSome = true) → ∃ places : List (Nat × Nat), fs.mapM (fun f => (T.P.info? f.type).map fun i => (f.offset, i.size)) = some places ∧
    ∀ (i : Nat) (g : Field), fs[i]? = some g → places[i]? = some (g.offset, szOf T.P g.type)
  | [], _ => ⟨[], rfl, fun i g hg => by simp at hg⟩
  | f :: fs, hi => by
    obtain ⟨places, h1, h2⟩ := places_of fs fun g hg => hi g (by simp [hg])
    obtain ⟨ti, hti⟩ := Option.isSome_iff_exists.1 (hi f (by simp))
    refine ⟨(f.offset, ti.size) :: places, ?_, fun i g hg => ?_⟩
    · rw [List.mapM_cons, hti, h1]; rfl
    · cases i with
      | zero =>
        simp at hg; subst hg
        simp [szOf, Program.cellsOf, hti]
      | succ i => simpa using h2 i g (by simpa using hg)
theorem rel_map_pairs : ∀ {l : List (Nat × AV)} {us : List (Nat × Value)}, l.map (·.1) = us.map (·.1) → RelL T.P S w (l.map (·.2)) L (us.map (·.2)) → ∀ p rest, l = p :: rest → ∃ u us', us = (p.1, u) :: us' ∧ Rel T.P S w p.2 L u ∧ rest.map (·.1) = us'.map (·.1) ∧ RelL T.P S w (rest.map (·.2)) L (us'.map (·.2)) := by
  intro l us h1 h2 p rest hl
  subst hl
  cases us with
  | nil => simp at h1
  | cons u us =>
    simp only [List.map_cons, RelL] at h1 h2
    obtain ⟨x, xs, hx, hr, hrs⟩ := h2
    simp only [List.cons.injEq] at hx h1
    refine ⟨u.2, us, by rw [h1.1], by rw [hx.1]; exact hr, h1.2, by rw [hx.2]; exact hrs⟩
def PlaceOK (P : Program) (t : TypeId) (place : Nat → Option (Nat × Nat)) : Prop := match desc P t with
  | .struct fs => ∀ i g, fs.toList[i]? = some g → place i = some (g.offset, szOf P g.type)
  | .array _ e => ∀ i, place i = some (i * szOf P e, szOf P e)
  | _ => True
theorem post_fillP {t : TypeId} {place : Nat → Option (Nat × Nat)} (hpl : PlaceOK T.P t place) : ∀ (parts : List (Nat × AV)) (us : List (Nat × Value)) (c : List AV) (arr : Array Value) {Q : List AV → Hs → List Nat → Prop},
    parts.map (·.1) = us.map (·.1) → RelL T.P S w (parts.map (·.2)) L (us.map (·.2)) → Cont T.P S w c L (fun q => arr[q]?) 0 → arr.size = contSize c → c.map segSize = segSizes T.P t → (fillP T.P t parts c).post h ids Q →
    ∃ c' arr', Q c' h ids ∧ Instr.fill place arr us = some arr' ∧ Cont T.P S w c' L (fun q => arr'[q]?) 0 ∧ arr'.size = contSize c'
  | [], us, c, arr, Q, h1, h2, hc, hs, hseg, hp => by
    cases us with
    | nil => exact ⟨c, arr, hp, rfl, hc, hs⟩
    | cons u us => simp at h1
  | p :: parts, us, c, arr, Q, h1, h2, hc, hs, hseg, hp => by
    obtain ⟨u, us', rfl, hr, h3, h4⟩ := rel_map_pairs h1 h2 p parts rfl
    have step : ∀ (c1 : List AV) (s i off size : Nat), Wrote T.P S w L c c1 s i 0 p.2 u → place p.1 = some (off, size) → u.cells.size = size → off = contSize (c.take s) + i * zAt c s → (fillP T.P t parts c1).post h ids Q →
        ∃ c' arr', Q c' h ids ∧ Instr.fill place arr ((p.1, u) :: us') = some arr' ∧ Cont T.P S w c' L (fun q => arr'[q]?) 0 ∧ arr'.size = contSize c' := by
      intro c1 s i off size hw hpl1 husz hoff hp
      have hroom := hw.room
      obtain ⟨cells1, e1, e2, e3⟩ := fill_one (rest := us') (cells := arr) hpl1 husz (by rw [hs, hoff, ← husz]; omega)
      have hc1 := hw.cont true true (fun h => h) (fun h => by cases h) _ (fun q => cells1[q]?) hc fun q hq => by
        simp only [e3 q, Nat.add_zero, hoff, husz]
      obtain ⟨c', arr', k1, k2, k3, k4⟩ := post_fillP hpl parts us' c1 cells1 h3 h4 hc1 (by rw [e2, hs, contSize_congr hw.seg]) (by rw [hw.seg, hseg]) hp
      exact ⟨c', arr', k1, by rw [e1]; exact k2, k3, k4⟩
    simp only [fillP] at hp
    unfold PlaceOK at hpl
    split at hp
    · rename_i fs hd
      rw [hd] at hpl
      split at hp
      · rename_i g hg
        split at hp
        · rename_i hcond
          simp only [Bool.and_eq_true, decide_eq_true_eq] at hcond
          obtain ⟨⟨⟨⟨⟨k1, k2⟩, k3⟩, k4⟩, k5⟩, k6⟩ := hcond
          simp only [HP.post, decide_eq_true_eq] at hp
          obtain ⟨k7, hp⟩ := hp
          have k4 := Nat.le_of_ble_eq_true k4
          have hlen : (contentOf p.2).length = (segSizes T.P g.type).length := by
            have := congrArg List.length k7; simpa using this
          have hcl : c.length = (segSizes T.P t).length := by
            have := congrArg List.length hseg; simpa using this
          obtain ⟨c1, c2, c3⟩ := content_cells hr k5
          have hw := wrote_part (c := c) (c' := contentOf p.2) (s := fieldSeg T.P fs.toList p.1) (v := p.2) (u := u) (by omega) (by
              rw [k7, hlen, List.map_take, List.map_drop, hseg]; exact k2) (by rw [hlen]; exact k6) k5 c1 c2 c3
          rw [hlen] at hw
          refine step _ _ 0 g.offset (szOf T.P g.type) hw (hpl _ g hg) ?_ ?_ hp
          · rw [c1, contSize_sum, k7, k3]
          · rw [contSize_sum, List.map_take, hseg, k1]; omega
        · exact hp.elim
      · exact hp.elim
    · rename_i n e hd
      rw [hd] at hpl
      split at hp
      · rename_i hcond
        simp only [Bool.and_eq_true, decide_eq_true_eq] at hcond
        obtain ⟨k1, k2⟩ := hcond
        rw [HP.post_bind] at hp
        obtain ⟨c1, hp2, husz, hw⟩ := post_setAt hr hp
        split at k2
        · rename_i k l
          have k2 := of_decide_eq_true k2
          refine step _ _ p.1 (p.1 * szOf T.P e) (szOf T.P e) hw (hpl p.1) (by rw [husz, k1]) ?_ hp2
          rw [k1]
          simp [contSize, zAt, k2]
        · cases k2
      · split at hp
        · rename_i hcond
          simp only [Bool.and_eq_true, decide_eq_true_eq, List.all_eq_true] at hcond
          obtain ⟨⟨⟨⟨k1, k2⟩, k4⟩, k5⟩, k6⟩ := hcond
          simp only [HP.post, decide_eq_true_eq] at hp
          obtain ⟨k7, hp⟩ := hp
          have k4 := Nat.le_of_ble_eq_true k4
          have hlen : (contentOf p.2).length = 1 := by
            have := congrArg List.length k7; simpa using this
          have hcl : c.length = (segSizes T.P t).length := by
            have := congrArg List.length hseg; simpa using this
          have hone : ((segSizes T.P t).drop p.1).take 1 = [1] := by
            rw [List.drop_eq_getElem_cons (by omega), List.take_succ_cons, List.take_zero, k2 _ (List.getElem_mem _)]
          have hsum : ∀ n : Nat, n ≤ (segSizes T.P t).length → ((segSizes T.P t).take n).sum = n := fun n => by
            induction n with
            | zero => intro _; rfl
            | succ n ih =>
              intro hn
              rw [List.take_add_one, List.getElem?_eq_getElem (by omega), List.sum_append, ih (by omega)]
              simp [k2 _ (List.getElem_mem (show n < (segSizes T.P t).length by omega))]
          obtain ⟨c1, c2, c3⟩ := content_cells hr k5
          have hw := wrote_part (c := c) (c' := contentOf p.2) (s := p.1) (v := p.2) (u := u) (by omega) (by
              rw [k7, hlen, List.map_take, List.map_drop, hseg, hone]) (by rw [hlen]; exact k6) k5 c1 c2 c3
          rw [hlen] at hw
          refine step _ _ 0 (p.1 * szOf T.P e) (szOf T.P e) hw (hpl p.1) ?_ ?_ hp
          · rw [c1, contSize_sum, k7, k1]; rfl
          · rw [contSize_sum, List.map_take, hseg, hsum _ (by omega), k1]; omega
        · exact hp.elim
    · exact hp.elim
section ops
variable {Q : AV → Hs → List Nat → Prop}
theorem op_build {t : TypeId} {ps : Array (Nat × Operand)} (ho : o.op = .build t ps) (hst : St T S w L h ids) (hx : ∀ p ∈ ps.toList, Rel T.P S w (opv T fr p.2) L (a.eval p.2))
    (hp : (evOp T o fr).post h ids Q) : Runs T o a w S L Q := by
  simp only [evOp, ho, buildV] at hp
  split at hp
  · rename_i c hinf hz
    rw [HP.post_bind] at hp
    obtain ⟨i, z, hi, hiz, hzs, hzc, hcont⟩ := zeroT_spec hz
    have hseg : c.map segSize = segSizes T.P t := by
      unfold zeroT at hz
      split at hz
      · rename_i c0 hc0
        split at hz
        · split at hz
          · split at hz
            · injection hz with hz
              subst hz
              simp [segSizes, hc0]
            · cases hz
          · cases hz
        · cases hz
      · cases hz
    have h1 : (ps.toList.map fun p => (p.1, opv T fr p.2)).map (·.1) = (ps.toList.map fun p => (p.1, a.eval p.2)).map (·.1) := by simp [List.map_map, Function.comp_def]
    have h2 : RelL T.P S w ((ps.toList.map fun p => (p.1, opv T fr p.2)).map (·.2)) L ((ps.toList.map fun p => (p.1, a.eval p.2)).map (·.2)) := by
      rw [List.map_map, List.map_map]
      exact relL_map _ _ _ fun p hp => hx p hp
    have fin : ∀ place, PlaceOK T.P t place → (∀ arr', Instr.fill place z.cells (ps.toList.map fun p => (p.1, a.eval p.2)) = some arr' → T.P.built t (ps.map fun p => (p.1, a.eval p.2)).toList = some arr') → Runs T o a w S L Q := by
      intro place hpl hbuilt
      obtain ⟨c', arr', hq, k1, k2, k3⟩ := post_fillP hpl _ _ c z.cells h1 h2 (hcont T S w L rfl) hzs hseg hp
      simp only [HP.post] at hq
      have hrun := run_build w t (ps.map fun p => (p.1, a.eval p.2)) arr' (hbuilt arr' k1)
      refine Runs.here hst hq (x := .agg arr') ?_ ?_
      · simp only [execOp, ho]
        simp only [Sem.run_bind, hrun, Result.andThen_ok, Sem.run_pure]
      · simp only [Rel]
        refine ⟨arr', rfl, k3, ?_⟩
        cases ha : c'.any fun v => !tree v with
        | true => exact k2
        | false =>
          refine cont_tree (fun v hv => ?_) k2 _
          have := List.any_eq_false.1 ha v hv
          simpa using this
    unfold infosOK at hinf
    split at hinf
    · rename_i fs hd
      obtain ⟨places, p1, p2⟩ := places_of (T := T) fs.toList (fun g hg => List.all_eq_true.1 hinf g hg)
      refine fin (places.toArray[·]?) (by unfold PlaceOK; rw [hd]; simpa using p2) fun arr' ha => ?_
      have hd' := desc_some hd (by simp)
      simp only [Program.built, hi, hd', hiz, p1, Array.toList_map]
      exact ha
    · rename_i n e hd
      obtain ⟨ti, hti⟩ := Option.isSome_iff_exists.1 hinf
      have hsz : szOf T.P e = ti.size := by simp [szOf, Program.cellsOf, hti]
      refine fin (fun i => some (i * ti.size, ti.size)) (by unfold PlaceOK; rw [hd]; intro i; rw [hsz]) fun arr' ha => ?_
      have hd' := desc_some hd (by simp)
      simp only [Program.built, hi, hd', hiz, hti, Array.toList_map]
      exact ha
    · cases hinf
  · exact hp.elim
end ops
end
end Go.Ev
namespace Go.Ev
open Go
set_option linter.unusedVariables false
set_option linter.unusedSimpArgs false
theorem made_get {z : Array Value} {m k : Nat} (hk : k < m) (hz : 0 < z.size) : (madeCells z m)[k]? = z[k % z.size]? := by
  have hm := Nat.mod_lt k hz
  simp [madeCells, hk, hm]
theorem zeroIs_spec {P : Program} {e : TypeId} {vs : List Value} (h : zeroIs P e vs = true) : ∃ i z, P.info? e = some i ∧ i.zero = some z ∧ z.cells.toList = vs ∧ i.size = vs.length := by
  unfold zeroIs at h
  split at h
  · rename_i i hi
    split at h
    · rename_i z hz
      simp only [Bool.and_eq_true, decide_eq_true_eq] at h
      exact ⟨i, z, hi, hz, (sameVs_eq h.1).symm, h.2⟩
    · cases h
  · cases h
theorem zElem_length (q : ET) : (zElem q).length = q.size := by cases q <;> rfl
theorem size_pos (q : ET) : 0 < q.size := by cases q <;> simp [ET.size]
section
variable {T : Tab} {S : Stab} {w : World} {L : Loc} {h : Hs} {ids : List Nat} {a : Act} {o : Oper} {fr : Fr}
theorem elR_zero {q : ET} {F : CellF} {k : Nat} (hF : ∀ j, j < q.size → F (k + j) = (zElem q)[j]?) : ElR S w q (zeroE q) F k := by
  have h0 := hF 0 (size_pos q)
  rw [Nat.add_zero] at h0
  cases q with
  | int i => simp only [ElR, ElR0]; rw [h0]; rfl
  | bool => simp only [ElR, ElR0]; rw [h0]; rfl
  | str => simp only [ElR, ElR0]; rw [h0]; rfl
  | pair i =>
    have h1 := hF 1 (by simp [ET.size])
    simp only [ElR, ElR0]; rw [h0, h1]; exact ⟨rfl, rfl⟩
  | ilist i =>
    simp only [ElR]
    exact ⟨.slice none 0 0, by rw [h0]; rfl, none, 0, rfl, Nat.le_refl _, fun _ => rfl, fun h => absurd rfl h⟩
theorem zeros_run {q : ET} {z : Array Value} {n : Nat} (hz : z.toList = zElem q) : RunR S w q (List.replicate n (zeroE q)) (fun k => (madeCells z (n * q.size))[k]?) 0 := by
  have hzs : z.size = q.size := by rw [← Array.length_toList, hz, zElem_length]
  intro i x hx
  have hi := lt_of_get hx
  rw [List.length_replicate] at hi
  have hxe : x = zeroE q := by
    have := List.mem_of_getElem? hx
    exact List.eq_of_mem_replicate this
  subst hxe
  have hm := mul_lt_part (z := q.size) hi
  refine elR_zero fun j hj => ?_
  have e1 : (0 + i * q.size + j) % z.size = j := by
    rw [hzs, Nat.zero_add, Nat.mul_comm, Nat.mul_add_mod, Nat.mod_eq_of_lt hj]
  show (madeCells z (n * q.size))[0 + i * q.size + j]? = _
  rw [made_get (by omega) (by rw [hzs]; exact size_pos q), e1, ← hz]
  simp
section ops
variable {Q : AV → Hs → List Nat → Prop}
theorem asI_some {v : AV} {n : Int} (h : asI v = some n) {u : Value} (hr : Rel T.P S w v L u) : ∃ k : IntKind, u = .int k n := by
  unfold asI at h
  split at h
  · rename_i k m
    cases h
    simp only [Rel] at hr
    exact ⟨k, hr⟩
  · cases h
theorem bytesOf_info {P : Program} {e : TypeId} {i : TypeInfo} (h : P.info? e = some i) : P.bytesOf e = i.bytes := by simp [Program.bytesOf, h]
theorem op_makeSlice {t : TypeId} {x y : Operand} (ho : o.op = .makeSlice t x y) (hst : St T S w L h ids) (hx : Rel T.P S w (opv T fr x) L (a.eval x)) (hy : Rel T.P S w (opv T fr y) L (a.eval y))
    (hp : (evOp T o fr).post h ids Q) : Runs T o a w S L Q := by
  simp only [evOp, ho, makeSl] at hp
  generalize opv T fr x = vx at hx hp
  generalize opv T fr y = vy at hy hp
  split at hp
  · rename_i e n m hd h1 h2
    have hd := desc_some hd (by simp)
    simp only [HP.post, decide_eq_true_eq] at hp
    obtain ⟨p1, p2, p3, hp⟩ := hp
    have p4 := room_n p3
    subst p2
    obtain ⟨kx, hux⟩ := asI_some h1 hx
    obtain ⟨ky, huy⟩ := asI_some h2 hy
    have p3 := room_le p3
    have hrun : ∀ (i : TypeInfo) (z : Value), T.P.info? e = some i → i.zero = some z → (execOp a.eval o).run T.P w = .ok (.value (.slice (some ⟨w.heap.size, 0, none⟩) n.toNat n.toNat)) (w.alloc (.cells (madeCells z.cells (n.toNat * i.size)) e)) := by
      intro i z hi hz
      have hb : (i.bytes : Int) * n ≤ 281474976710656 := by
        rw [bytesOf_info hi] at p3
        have : ((n.toNat * i.bytes : Nat) : Int) ≤ 70368744177664 := by omega
        rw [Int.natCast_mul, Int.toNat_of_nonneg p1, Int.mul_comm] at this
        omega
      have := run_make (P := T.P) w t e i z hd hi hz kx ky n n p1 (Int.le_refl _) hb (by omega)
      simp only [execOp, ho, hux, huy]
      simp only [Sem.run_bind, this, Result.andThen_ok, Sem.run_pure]
    split at hp
    · rename_i c0 q hz0 hq
      split at hp
      · rename_i hzi
        obtain ⟨i, z, hi, hz, hzc, hsz⟩ := zeroIs_spec hzi
        rw [zElem_length] at hsz
        cases ids with
        | nil => exact hp.elim
        | cons id rest =>
          simp only [HP.post] at hp
          obtain ⟨e1, e2⟩ := hst.newRow (w' := w.alloc (.cells (madeCells z.cells (n.toNat * q.size)) e)) (row := { c := [.run q (List.replicate n.toNat (zeroE q))], vr := false, ty := e, fz := false, loose := false })
            (arr := madeCells z.cells (n.toNat * q.size)) (bt := e) (z := q.size) rfl rfl rfl rfl (cont_of_run (zeros_run hzc)) (by simp [contSize, segSize, size_madeCells]) (fun s hs => by
              simp at hs; subst hs; simp [zAt]) ⟨size_pos q, fun h => by cases h⟩ (fun h => by cases h)
          refine ⟨_, _, _, S, _, _, _, _, hp, by rw [← hsz]; exact hrun i z hi hz, .inl rfl, ?_, e1, e2⟩
          simp only [Rel, OsR]
          rw [setL_same]
          exact ⟨_, n.toNat, rfl, fun _ => by simp [contSize], Nat.le_refl _, fun _ => rfl, by simp [contSize, size_madeCells], by simp [contSize, segSize], fun _ => ⟨trivial, trivial, rfl, by simp [contSize, segSize], by simp [size_madeCells]⟩, fun _ => by simp [contSize, segSize]⟩
      · exact hp.elim
    · rename_i z0 hz0 hq
      split at hp
      · rename_i hcond
        simp only [Bool.and_eq_true, decide_eq_true_eq] at hcond
        obtain ⟨k1, k2⟩ := hcond
        obtain ⟨i, z, hi, hz, hzs, hzc, hcont⟩ := zeroT_spec hz0
        have hs0 : single z0 = true := by cases z0 <;> first | rfl | (simp [oneCell] at k2)
        have hsz : i.size = 1 := by rw [hzc]; simp [contSize, segSize_single hs0]
        have hzz : z.cells.size = 1 := by rw [hzs]; simp [contSize, segSize_single hs0]
        cases ids with
        | nil => exact hp.elim
        | cons id rest =>
          simp only [HP.post] at hp
          have hall : ∀ v ∈ List.replicate n.toNat z0, single v = true := fun v hv => by rw [List.eq_of_mem_replicate hv]; exact hs0
          have hsize : contSize (List.replicate n.toNat z0) = n.toNat := by rw [contSize_single hall, List.length_replicate]
          have hcr : ∀ (m k : Nat), k + m ≤ n.toNat → Cont T.P S w (List.replicate m z0) L (fun k => (madeCells z.cells n.toNat)[k]?) k := by
            intro m
            induction m with
            | zero => intro k _; simp only [List.replicate, Cont]
            | succ m ih =>
              intro k hk
              simp only [List.replicate, Cont]
              refine ⟨fun e l hv => by rw [hv] at hs0; simp [single] at hs0, fun _ => ?_, by rw [segSize_single hs0]; exact ih (k + 1) (by omega)⟩
              have h0 := hcont T S w L rfl
              simp only [Cont] at h0
              obtain ⟨u, hu, hr⟩ := h0.2.1 hs0
              refine ⟨u, ?_, hr⟩
              rw [made_get (by omega) (by omega), hzz, Nat.mod_one]
              exact hu
          obtain ⟨e1, e2⟩ := hst.newRow (w' := w.alloc (.cells (madeCells z.cells (n.toNat * 1)) e)) (row := { c := List.replicate n.toNat z0, vr := false, ty := e, fz := false, loose := true })
            (arr := madeCells z.cells (n.toNat * 1)) (bt := e) (z := 1) rfl rfl rfl rfl (by rw [Nat.mul_one]; exact hcr n.toNat 0 (by omega)) (by rw [size_madeCells]; simp only [hsize]; omega) (fun s hs => zAt_single hall) ⟨by omega, fun _ => rfl⟩ (fun h => by cases h)
          refine ⟨_, _, _, S, _, _, _, _, hp, by rw [← hsz]; exact hrun i z hi hz, .inl rfl, ?_, e1, e2⟩
          simp only [Rel, OsR]
          rw [setL_same]
          exact ⟨_, n.toNat, rfl, fun _ => by simp [contSize], Nat.le_refl _, fun _ => rfl, by simp [contSize, size_madeCells], by simp [contSize, hsize], fun _ => ⟨trivial, trivial, rfl, by simp [hsize], by simp [size_madeCells]⟩, fun _ => by simp [contSize, hsize]⟩
      · exact hp.elim
    · exact hp.elim
  · exact hp.elim
end ops
end
end Go.Ev
namespace Go.Ev
open Go
set_option linter.unusedVariables false
set_option linter.unusedSimpArgs false
section
variable {T : Tab} {S : Stab} {w : World} {L : Loc} {h : Hs} {ids : List Nat} {a : Act} {o : Oper} {fr : Fr}
theorem castL_spec {q q' : ET} {l' : List q'.T} {l : List q.T} (hc : castL q q' l' = some l) : q.size = q'.size ∧ l.length = l'.length ∧ ∀ (S : Stab) (w : World) (F : CellF) (k : Nat), RunR S w q' l' F k → RunR S w q l F k := by
  unfold castL at hc
  split at hc
  · rename_i k k' l'
    by_cases hk : k = k'
    · subst hk
      simp at hc
      subst hc
      exact ⟨rfl, rfl, fun _ _ _ _ h => h⟩
    · simp [hk] at hc
  · cases hc; exact ⟨rfl, rfl, fun _ _ _ _ h => h⟩
  · cases hc; exact ⟨rfl, rfl, fun _ _ _ _ h => h⟩
  · rename_i k k' l'
    by_cases hk : k = k'
    · subst hk
      simp at hc
      subst hc
      exact ⟨rfl, rfl, fun _ _ _ _ h => h⟩
    · simp [hk] at hc
  · rename_i k k' l'
    by_cases hk : k = k'
    · subst hk
      simp at hc
      subst hc
      exact ⟨rfl, rfl, fun _ _ _ _ h => h⟩
    · simp [hk] at hc
  · cases hc
theorem runR_flat {S' : Stab} {w' : World} {q : ET} (hq : flatE q = true) {l : List q.T} {F : CellF} {k : Nat} (hr : RunR S w q l F k) : RunR S' w' q l F k := by
  intro i x hx
  have := hr i x hx
  cases q with
  | ilist k => cases hq
  | int k => exact this
  | bool => exact this
  | str => exact this
  | pair k => exact this
theorem over_length {α : Type} {l l' : List α} {i n : Nat} (h1 : i + n ≤ l.length) (h2 : n ≤ l'.length) : (over l i n l').length = l.length := by
  simp only [over, List.length_append, List.length_take, List.length_drop]
  omega
theorem over_get {α : Type} {l l' : List α} {i n k : Nat} (h1 : i + n ≤ l.length) (h2 : n ≤ l'.length) : (over l i n l')[k]? = if i ≤ k ∧ k < i + n then l'[k - i]? else l[k]? := by
  simp only [over, List.append_assoc]
  by_cases a1 : k < i
  · rw [List.getElem?_append_left (by simp; omega), if_neg (by omega), List.getElem?_take_of_lt a1]
  · rw [List.getElem?_append_right (by simp; omega)]
    have e1 : (l.take i).length = i := by simp; omega
    rw [e1]
    by_cases a2 : k < i + n
    · rw [List.getElem?_append_left (by simp; omega), if_pos (by omega), List.getElem?_take_of_lt (by omega)]
    · have e2 : (l'.take n).length = n := by simp; omega
      rw [List.getElem?_append_right (by rw [e2]; omega), if_neg (by omega), e2, List.getElem?_drop]
      congr 1; omega
theorem cont_over {q : ET} {c : List AV} {s i n : Nat} {l l' : List q.T} {F F' G : CellF} {g : Nat} {L' : Loc} (hs : c[s]? = some (.run q l)) (h1 : i + n ≤ l.length) (h2 : n ≤ l'.length)
    (hc : Cont T.P S w c L' F 0) (hr : RunR S w q l' G g) (hF : ∀ k, k < contSize c → F' k = if contSize (c.take s) + i * q.size ≤ k ∧ k < contSize (c.take s) + i * q.size + n * q.size then G (g + (k - (contSize (c.take s) + i * q.size))) else F k) :
    Cont T.P S w (c.set s (.run q (over l i n l'))) L' F' 0 ∧ (c.set s (.run q (over l i n l'))).map segSize = c.map segSize ∧ ∀ k, zAt (c.set s (.run q (over l i n l'))) k = zAt c k := by
  have hlen := over_length h1 h2
  have hsz := contSize_split hs
  simp only [segSize] at hsz
  have hin : i * q.size + n * q.size ≤ l.length * q.size := by rw [← Nat.add_mul]; exact Nat.mul_le_mul_right _ h1
  refine ⟨?_, map_set_same _ hs (by simp [segSize, hlen]), zAt_congr (map_set_same _ hs rfl)⟩
  have hrun := (cont_get hc hs).1 q l rfl
  rw [Nat.zero_add] at hrun
  have hc' := hc
  rw [split3 hs] at hc'
  rw [set3 _ (lt_of_get hs)]
  refine cont_put hc' (by simp [contSize, segSize, hlen]) (cont_of_run fun k x hx => ?_) (fun k hk hor => ?_)
  · rw [over_get h1 h2] at hx
    split at hx
    · rename_i hin'
      have hm := mul_lt_part (z := q.size) hin'.2
      rw [Nat.add_mul] at hm
      have hle : i * q.size ≤ k * q.size := Nat.mul_le_mul_right _ hin'.1
      have hsub : (k - i) * q.size = k * q.size - i * q.size := Nat.sub_mul _ _ _
      refine (hr (k - i) x hx).move fun j hj => ?_
      rw [hF _ (by omega), if_pos (by omega)]
      congr 1; omega
    · rename_i hout
      have hk := lt_of_get hx
      have hm := mul_lt_part (z := q.size) hk
      refine (hrun k x hx).move fun j hj => ?_
      rw [hF _ (by omega), if_neg]
      rcases Nat.lt_or_ge k i with hlt | hge
      · have := mul_lt_part (z := q.size) hlt; omega
      · have : (i + n) * q.size ≤ k * q.size := Nat.mul_le_mul_right _ (by omega)
        rw [Nat.add_mul] at this
        omega
  · rw [← split3 hs] at hk
    simp only [contSize, segSize] at hor
    rw [hF _ hk, if_neg (by omega)]
def Stored (P : Program) (w w' : World) (cells : Array Value) : Option Addr → Prop
  | some b => (storeCells b cells.toList).run P w = .ok () w'
  | none => w' = w
theorem St.over {r s i len n : Nat} {whole tight full : Bool} {row : Row} {q : ET} {l l' : List q.T} {u : Value} {G : CellF} {g : Nat} {cells : Array Value} (hst : St T S w L h ids) (hr : h r = some row) (hsole : ∀ p, L r = some (some p) → Sole L h r p) (hfz : row.fz = false) (hu : OsR L r s i len whole tight full u)
    (hs : row.c[s]? = some (.run q l)) (h1 : i + len ≤ l.length) (hn : n ≤ len) (h2 : n ≤ l'.length) (hrun : RunR S w q l' G g) (hsz : cells.size = n * q.size) (hG : ∀ k, k < n * q.size → cells[k]? = G (g + k)) :
    ∃ ba cap w', u = .slice ba len cap ∧ Stored T.P w w' cells ba ∧
      St T S w' L (upd h r (some { row with c := row.c.set s (.run q (Ev.over l i n l')), kin := none })) ids ∧ Ext w S L w' S L := by
  have hin : i * q.size + n * q.size ≤ l.length * q.size := by rw [← Nat.add_mul]; exact Nat.mul_le_mul_right _ (by omega)
  have same : n = 0 → row.c.set s (.run q (Ev.over l i n l')) = row.c := by
    intro h0
    subst h0
    have : Ev.over l i 0 l' = l := by simp [Ev.over]
    rw [this]
    apply List.ext_getElem?
    intro k
    rw [List.getElem?_set]
    by_cases hk : s = k
    · subst hk; rw [if_pos rfl, if_pos (lt_of_get hs), hs]
    · rw [if_neg hk]
  have keep : n = 0 → St T S w L (upd h r (some { row with c := row.c.set s (.run q (Ev.over l i n l')), kin := none })) ids := by
    intro h0
    rw [same h0]
    exact hst.rekin hr hsole none
  have nil : n = 0 → ∀ ba : Option Addr, Stored T.P w w cells ba := by
    intro h0 ba
    subst h0
    have : cells = #[] := Array.eq_empty_of_size_eq_zero (by rw [hsz]; simp)
    subst this
    cases ba with
    | none => rfl
    | some b => simp [Stored, storeCells]
  rcases Nat.eq_zero_or_pos n with h0 | hpos
  · have : ∃ ba cap, u = .slice ba len cap := by
      unfold OsR at hu
      split at hu
      · exact hu.elim
      · obtain ⟨rfl, _, _, ba, rfl⟩ := hu; exact ⟨_, _, rfl⟩
      · obtain ⟨ba, cap, rfl, _⟩ := hu; exact ⟨_, _, rfl⟩
    obtain ⟨ba, cap, hu⟩ := this
    exact ⟨ba, cap, w, hu, nil h0 ba, keep h0, Ext.refl _ _ _⟩
  · unfold OsR at hu
    split at hu
    · exact hu.elim
    · omega
    · rename_i p hl
      obtain ⟨ba, cap, hu, k1, k2, _, k4, k5, _⟩ := hu
      have hok := hst.row hr hl
      obtain ⟨arr, bt, hb, hsa, hc⟩ := hok.blk
      have hsl := lt_of_get hs
      have hz : p.z = q.size := by rw [← hok.zz s hsl]; simp [zAt, hs]
      have hlay := hok.lay s (Nat.le_of_lt hsl)
      have hsp := contSize_split hs
      simp only [segSize] at hsp
      have hba := k1 (by omega)
      rw [hz] at hba k4 k5
      subst hba
      have hpw := hok.size
      have hle := hok.le
      have hfc : ∀ F : CellF, Cont T.P S w row.c (lOf row.loose L) F 0 → Cont T.P S w row.c (lOf row.loose L) F 0 := fun _ h => h
      have hone : ∀ v ∈ cells.toList, v.oneCell' = true := by
        intro v hv
        obtain ⟨k, hk, hkv⟩ := List.mem_iff_getElem.1 hv
        have hk0 := hk
        rw [Array.length_toList, hsz] at hk
        have hg := hG k hk
        have hzp := size_pos q
        have hq : k / q.size < n := (Nat.div_lt_iff_lt_mul hzp).2 hk
        have hx := hrun (k / q.size) l'[k / q.size] (List.getElem?_eq_getElem (by omega))
        obtain ⟨x, hx1, hx2⟩ := elR_one hx (k % q.size) (Nat.mod_lt _ hzp)
        have hd := Nat.div_add_mod k q.size
        rw [Nat.mul_comm] at hd
        rw [show g + k / q.size * q.size + k % q.size = g + k by omega, ← hg] at hx1
        have hke : cells[k]? = some v := by
          rw [← Array.getElem?_toList]
          exact List.getElem?_eq_some_iff.2 ⟨hk0, hkv⟩
        rw [hke] at hx1
        injection hx1 with hx1
        rw [hx1]; exact hx2
      obtain ⟨w', arr', e1, e2, e3⟩ := run_storeCells_row (P := T.P) (q := p.lay s + i * q.size) (vs := cells.toList) hb (by rw [Array.length_toList, hsz, hsa, hlay]; omega) hone
      have hco := cont_over (T := T) (F' := fun k => arr'[k]?) (i := i) (n := n) hs (by omega) h2 hc hrun (fun k hk => by
        simp only [e3 k, Array.length_toList, hsz, hlay]
        split
        · rename_i hkk
          rw [Array.getElem?_toList, hG _ (by omega)]
        · rfl)
      obtain ⟨st, ex⟩ := hst.writeRow (row' := { row with c := row.c.set s (.run q (Ev.over l i n l')), kin := none }) hr hl (hsole p hl) hfz e2 hco.1 hco.2.1 hco.2.2 rfl rfl hfz
      exact ⟨_, cap, w', hu, e1, st, ex⟩
theorem firstCells_sl {P : Program} {q : ET} {l : List q.T} {t : Bool} {u : Value} {n : Nat} (hu : SlR S w q l t u) (hn : n ≤ l.length) : ∃ ba cap cells G g, u = .slice ba l.length cap ∧ (Builtin.firstCells q.size n u).run P w = .ok cells w ∧ cells.size = n * q.size ∧
    RunR S w q l G g ∧ ∀ k, k < n * q.size → cells[k]? = G (g + k) := by
  obtain ⟨ba, cap, rfl, _, _, hl⟩ := hu
  rcases Nat.eq_zero_or_pos n with h0 | hpos
  · subst h0
    refine ⟨ba, cap, #[], ?_⟩
    have hrun : (Builtin.firstCells q.size 0 (.slice ba l.length cap)).run P w = .ok #[] w := by
      cases ba with
      | none => simp [Builtin.firstCells]
      | some b => simp [Builtin.firstCells, loadCells, loadCellsFrom]
    by_cases hne : l = []
    · subst hne
      exact ⟨fun _ => none, 0, rfl, hrun, by simp, fun i x hx => by simp at hx, fun k hk => by simp at hk⟩
    · obtain ⟨b, og, rfl, hr, hs⟩ := hl hne
      exact ⟨cellsAt w b, og, rfl, hrun, by simp, hr, fun k hk => by simp at hk⟩
  · have hne : l ≠ [] := by rintro rfl; simp at hn; omega
    obtain ⟨b, og, rfl, hr, hs⟩ := hl hne
    have hmul : n * q.size ≤ l.length * q.size := Nat.mul_le_mul_right _ hn
    obtain ⟨arr, k1, k2, k3⟩ := run_loadCells_at (P := P) (w := w) (b := b) (o := og) (n := n * q.size) fun k hk => by
      have hc : Cont P S w [.run q l] noLoc (cellsAt w b) og := cont_of_run hr
      exact cont_cells hc k (by simp only [contSize, segSize]; omega)
    exact ⟨_, cap, arr, cellsAt w b, og, rfl, by simpa [Builtin.firstCells] using k1, k2, hr, k3⟩
section ops
variable {Q : AV → Hs → List Nat → Prop}
theorem run_copyOld {e t t' ty : TypeId} {x y : AV} {u v : Value} (hst : St T S w L h ids) (hd : T.P.underlying t = some (.slice e)) (hru : Rel T.P S w x L u) (hrv : Rel T.P S w y L v) (hp : (copyOld T e x y).post h ids Q) :
    ∃ v' h' ids' S' L' w' x', Q v' h' ids' ∧ (Builtin.copy_ #[t, t'] ty #[u, v]).run T.P w = .ok x' w' ∧ Rel T.P S' w' v' L' x' ∧ St T S' w' L' h' ids' ∧ Ext w S L w' S' L' := by
  unfold copyOld at hp
  rw [HP.post_bind] at hp
  have hp0 := normOK hst 6 y v _ hrv hp
  clear hp
  obtain ⟨p, hp, _, hn, _⟩ := hp0
  split at hp
  · rename_i r s i len whole tight full
    simp only [HP.post] at hp
    obtain ⟨row, hrow, hp⟩ := hp
    split at hp
    · rename_i q l q' l' tt hfz hs hy
      split at hp
      · rename_i xl hsz hfl hcl
        simp only [HP.post, decide_eq_true_eq] at hp
        obtain ⟨hle, hp⟩ := hp
        have hp := post_killKin hp
        simp only [HP.post] at hp
        obtain ⟨hk, hq⟩ := hp
        obtain ⟨g1, g2, g3⟩ := hst.kill hrow hk
        have hsz := of_decide_eq_true hsz
        rw [hy] at hn
        simp only [Rel] at hn hru
        obtain ⟨cs, cl, cr⟩ := castL_spec hcl
        obtain ⟨bs, caps, cells, G, g, hus, hrun, hcz, hG, hcells⟩ := firstCells_sl (P := T.P) (n := min xl.length len) hn (by rw [← cl]; omega)
        rw [← cs] at hrun hcz hcells
        have hcond : ∀ (F : CellF) (k : Nat), RunR (plus S (cellsOf L p.2)) w q' l' F k → RunR S w q xl F k := by
          intro F k hr
          cases hq : flatE q with
          | true => exact runR_flat hq (cr _ _ _ _ hr)
          | false =>
            rw [hq] at hfl
            have hnil : p.2 = [] := List.isEmpty_iff.1 hfl
            refine (cr _ _ _ _ hr).mono (fun b o hb => ?_) (fun _ _ _ => rfl) (fun _ _ => rfl)
            rw [hnil] at hb
            rcases hb with hb | hb
            · exact hb
            · exact absurd hb (by rintro ⟨_, hr, _⟩; simp at hr)
        obtain ⟨ba, cap, w', hub, hst1, hst2, hext⟩ := g1.over g2 g3 hfz hru hs hle (n := min xl.length len) (by omega) (by omega) (hcond _ _ hG) hcz hcells
        subst hub
        subst hus
        obtain ⟨ti, hti, htz⟩ := info_of_sz (T := T) (e := e) (by have := size_pos q; omega)
        refine ⟨_, _, _, S, L, w', .int .i64 (min xl.length len : Nat), hq, ?_, by simp only [Rel], hst2, hext⟩
        have hsize : (sizeOf e).run T.P w = .ok q.size w := by rw [run_sizeOf hti, htz, hsz]
        have hmin : Nat.min l'.length len = min xl.length len := by rw [cl]
        simp [Builtin.copy_, underlying, hd, Builtin.lenOf, hmin, hsize, hrun, goInt]
        cases ba with
        | none => simp only [Stored] at hst1; subst hst1; simp
        | some b => simp only [Stored] at hst1; simp [hst1]
      · exact hp.elim
    · exact hp.elim
  · exact hp.elim
theorem op_clear {ρ : Operand → AV} {c : Call} (ho : o.op = .call c) (hc : c.callee = .builtin .clear) (hst : St T S w L h ids) (hx : ∀ x ∈ c.args.toList, Rel T.P S w (ρ x) L (a.eval x))
    (hp : (builtinV T .clear c.argTypes.toList (c.args.toList.map ρ)).post h ids Q) : Runs T o a w S L Q := by
  have hr := relL_args (T := T) (ρ := ρ) (a := a) hx
  simp only [builtinV] at hp
  split at hp
  · rename_i t x h1 h2
    obtain ⟨u, hu, hru⟩ := rel1 hr h2
    have e1 := arr_of h1
    have e2 := arr_of hu
    split at hp
    · rename_i e hd
      have hd := desc_some hd (by simp)
      unfold clearV at hp
      split at hp
      · rename_i r s i len whole tight full
        simp only [HP.post] at hp
        obtain ⟨row, hrow, hp⟩ := hp
        split at hp
        · rename_i q l hfz hs
          split at hp
          · rename_i hzi hfl
            simp only [HP.post, decide_eq_true_eq] at hp
            obtain ⟨hle, hp⟩ := hp
            have hp := post_killKin hp
            simp only [HP.post] at hp
            obtain ⟨hk, hq⟩ := hp
            obtain ⟨g1, g2, g3⟩ := hst.kill hrow hk
            obtain ⟨ti, z, hi, hz, hzc, hsz⟩ := zeroIs_spec hzi
            rw [zElem_length] at hsz
            have hzs : z.cells.size = q.size := by rw [← Array.length_toList, hzc, zElem_length]
            simp only [Rel] at hru
            have hzr := zeros_run (S := S) (w := w) (q := q) (n := len) hzc
            obtain ⟨ba, cap, w', hub, hst1, hst2, hext⟩ := g1.over g2 g3 hfz hru hs hle (n := len) (Nat.le_refl _) (by simp) hzr (cells := madeCells z.cells (len * q.size)) (size_madeCells _ _) (fun k hk => by simp)
            subst hub
            have hzcell : Builtin.zeroCells z.cells len = madeCells z.cells (len * q.size) := by simp [Builtin.zeroCells, madeCells, hzs]
            refine ⟨_, _, _, S, L, w', _, .tuple #[], hq, run_builtin ho hc fun cs' => ?_, .inl rfl, by simp [Rel, RelL], hst2, hext⟩
            rw [e1, e2]
            have hzv : (zeroValue e).run T.P w = .ok z w := by simp [zeroValue, typeInfo, hi, hz]
            cases ba with
            | none => simp only [Stored] at hst1; subst hst1; simp [builtin, Builtin.clear_, underlying, hd]
            | some b =>
              simp only [Stored] at hst1
              cases len with
              | zero =>
                have : madeCells z.cells (0 * q.size) = #[] := Array.eq_empty_of_size_eq_zero (by rw [size_madeCells]; simp)
                rw [this] at hst1
                simp [storeCells] at hst1
                subst hst1
                simp [builtin, Builtin.clear_, underlying, hd]
              | succ n =>
                rw [← hzcell] at hst1
                simp [builtin, Builtin.clear_, underlying, hd, hzv, hst1]
          · exact hp.elim
        · exact hp.elim
      · exact hp.elim
    · exact hp.elim
  · exact hp.elim
end ops
end
end Go.Ev
namespace Go.Ev
open Go
set_option linter.unusedVariables false
set_option linter.unusedSimpArgs false
def CellsAt (w : World) (base : Option Addr) (cs : List Value) : Prop := cs = [] ∨ ∃ b, base = some b ∧ ∀ j v, cs[j]? = some v → w.cell? (b.add j) = some v
theorem run_first {P : Program} {w : World} {base : Option Addr} {cs : List Value} {n size len cap : Nat} (h : CellsAt w base cs) (hl : cs.length = n * size) :
    (Builtin.firstCells size n (.slice base len cap)).run P w = .ok cs.toArray w := by
  rcases h with rfl | ⟨b, rfl, hc⟩
  · have h0 : n * size = 0 := by rw [← hl]; rfl
    cases base with
    | none => simp [Builtin.firstCells]
    | some b => simp [Builtin.firstCells, h0, loadCells, loadCellsFrom]
  · exact run_firstCells_some w size n b len cap cs hl hc
section
variable {P : Program} {w : World}
theorem run_append_new (t ty e : TypeId) (i : TypeInfo) (z : Value) (ht : P.underlying t = some (.slice e)) (hi : P.info? e = some i) (hz : i.zero = some z)
    (base : Option Addr) (sLen sCap : Nat) (olds : List Value) (hlo : olds.length = sLen * i.size) (holds : CellsAt w base olds)
    (xb : Option Addr) (n c : Nat) (news : List Value) (hl : news.length = n * i.size) (hnews : CellsAt w xb news)
    (hg : sCap < sLen + n) (h63 : sLen + n ≤ 9223372036854775807) (hfit : (sLen + n) * i.bytes ≤ 70368744177664) :
    (Builtin.append_ #[t, t] ty #[.slice base sLen sCap, .slice xb n c]).run P w =
      .ok (.slice (some ⟨w.heap.size, 0, none⟩) (sLen + n) (grownCap w (sLen + n) sCap e))
        (w.drew.alloc (.cells (olds.toArray ++ news.toArray ++ Builtin.zeroCells z.cells (grownCap w (sLen + n) sCap e - (sLen + n))) e)) := by
  have hfit' := growslice_fits hg (by omega : (sLen + n) * i.bytes ≤ 140737488355328)
  have hn : ¬ (sLen + n ≤ sCap) := by omega
  have h63' : ¬ (9223372036854775807 < ((sLen : Int) + (n : Int))) := by omega
  have h48' : ¬ (281474976710656 < Builtin.nextslicecap (sLen + n) sCap * i.bytes) := by omega
  have hf := run_first (P := P) (w := w.drew) (len := n) (cap := c) (cs := news) (by simpa [CellsAt] using hnews) hl
  have hfo := run_first (P := P) (w := w.drew) (len := sLen) (cap := sCap) (cs := olds) (by simpa [CellsAt] using holds) hlo
  simp [Builtin.append_, run_underlying ht, sizeOf, typeInfo, zeroValue, hi, hz, Builtin.lenOf, hn, h63', h48', Question.forced, hf, hfo, newRow, grownCap]
  congr 2
  apply Array.ext'
  simp [List.append_assoc]
theorem run_append_stay (t ty e : TypeId) (i : TypeInfo) (ht : P.underlying t = some (.slice e)) (hi : P.info? e = some i)
    (base : Option Addr) (sLen sCap : Nat) (xb : Option Addr) (n c : Nat) (news : List Value) (hl : news.length = n * i.size) (hnews : CellsAt w xb news)
    (hroom : sLen + n ≤ sCap) (w' : World) (hst : Stored P w w' news.toArray (base.map fun b => b.add (sLen * i.size))) :
    (Builtin.append_ #[t, t] ty #[.slice base sLen sCap, .slice xb n c]).run P w = .ok (.slice base (sLen + n) sCap) w' := by
  have hf := run_first (P := P) (w := w) (len := n) (cap := c) (cs := news) hnews hl
  cases base with
  | none =>
    simp only [Stored, Option.map] at hst
    subst hst
    simp [Builtin.append_, run_underlying ht, sizeOf, typeInfo, hi, Builtin.lenOf, hroom, hf]
  | some b =>
    simp only [Stored, Option.map] at hst
    simp [Builtin.append_, run_underlying ht, sizeOf, typeInfo, hi, Builtin.lenOf, hroom, hf, hst]
end
section
variable {T : Tab} {S : Stab} {w : World} {L : Loc} {h : Hs} {ids : List Nat} {a : Act} {o : Oper} {fr : Fr}
theorem St.inplace {r i : Nat} {rest : List Nat} {row row' : Row} {p : Place} {w' : World} {arr arr' : Array Value} {bt : TypeId} (hst : St T S w L h (i :: rest)) (hr : h r = some row) (hl : L r = some (some p)) (hsole : Sole L h r p)
    (hw : Wr w w' p.b arr arr' bt) (hag : ∀ q, q < p.w → arr'[q]? = arr[q]?) (hc : Cont T.P S w row'.c (lOf row'.loose L) (fun q => arr'[q]?) 0)
    (hle : contSize row'.c ≤ p.n) (hge : p.w ≤ contSize row'.c) (hz : ∀ s, s < row'.c.length → zAt row'.c s = p.z) (hz0 : row'.c = [] → p.z = 1) (hvr : row'.vr = false) (hfz : row'.fz = row.fz) (hkin : row'.kin = some (r, true)) :
    St T S w' (setL L i (some { p with w := contSize row'.c, lay := fun s => contSize (row'.c.take s) })) (upd (upd h i (some row')) r (some { row with kin := some (i, false) })) rest ∧
    Ext w S L w' S (setL L i (some { p with w := contSize row'.c, lay := fun s => contSize (row'.c.take s) })) := by
  have hok := hst.row hr hl
  have hi : L i = none := hst.fresh i (.inl (by simp))
  have hir : i ≠ r := by rintro rfl; rw [hi] at hl; cases hl
  have hle' := setL_le (some ({ p with w := contSize row'.c, lay := fun s => contSize (row'.c.take s) } : Place)) hi
  obtain ⟨arr0, bt0, hb0, hs0, hc0⟩ := hok.blk
  have harr : arr0 = arr ∧ bt0 = bt := by
    have := hw.bef
    rw [hb0] at this
    simp at this; exact this
  obtain ⟨rfl, rfl⟩ := harr
  have hstay : Stays S w w' := fun b q hb => by
    by_cases hbp : b = p.b
    · subst hbp
      have hq := (hok.st q hb).2
      rw [cell_of_row w' _ q arr' bt0 (0, 0) hw.aft, cell_of_row w _ q arr0 bt0 (0, 0) hw.bef]
      exact hag q hq
    · simp only [World.cell?, hw.other b hbp]
  have old : ∀ x rx, x ≠ i → x ≠ r → upd (upd h i (some row')) r (some { row with kin := some (i, false) }) x = some rx → h x = some rx := by
    intro x rx hxi hxr hx
    rw [upd_ne _ _ hxr, upd_ne _ _ hxi] at hx
    exact hx
  have ati : ∀ rx, upd (upd h i (some row')) r (some { row with kin := some (i, false) }) i = some rx → rx = row' := by
    intro rx hx
    rw [upd_ne _ _ hir, upd_same] at hx
    injection hx with hx
    exact hx.symm
  have atr : ∀ rx, upd (upd h i (some row')) r (some { row with kin := some (i, false) }) r = some rx → rx = { row with kin := some (i, false) } := by
    intro rx hx
    rw [upd_same] at hx
    injection hx with hx
    exact hx.symm
  refine ⟨⟨⟨fun x rw' hx => ?_, fun r1 r2 x1 x2 p1 p2 h1 h2 h3 h4 h5 => ?_, fun b q hb => by rw [hw.size]; exact hst.inv.stab b q hb⟩, hst.tail.1, fun j hj => ?_, fun x hx => ?_, hst.glob.mono (fun _ _ h => h) hstay⟩, ?_⟩
  · by_cases e : x = i
    · subst e
      have := ati _ hx
      subst this
      refine .inr ⟨_, setL_same _ _ _, ⟨⟨arr', bt0, hw.aft, by rw [hw.asz, hs0], hc.mono (fun _ _ h => h) hstay _ (lOf_le hle') (fun _ _ => rfl)⟩, rfl, hle, fun s hs => rfl, hz, fun h => absurd h (by rw [hvr]; simp), fun q hq => ?_, hok.zp.1, hz0⟩⟩
      have := hok.st q hq
      exact ⟨by rw [hfz]; exact this.1, Nat.lt_of_lt_of_le this.2 hge⟩
    · by_cases e2 : x = r
      · subst e2
        have := atr _ hx
        subst this
        refine .inr ⟨p, by rw [setL_ne _ _ e]; exact hl, ⟨⟨arr', bt0, hw.aft, by rw [hw.asz, hs0], hc0.mono (fun _ _ h => h) hstay _ (lOf_le hle') (fun q hq => ?_)⟩, hok.size, hok.le, hok.lay, hok.zz, hok.vr, hok.st, hok.zp⟩⟩
        rw [Nat.zero_add]
        exact hag q (by rw [← hok.size]; exact hq)
      · have hx := old x _ e e2 hx
        rcases hst.inv.rows x rw' hx with ⟨k1, k2⟩ | ⟨p', k1, k2⟩
        · exact .inl ⟨by rw [setL_ne _ _ e]; exact k1, k2⟩
        · have hne : p'.b ≠ p.b := fun hb => e2 (hsole x rw' p' hx k1 hb)
          exact .inr ⟨p', by rw [setL_ne _ _ e]; exact k1, k2.world (fun _ _ h => h) hstay hle' (hw.other _ hne) k2.st⟩
  · have key : ∀ x rx px, x ≠ i → x ≠ r → upd (upd h i (some row')) r (some { row with kin := some (i, false) }) x = some rx → L x = some (some px) → px.b ≠ p.b := by
      intro x rx px hx hxr hh hlx hb
      exact hxr (hsole x rx px (old x _ hx hxr hh) hlx hb)
    by_cases c1 : r1 = i
    · by_cases c2 : r2 = i
      · exact .inl (by rw [c1, c2])
      · subst c1
        rw [setL_same] at h3
        rw [setL_ne _ _ c2] at h4
        injection h3 with h3
        injection h3 with h3
        subst h3
        by_cases c3 : r2 = r
        · subst c3
          rw [hl] at h4
          cases h4
          have e1 := ati _ h1
          have e2 := atr _ h2
          subst e1 e2
          exact .inr (.inl ⟨hkin, rfl, hge⟩)
        · exact absurd h5.symm (key r2 x2 p2 c2 c3 h2 h4)
    · by_cases c2 : r2 = i
      · subst c2
        rw [setL_same] at h4
        rw [setL_ne _ _ c1] at h3
        injection h4 with h4
        injection h4 with h4
        subst h4
        by_cases c3 : r1 = r
        · subst c3
          rw [hl] at h3
          cases h3
          have e1 := ati _ h2
          have e2 := atr _ h1
          subst e1 e2
          exact .inr (.inr ⟨hkin, rfl, hge⟩)
        · exact absurd h5 (key r1 x1 p1 c1 c3 h1 h3)
      · rw [setL_ne _ _ c1] at h3
        rw [setL_ne _ _ c2] at h4
        by_cases d1 : r1 = r
        · by_cases d2 : r2 = r
          · exact .inl (by rw [d1, d2])
          · subst d1
            rw [hl] at h3
            cases h3
            exact absurd h5.symm (key r2 x2 p2 c2 d2 h2 h4)
        · by_cases d2 : r2 = r
          · subst d2
            rw [hl] at h4
            cases h4
            exact absurd h5 (key r1 x1 p1 c1 d1 h1 h3)
          · exact hst.inv.disj r1 r2 x1 x2 p1 p2 (old _ _ c1 d1 h1) (old _ _ c2 d2 h2) h3 h4 h5
  · have := hst.tail.2 j hj
    rw [setL_ne _ _ this.1]
    exact this.2
  · by_cases e : x = i
    · subst e; rw [setL_same] at hx; cases hx
    · rw [setL_ne _ _ e] at hx
      by_cases e2 : x = r
      · subst e2; rw [hl] at hx; cases hx
      · rw [upd_ne _ _ e2, upd_ne _ _ e]; exact hst.dom x hx
  · refine ⟨fun _ _ h => h, hstay, hle', fun _ _ h => .inl h, fun b hb hn => hw.other b (fun e => hn ⟨r, p, hl, e.symm⟩), Nat.le_of_eq hw.size.symm, hw.os, hw.tape, hw.output, fun x px hx => ?_, fun a _ => hw.frz a, hw.shape⟩
    by_cases e : x = i
    · subst e
      rw [setL_same] at hx
      injection hx with hx
      injection hx with hx
      subst hx
      exact .inl ⟨r, p, hl, rfl⟩
    · rw [setL_ne _ _ e] at hx
      exact .inl ⟨x, px, hx, rfl⟩
structure News (T : Tab) (w : World) (u : Value) (n size : Nat) (news : List Value) : Prop where
  val : ∃ b cap, u = .slice b n cap ∧ CellsAt w b news
  len : news.length = n * size
  one : ∀ v ∈ news, v.oneCell' = true
theorem cells_list {b k n : Nat} (hf : ∀ i, i < n → ∃ u, cellsAt w b (k + i) = some u ∧ u.oneCell' = true) : ∃ cs : List Value, cs.length = n ∧ CellsAt w (some ⟨b, k, none⟩) cs ∧ (∀ i, i < n → cs[i]? = cellsAt w b (k + i)) ∧ ∀ v ∈ cs, v.oneCell' = true := by
  obtain ⟨arr, h1, h2, h3⟩ := run_loadCells_at (P := default) (w := w) (b := b) (o := k) (n := n) fun i hi => by
    obtain ⟨u, hu, _⟩ := hf i hi
    exact ⟨u, hu⟩
  have hlen : arr.toList.length = n := by simp [h2]
  have hget : ∀ i, i < n → arr.toList[i]? = cellsAt w b (k + i) := fun i hi => by rw [Array.getElem?_toList]; exact h3 i hi
  refine ⟨arr.toList, hlen, .inr ⟨_, rfl, fun j v hj => ?_⟩, hget, fun v hv => ?_⟩
  · have hjn : j < n := by rw [← hlen]; exact lt_of_get' hj
    rw [addr_add, ← hj, hget j hjn]
    rfl
  · obtain ⟨i, hi, hiv⟩ := List.mem_iff_getElem.1 hv
    obtain ⟨u, hu, h1⟩ := hf i (by omega)
    have : arr.toList[i]? = some v := List.getElem?_eq_some_iff.2 ⟨hi, hiv⟩
    rw [hget i (by omega), hu] at this
    injection this with this
    rw [← this]; exact h1
where
  lt_of_get' {l : List Value} {j : Nat} {v : Value} (h : l[j]? = some v) : j < l.length := lt_of_get h
theorem run_one {q : ET} {l : List q.T} {F : CellF} {k : Nat} (hr : RunR S w q l F k) : ∀ i, i < l.length * q.size → ∃ u, F (k + i) = some u ∧ u.oneCell' = true := by
  intro i hi
  have hzp := size_pos q
  have hq : i / q.size < l.length := (Nat.div_lt_iff_lt_mul hzp).2 hi
  have hx := hr (i / q.size) l[i / q.size] (List.getElem?_eq_getElem hq)
  obtain ⟨x, hx1, hx2⟩ := elR_one hx (i % q.size) (Nat.mod_lt _ hzp)
  have hd := Nat.div_add_mod i q.size
  rw [Nat.mul_comm] at hd
  exact ⟨x, by rw [← hx1]; congr 1; omega, hx2⟩
theorem news_sl {q : ET} {l : List q.T} {t : Bool} {u : Value} (hu : SlR S w q l t u) : ∃ news, News T w u l.length q.size news ∧ ∀ (F : CellF) (k : Nat), (∀ j v, news[j]? = some v → F (k + j) = some v) → RunR S w q l F k := by
  obtain ⟨ba, cap, rfl, _, _, hl⟩ := hu
  by_cases hne : l = []
  · subst hne
    exact ⟨[], ⟨⟨ba, cap, rfl, .inl rfl⟩, by simp, by simp⟩, fun F k _ i x hx => by simp at hx⟩
  · obtain ⟨b, og, rfl, hr, hs⟩ := hl hne
    obtain ⟨cs, h1, h2, h3, h4⟩ := cells_list (run_one hr)
    refine ⟨cs, ⟨⟨_, cap, rfl, h2⟩, h1, h4⟩, fun F k hF => hr.move fun j hj => ?_⟩
    have := h3 j hj
    cases hc : cs[j]? with
    | none => rw [List.getElem?_eq_none_iff] at hc; omega
    | some v => rw [hF j v hc, ← this, hc]
theorem news_slg {vs : List AV} {t : Bool} {u : Value} (hone : vs.all oneCell = true) (hu : Rel T.P S w (.slg vs t) L u) : ∃ news, News T w u vs.length 1 news ∧ ∀ (F : CellF) (k : Nat), (∀ j v, news[j]? = some v → F (k + j) = some v) → Cont T.P S w vs noLoc F k := by
  simp only [Rel] at hu
  obtain ⟨hsg, ba, cap, rfl, _, _, hl⟩ := hu
  by_cases hne : vs = []
  · subst hne
    exact ⟨[], ⟨⟨ba, cap, rfl, .inl rfl⟩, by simp, by simp⟩, fun F k _ => by simp only [Cont]⟩
  · obtain ⟨b, og, rfl, hr, hs⟩ := hl hne
    have hcs := contSize_single hsg
    have hok : cellsOK vs = true := by
      unfold cellsOK
      rw [List.all_eq_true]
      intro v hv
      have h1 := List.all_eq_true.1 hone v hv
      cases v <;> first | rfl | exact h1
    obtain ⟨cs, h1, h2, h3, h4⟩ := cells_list (w := w) (b := b) (k := og) (n := vs.length) fun i hi => cells_one hok hr i (by omega)
    refine ⟨cs, ⟨⟨_, cap, rfl, h2⟩, by rw [h1]; simp, h4⟩, fun F k hF => cont_move hr fun j hj => ?_⟩
    have := h3 j (by omega)
    cases hc : cs[j]? with
    | none => rw [List.getElem?_eq_none_iff] at hc; omega
    | some v => rw [hF j v hc, ← this, hc]
structure Joined (T : Tab) (S : Stab) (w : World) (e : TypeId) (c c' : List AV) (n : Nat) (news : List Value) (L0 : Loc) : Prop where
  pos : 0 < szOf T.P e
  z : ∀ k, k < c'.length → zAt c' k = szOf T.P e
  z0 : c' = [] → szOf T.P e = 1
  zc : zAt c 0 = szOf T.P e
  size : contSize c' = contSize c + n * szOf T.P e
  nil : (c' = [] ∨ ∃ e, c' = [.run e []]) ∨ 0 < contSize c'
  cont : ∀ (F : CellF), Cont T.P S w c L0 F 0 → (∀ j v, news[j]? = some v → F (contSize c + j) = some v) → Cont T.P S w c' L0 F 0
theorem elemOK_run {e : TypeId} {q : ET} {l : List q.T} (h : elemOK T.P e [.run q l] = true) : szOf T.P e = q.size ∧ ∃ z, zeroT T.P e = some z := by
  unfold elemOK at h
  simp only [Bool.and_eq_true, decide_eq_true_eq] at h
  exact ⟨h.1, Option.isSome_iff_exists.1 h.2⟩
theorem elemOK_single {e : TypeId} {c : List AV} (hs : c.all single = true) (h : elemOK T.P e c = true) : szOf T.P e = 1 ∧ ∃ z, zeroT T.P e = some z := by
  unfold elemOK at h
  simp only [Bool.and_eq_true] at h
  refine ⟨?_, Option.isSome_iff_exists.1 h.2⟩
  have h1 := h.1
  split at h1
  · simp [single] at hs
  · simpa using h1
theorem joined_spec {c c' : List AV} {y : AV} {u : Value} {e : TypeId} (hj : joined c y = some c') (hel : elemOK T.P e c = true) (hy : Rel T.P S w y L u) :
    ∃ news, News T w u (slLen y) (szOf T.P e) news ∧ (∀ L0, Joined T S w e c c' (slLen y) news L0) ∧ ∃ z, zeroT T.P e = some z := by
  unfold joined at hj
  split at hj
  · rename_i e' l' tt
    split at hj
    · split at hj
      · rename_i he
        have he := of_decide_eq_true he
        injection hj with hj
        subst hj
        obtain ⟨h1, hz⟩ := elemOK_single (c := []) rfl hel
        simp only [Rel] at hy
        obtain ⟨news, n1, n2⟩ := news_sl (T := T) hy
        refine ⟨news, by rw [h1, ← he]; exact n1, fun L' => ⟨by omega, fun k hk => ?_, fun h => absurd h (by simp), by rw [h1]; rfl, ?_, ?_, fun F hc hF => ?_⟩, hz⟩
        · simp at hk; subst hk; rw [h1]; simpa [zAt] using he
        · simp [contSize, segSize, h1, slLen, he]
        · by_cases h0 : l' = []
          · rw [h0]; exact .inl (.inr ⟨e', rfl⟩)
          · refine .inr ?_
            simp only [contSize, segSize, Nat.add_zero]
            exact Nat.mul_pos (by rcases Nat.eq_zero_or_pos l'.length with h | h
                                  · exact absurd (List.eq_nil_of_length_eq_zero h) h0
                                  · exact h) (size_pos e')
        · exact cont_of_run (n2 F _ (fun j v hj => by have := hF j v hj; simpa [contSize] using this))
      · cases hj
    · rename_i q l
      split at hj
      · rename_i x hx
        injection hj with hj
        subst hj
        obtain ⟨h1, hz⟩ := elemOK_run hel
        obtain ⟨c1, c2, c3⟩ := castL_spec hx
        simp only [Rel] at hy
        obtain ⟨news, n1, n2⟩ := news_sl (T := T) hy
        refine ⟨news, by rw [h1, c1]; exact n1, fun L' => ⟨by rw [h1]; exact size_pos q, fun k hk => ?_, fun h => absurd h (by simp), by rw [h1]; simp [zAt], ?_, ?_, fun F hc hF => ?_⟩, hz⟩
        · simp at hk; subst hk; rw [h1]; simp [zAt]
        · simp only [contSize, segSize, List.length_append, h1, slLen, Nat.add_mul, c2]; omega
        · by_cases h0 : l ++ x = []
          · rw [h0]; exact .inl (.inr ⟨q, rfl⟩)
          · refine .inr ?_
            simp only [contSize, segSize, Nat.add_zero]
            exact Nat.mul_pos (by rcases Nat.eq_zero_or_pos (l ++ x).length with h | h
                                  · exact absurd (List.eq_nil_of_length_eq_zero h) h0
                                  · exact h) (size_pos q)
        · have hl := cont_run hc
          have hr := c3 S w F (contSize [.run q l]) (n2 F _ hF)
          refine cont_of_run fun i y hi => ?_
          by_cases hlt : i < l.length
          · rw [List.getElem?_append_left hlt] at hi
            exact hl i y hi
          · rw [List.getElem?_append_right (by omega)] at hi
            have := hr (i - l.length) y hi
            simp only [contSize, segSize, Nat.add_zero] at this
            rw [← Nat.add_mul] at this
            rw [Nat.zero_add]
            have e2 : l.length + (i - l.length) = i := by omega
            rw [e2] at this; exact this
      · cases hj
    · cases hj
  · rename_i vs tt
    split at hj
    · rename_i hcond
      injection hj with hj
      subst hj
      simp only [Bool.and_eq_true] at hcond
      obtain ⟨h1, hz⟩ := elemOK_single hcond.1 hel
      have hsc : ∀ v ∈ c, single v = true := List.all_eq_true.1 hcond.1
      have hsv : ∀ v ∈ vs, single v = true := fun v hv => by
        have := List.all_eq_true.1 hcond.2 v hv
        cases v <;> first | rfl | (simp [oneCell] at this)
      have hall : ∀ v ∈ c ++ vs, single v = true := fun v hv => by
        rcases List.mem_append.1 hv with h | h
        · exact hsc v h
        · exact hsv v h
      obtain ⟨news, n1, n2⟩ := news_slg hcond.2 hy
      refine ⟨news, by rw [h1]; exact n1, fun L' => ⟨by omega, fun k hk => by rw [h1]; exact zAt_single hall, fun _ => h1, by rw [h1]; exact zAt_single hsc, ?_, ?_, fun F hc hF => ?_⟩, hz⟩
      · rw [contSize_append, contSize_single hsv, h1]; simp [slLen]
      · cases hcv : c ++ vs with
        | nil => exact .inl (.inl rfl)
        | cons v l =>
          refine .inr ?_
          rw [← hcv, contSize_single hall, hcv]
          simp
      · rw [cont_append]
        refine ⟨hc, ?_⟩
        rw [Nat.zero_add]
        exact (n2 F _ hF).mono (fun _ _ h => h) (fun _ _ _ => rfl) _ (noLoc_le _) (fun _ _ => rfl)
    · cases hj
  · cases hj
end
end Go.Ev
namespace Go.Ev
open Go
set_option linter.unusedVariables false
set_option linter.unusedSimpArgs false
section
variable {T : Tab} {S : Stab} {w : World} {L : Loc} {h : Hs} {ids : List Nat} {a : Act} {o : Oper} {fr : Fr}
theorem szOf_info {P : Program} {e : TypeId} {i : TypeInfo} (hi : P.info? e = some i) : szOf P e = i.size := by simp [szOf, Program.cellsOf, hi]
theorem St.grown {t e ty : TypeId} {u uy : Value} {c c' zc : List AV} {news olds : List Value} {n sLen sCap i : Nat} {rest : List Nat} {base : Option Addr} {lo fz : Bool} {kn : Option (Nat × Bool)}
    (hst : St T S w L h (i :: rest)) (ht : T.P.underlying t = some (.slice e)) (hz : zeroT T.P e = some zc)
    (hu : u = .slice base sLen sCap) (hold : CellsAt w base olds) (hol : olds.length = sLen * szOf T.P e) (hcs : contSize c = sLen * szOf T.P e)
    (hcc : ∀ F : CellF, (∀ j v, olds[j]? = some v → F j = some v) → Cont T.P S w c (lOf lo L) F 0)
    (hn : News T w uy n (szOf T.P e) news) (hj : Joined T S w e c c' n news (lOf lo L)) (hg : sCap < sLen + n) (hroom : room (sLen + n) (T.P.bytesOf e) = true) :
    ∃ cap L' w', (Builtin.append_ #[t, t] ty #[u, uy]).run T.P w = .ok (.slice (some ⟨w.heap.size, 0, none⟩) (sLen + n) cap) w' ∧
      Rel T.P S w' (.os i 0 0 (sLen + n) true false true) L' (.slice (some ⟨w.heap.size, 0, none⟩) (sLen + n) cap) ∧ St T S w' L' (upd h i (some { c := c', vr := false, ty := e, fz := fz, loose := lo, kin := kn })) rest ∧ Ext w S L w' S L' := by
  obtain ⟨ti, z, hi, hzz, hzs, hzc, _⟩ := zeroT_spec hz
  have hsz := szOf_info hi
  obtain ⟨yb, yc, huy, hyc⟩ := hn.val
  have hnl := hn.len
  rw [hsz] at hol hnl
  have hb := room_le hroom
  have hnn := room_n hroom
  rw [bytesOf_info hi] at hb
  subst hu
  subst huy
  have hrun := run_append_new (P := T.P) (w := w) t ty e ti z ht hi hzz base sLen sCap olds hol hold yb n yc news hnl hyc hg (by omega) hb
  have hge := grownCap_ge w (sLen + n) sCap e
  generalize hcap : grownCap w (sLen + n) sCap e = cap at hrun hge
  have hzsz : z.cells.size = ti.size := by rw [hzs, hzc]
  have hmul : (sLen + n) * ti.size + (cap - (sLen + n)) * ti.size = cap * ti.size := by rw [← Nat.add_mul]; congr 1; omega
  have harr : (olds.toArray ++ news.toArray ++ Builtin.zeroCells z.cells (cap - (sLen + n))).size = cap * ti.size := by
    rw [Array.size_append, Array.size_append, size_zeroCells, hzsz, List.size_toArray, List.size_toArray, hol, hnl, ← hmul, Nat.add_mul]
  have hget1 : ∀ (j : Nat) v, olds[j]? = some v → (olds.toArray ++ news.toArray ++ Builtin.zeroCells z.cells (cap - (sLen + n)))[j]? = some v := by
    intro j v hv
    have := lt_of_get hv
    rw [Array.getElem?_append_left (by simp; omega), Array.getElem?_append_left (by simpa using this)]
    simpa using hv
  have hget2 : ∀ (j : Nat) v, news[j]? = some v → (olds.toArray ++ news.toArray ++ Builtin.zeroCells z.cells (cap - (sLen + n)))[contSize c + j]? = some v := by
    intro j v hv
    have := lt_of_get hv
    have e1 : contSize c = olds.length := by rw [hcs, hol, hsz]
    rw [e1, Array.getElem?_append_left (by simp; omega), Array.getElem?_append_right (by simp)]
    simpa using hv
  have hcont := hj.cont (fun j => (olds.toArray ++ news.toArray ++ Builtin.zeroCells z.cells (cap - (sLen + n)))[j]?) (hcc _ hget1) hget2
  have hsize : contSize c' = (sLen + n) * ti.size := by rw [hj.size, hcs, hsz, Nat.add_mul]
  obtain ⟨e1, e2⟩ := hst.newRow (w' := w.drew.alloc (.cells (olds.toArray ++ news.toArray ++ Builtin.zeroCells z.cells (cap - (sLen + n))) e)) (row := { c := c', vr := false, ty := e, fz := fz, loose := lo, kin := kn }) (bt := e)
    (arr := olds.toArray ++ news.toArray ++ Builtin.zeroCells z.cells (cap - (sLen + n))) (z := szOf T.P e) rfl rfl rfl rfl hcont (by rw [harr]; simp only [hsize]; omega) hj.z ⟨hj.pos, hj.z0⟩ (fun h => by cases h)
  refine ⟨cap, _, _, hrun, ?_, e1, e2⟩
  simp only [Rel, OsR]
  rw [setL_same]
  refine ⟨_, cap, rfl, fun _ => by simp [contSize], hge, fun h => by simp at h, ?_, ?_, fun _ => ⟨trivial, trivial, rfl, ?_, ?_⟩, fun _ => ?_⟩
  · simp only [harr, hsz, contSize, List.take_zero]; omega
  · simp only [hsize, hsz, contSize, List.take_zero]; omega
  · simp only [hsize, hsz]
  · simp only [harr, hsz]
  · have := Nat.mul_le_mul_right (szOf T.P e) hge
    simp only [hsize, hsz, contSize, List.take_zero]; omega
theorem Joined.small {e : TypeId} {c c' : List AV} {news : List Value} {n : Nat} {L0 : Loc} (hj : Joined T S w e c c' n news L0) (h0 : contSize c = 0) (hn : n = 0) : c' = [] ∨ ∃ e, c' = [.run e []] := by
  rcases hj.nil with h | h
  · exact h
  · have := hj.size
    subst hn
    rw [h0] at this
    omega
theorem St.keptNil {t e ty : TypeId} {uy : Value} {c' zc : List AV} {news : List Value} {i : Nat} {rest : List Nat} {base : Option Addr} {lo fz : Bool} {kn : Option (Nat × Bool)} (hst : St T S w L h (i :: rest)) (ht : T.P.underlying t = some (.slice e)) (hz : zeroT T.P e = some zc)
    (hn : News T w uy 0 (szOf T.P e) news) (hnil : c' = [] ∨ ∃ e, c' = [.run e []]) :
    ∃ L', (Builtin.append_ #[t, t] ty #[.slice base 0 0, uy]).run T.P w = .ok (.slice base 0 0) w ∧ Rel T.P S w (.os i 0 0 0 true false true) L' (.slice base 0 0) ∧
      St T S w L' (upd h i (some { c := c', vr := false, ty := e, fz := fz, loose := lo, kin := kn })) rest ∧ Ext w S L w S L' := by
  obtain ⟨ti, z, hi, hzz, hzs, hzc, _⟩ := zeroT_spec hz
  obtain ⟨yb, yc, huy, hyc⟩ := hn.val
  have hnl := hn.len
  have hnews : news = [] := List.eq_nil_of_length_eq_zero (by rw [hnl]; simp)
  subst hnews
  subst huy
  obtain ⟨h1, h2, h3⟩ := hst.nil (row := { c := c', vr := false, ty := e, fz := fz, loose := lo, kin := kn }) hnil
  refine ⟨_, run_append_stay (P := T.P) t ty e ti ht hi base 0 0 yb 0 yc [] (by simp) hyc (by omega) w ?_, ?_, h1, h3⟩
  · cases base with
    | none => rfl
    | some b => simp [Stored, storeCells]
  · simp only [Rel, OsR]
    rw [setL_same]
    exact ⟨trivial, trivial, trivial, base, rfl⟩
theorem St.stayed {t e ty : TypeId} {uy : Value} {c' zc : List AV} {news : List Value} {r i n len cap : Nat} {rest : List Nat} {row : Row} {p : Place} {base : Option Addr} {lo : Bool} (hlo : row.loose = true → lo = true) (hst : St T S w L h (i :: rest)) (ht : T.P.underlying t = some (.slice e)) (hz : zeroT T.P e = some zc)
    (hr : h r = some row) (hl : L r = some (some p)) (hsole : Sole L h r p) (hbase : cap ≠ 0 → base = some ⟨p.b, 0, none⟩) (hpz : p.z = szOf T.P e) (hw : len * p.z = p.w) (hc : cap * p.z = p.n) (hlc : len ≤ cap)
    (hn : News T w uy n (szOf T.P e) news) (hj : Joined T S w e row.c c' n news (lOf lo L)) (hg : len + n ≤ cap) :
    ∃ L' w', (Builtin.append_ #[t, t] ty #[.slice base len cap, uy]).run T.P w = .ok (.slice base (len + n) cap) w' ∧ Rel T.P S w' (.os i 0 0 (len + n) true false true) L' (.slice base (len + n) cap) ∧
      St T S w' L' (upd (upd h i (some { c := c', vr := false, ty := e, fz := row.fz, loose := lo, kin := some (r, true) })) r (some { row with kin := some (i, false) })) rest ∧ Ext w S L w' S L' := by
  obtain ⟨ti, z, hi, hzz, hzs, hzc, _⟩ := zeroT_spec hz
  have hsz := szOf_info hi
  obtain ⟨yb, yc, huy, hyc⟩ := hn.val
  have hnl := hn.len
  subst huy
  have hok := hst.row hr hl
  obtain ⟨arr, bt, hb, hsa, hcr⟩ := hok.blk
  have hcs : contSize row.c = len * szOf T.P e := by rw [hok.size, ← hw, hpz]
  have hsize : contSize c' = (len + n) * szOf T.P e := by rw [hj.size, hcs, Nat.add_mul]
  have hmul : (len + n) * szOf T.P e ≤ cap * szOf T.P e := Nat.mul_le_mul_right _ hg
  have hcn : cap * szOf T.P e = p.n := by rw [← hpz]; exact hc
  have key : ∃ w' arr', Stored T.P w w' news.toArray (base.map fun b => b.add (len * ti.size)) ∧ Wr w w' p.b arr arr' bt ∧ (∀ k, arr'[k]? = if len * szOf T.P e ≤ k ∧ k < len * szOf T.P e + news.length then news[k - len * szOf T.P e]? else arr[k]?) := by
    by_cases h0 : cap = 0
    · have hn0 : n = 0 := by omega
      subst hn0
      have hnews : news = [] := List.eq_nil_of_length_eq_zero (by rw [hnl]; simp)
      subst hnews
      refine ⟨w, arr, ?_, Wr.refl hb, fun k => by rw [if_neg (by rw [List.length_nil]; omega)]⟩
      cases base with
      | none => rfl
      | some b => simp [Stored, storeCells]
    · have hb0 := hbase h0
      subst hb0
      obtain ⟨w', arr', k1, k2, k3⟩ := run_storeCells_row (P := T.P) (q := len * szOf T.P e) (vs := news) hb (by rw [hnl, hsa, ← hcn, ← Nat.add_mul]; exact hmul) hn.one
      refine ⟨w', arr', ?_, k2, k3⟩
      simp only [Stored, Option.map, addr_add, Nat.zero_add]
      rw [← hsz]
      exact k1
  obtain ⟨w', arr', k1, k2, k3⟩ := key
  have hrun := run_append_stay (P := T.P) t ty e ti ht hi base len cap yb n yc news (by rw [hnl, hsz]) hyc hg w' k1
  have hcont := hj.cont (fun j => arr'[j]?) (hcr.mono (fun _ _ h => h) (fun _ _ _ => rfl) _ (lOf_or hlo L) (fun k hk => by
      simp only [Nat.zero_add]
      rw [k3 k, if_neg (by omega)])) (fun j v hv => by
      have := lt_of_get hv
      simp only [hcs]
      rw [k3, if_pos (by omega), ← hv]
      congr 1; omega)
  obtain ⟨st, ex⟩ := hst.inplace (row' := { c := c', vr := false, ty := e, fz := row.fz, loose := lo, kin := some (r, true) }) hr hl hsole k2 (fun q hq => by rw [k3 q, if_neg (by rw [← hok.size, hcs] at hq; omega)]) hcont
    (by simp only [hsize]; omega) (by simp only [hsize, ← hw, hpz]; exact Nat.mul_le_mul_right _ (by omega)) (fun s hs => by rw [hpz]; exact hj.z s hs) (fun h => by rw [hpz]; exact hj.z0 h) rfl rfl rfl
  refine ⟨_, w', hrun, ?_, st, ex⟩
  simp only [Rel, OsR]
  rw [setL_same]
  refine ⟨_, cap, rfl, fun h => by rw [hbase h]; simp [contSize], hg, fun h => by simp at h, ?_, ?_, fun _ => ⟨trivial, trivial, rfl, ?_, hc⟩, fun _ => ?_⟩
  · simp only [contSize, List.take_zero, hc]; omega
  · simp only [contSize, List.take_zero, hsize, hpz]; omega
  · simp only [hsize, hpz]
  · have := Nat.mul_le_mul_right p.z hg
    simp only [contSize, List.take_zero, hsize, ← hpz]; omega
section ops
variable {Q : AV → Hs → List Nat → Prop}
theorem post_appended {y : AV} {uy : Value} {Q : AV → Hs → List Nat → Prop} (hst : St T S w L h ids) (hy : Rel T.P S w y L uy) (hp : (appended y).post h ids Q) :
    ∃ y' h' S', Q y' h' ids ∧ St T S' w L h' ids ∧ Ext w S L w S' L ∧ Rel T.P S' w y' L uy := by
  unfold appended at hp
  split at hp
  · obtain ⟨v', h', S', hq, h1, h2, h3, _⟩ := post_normF hst hy hp
    exact ⟨v', h', S', hq, h1, h2, h3.mono (fun _ _ h => h) (fun _ _ _ => rfl) _ (noLoc_le _)⟩
  · exact ⟨_, h, S, hp, hst, Ext.refl _ _ _, hy⟩
def AppRes (T : Tab) (S : Stab) (w : World) (L : Loc) (t ty : TypeId) (u uy : Value) (Q : AV → Hs → List Nat → Prop) : Prop :=
  ∃ v' h' ids' S' L' w' x', Q v' h' ids' ∧ (Builtin.append_ #[t, t] ty #[u, uy]).run T.P w = .ok x' w' ∧ Rel T.P S' w' v' L' x' ∧ St T S' w' L' h' ids' ∧ Ext w S L w' S' L'
theorem St.killW {r id : Nat} {rest : List Nat} {row : Row} {X : Option Row} (hst : St T S w L h (id :: rest)) (hr : h r = some row) (hk : ∃ old, upd (killed h row) id X r = some old) :
    St T S w L (killed h row) (id :: rest) ∧ killed h row r = some row ∧ ∀ p, L r = some (some p) → Sole L (killed h row) r p := by
  have hne : r ≠ id := by
    rintro rfl
    have := hst.dom r (hst.fresh r (.inl (by simp)))
    rw [hr] at this; cases this
  rw [upd_ne _ _ hne] at hk
  exact hst.kill hr hk
theorem AppRes.fin2 {t ty : TypeId} {u uy : Value} {i r : Nat} {rest : List Nat} {h2 : Hs} {row' row2 : Row} {v' : AV} (hq : Q v' (upd (upd h2 i (some row')) r (some row2)) rest) (hr : ∃ x' L' w', (Builtin.append_ #[t, t] ty #[u, uy]).run T.P w = .ok x' w' ∧ Rel T.P S w' v' L' x' ∧ St T S w' L' (upd (upd h2 i (some row')) r (some row2)) rest ∧ Ext w S L w' S L') : AppRes T S w L t ty u uy Q := by
  obtain ⟨x', L', w', k1, k2, k3, k4⟩ := hr
  exact ⟨_, _, _, _, _, _, _, hq, k1, k2, k3, k4⟩
theorem AppRes.fin {t ty : TypeId} {u uy : Value} {i : Nat} {rest : List Nat} {h2 : Hs} {row' : Row} {v' : AV} (hq : Q v' (upd h2 i (some row')) rest) (hr : ∃ x' L' w', (Builtin.append_ #[t, t] ty #[u, uy]).run T.P w = .ok x' w' ∧ Rel T.P S w' v' L' x' ∧ St T S w' L' (upd h2 i (some row')) rest ∧ Ext w S L w' S L') :
    AppRes T S w L t ty u uy Q := by
  obtain ⟨x', L', w', e1, e2, e3, e4⟩ := hr
  exact ⟨_, _, _, S, L', w', x', hq, e1, e2, e3, e4⟩
theorem run_whole {e t ty : TypeId} {u uy : Value} {r len id n : Nat} {tight full lo : Bool} {row : Row} {c' zc : List AV} {news : List Value} {rest : List Nat} (hst1 : St T S w L h (id :: rest)) (ht : T.P.underlying t = some (.slice e)) (hz : zeroT T.P e = some zc)
    (hx1 : Rel T.P S w (.os r 0 0 len true tight full) L u) (hrow : h r = some row) (hsole : ∀ p, L r = some (some p) → Sole L h r p) (hlo : row.loose = true → lo = true) (hn : News T w uy n (szOf T.P e) news) (hj : Joined T S w e row.c c' n news (lOf lo L)) (hroom : room (len + n) (T.P.bytesOf e) = true) :
    ∃ x' L' w', (Builtin.append_ #[t, t] ty #[u, uy]).run T.P w = .ok x' w' ∧ Rel T.P S w' (.os id 0 0 (len + n) true false true) L' x' ∧ St T S w' L' (upd (upd h id (some { c := c', vr := false, ty := e, fz := row.fz, loose := lo, kin := some (r, true) })) r (some { row with kin := some (id, false) })) rest ∧ Ext w S L w' S L' := by
  have hre := hst1.rekin hrow hsole (some (id, false))
  have hne : id ≠ r := by
    rintro rfl
    have := hst1.dom id (hst1.fresh id (.inl (by simp)))
    rw [hrow] at this; cases this
  have hcomm : ∀ X : Option Row, upd (upd h r (some { row with kin := some (id, false) })) id X = upd (upd h id X) r (some { row with kin := some (id, false) }) := by
    intro X
    funext x
    by_cases e1 : x = id
    · subst e1; rw [upd_same, upd_ne _ _ hne, upd_same]
    · rw [upd_ne _ _ e1]
      by_cases e2 : x = r
      · subst e2; rw [upd_same, upd_same]
      · rw [upd_ne _ _ e2, upd_ne _ _ e2, upd_ne _ _ e1]
  rw [← hcomm]
  simp only [Rel] at hx1
  have hx2 := hx1
  unfold OsR at hx1
  split at hx1
  · exact hx1.elim
  · rename_i hl
    obtain ⟨rfl, _, _, ba, rfl⟩ := hx1
    have hnil : NilOK row := by
      rcases hst1.inv.rows r row hrow with ⟨_, h2⟩ | ⟨p, h2, _⟩
      · exact h2
      · rw [hl] at h2; cases h2
    have hc0 : contSize row.c = 0 := by rcases hnil with h | ⟨e, h⟩ <;> rw [h] <;> simp [contSize, segSize]
    rcases Nat.eq_zero_or_pos (n) with h0 | hpos
    · have hsm := (hj).small hc0 h0
      rw [h0] at hn ⊢
      obtain ⟨L', k1, k2, k3, k4⟩ := St.keptNil (ty := ty) (base := ba) (lo := lo) (fz := row.fz) (kn := some (r, true)) hre ht hz hn hsm
      exact ⟨_, L', w, k1, k2, k3, k4⟩
    · obtain ⟨cap, L', w', k1, k2, k3, k4⟩ := St.grown (ty := ty) (lo := lo) (fz := row.fz) (kn := some (r, true)) (olds := []) (base := ba) (sLen := 0) (sCap := 0) (n := n) hre ht hz rfl (.inl rfl) (by simp) (by rw [hc0]; simp) (fun F _ => by
          rcases hnil with h | ⟨e, h⟩
          · rw [h]; simp only [Cont]
          · rw [h]; exact cont_of_run (fun i x hx => by simp at hx)) hn hj (by omega) hroom
      exact ⟨_, L', w', k1, k2, k3, k4⟩
  · rename_i p hl
    obtain ⟨ba, cap, rfl, q1, q2, q3, q4, q5, q6, _⟩ := hx1
    obtain ⟨_, _, q7, q8, q9⟩ := q6 rfl
    have hok := hst1.row hrow hl
    have hpz : p.z = szOf T.P e := by
      rw [← (hj).zc]
      by_cases hcn : row.c = []
      · rw [hok.zp.2 hcn, hcn]; rfl
      · exact (hok.zz 0 (by rcases Nat.eq_zero_or_pos row.c.length with h | h
                            · exact absurd (List.eq_nil_of_length_eq_zero h) hcn
                            · exact h)).symm
    by_cases hg : len + n ≤ cap
    · obtain ⟨L', w', k1, k2, k3, k4⟩ := St.stayed (ty := ty) (base := ba) (lo := lo) hlo hst1 ht hz hrow hl (hsole p hl) (fun h => by rw [q1 h, q7]; simp) hpz q8 q9 q2 hn hj hg
      rw [← hcomm] at k3
      exact ⟨_, L', w', k1, k2, k3, k4⟩
    · obtain ⟨arr, bt, hb, hsa, hcr⟩ := hok.blk
      have hcs : contSize row.c = len * szOf T.P e := by rw [hok.size, ← q8, hpz]
      have hlen : (arr.toList.take (contSize row.c)).length = contSize row.c := by
        have := hok.le; have := hok.size; simp; omega
      obtain ⟨cap', L', w', k1, k2, k3, k4⟩ := St.grown (ty := ty) (lo := lo) (fz := row.fz) (kn := some (r, true)) (olds := arr.toList.take (contSize row.c)) (base := ba) (sLen := len) (sCap := cap) hre ht hz rfl (by
          by_cases hcap : cap = 0
          · refine .inl ?_
            have : len = 0 := by omega
            subst this
            rw [hcs]; simp
          · refine .inr ⟨_, q1 hcap, fun j v hj' => ?_⟩
            rw [q7, addr_add, cell_of_row w _ _ arr bt _ hb]
            have hjl := lt_of_get hj'
            rw [hlen] at hjl
            rw [List.getElem?_take_of_lt hjl] at hj'
            simpa using hj') (by rw [hlen, hcs]) hcs (fun F hF => hcr.mono (fun _ _ h => h) (fun _ _ _ => rfl) _ (lOf_or hlo L) fun k hk => by
            rw [Nat.zero_add]
            have hkl : k < arr.size := by have := hok.le; have := hok.size; omega
            have h1 : (arr.toList.take (contSize row.c))[k]? = some arr[k] := by
              rw [List.getElem?_take_of_lt hk, Array.getElem?_toList, Array.getElem?_eq_getElem hkl]
            rw [hF k _ h1, Array.getElem?_eq_getElem hkl]) hn hj (by omega) hroom
      exact ⟨_, L', w', k1, k2, k3, k4⟩
theorem run_appWhole {e t ty : TypeId} {y' : AV} {u uy : Value} {r s i len : Nat} {tight full : Bool} (hst1 : St T S w L h ids) (ht : T.P.underlying t = some (.slice e)) (hx1 : Rel T.P S w (.os r s i len true tight full) L u) (hy1 : Rel T.P S w y' L uy) (hp1 : (appWhole T e r len y').post h ids Q) :
    AppRes T S w L t ty u uy Q := by
  unfold appWhole at hp1
  simp only [HP.post] at hp1
  obtain ⟨row, hrow, hp1⟩ := hp1
  split at hp1
  · rename_i c' hel hjo
    simp only [HP.post] at hp1
    obtain ⟨hroom, hp1⟩ := hp1
    obtain ⟨news, hn, hj, zc, hz⟩ := joined_spec hjo hel hy1
    unfold growR at hp1
    have hp1 := post_killKin hp1
    cases ids with
    | nil => exact hp1.elim
    | cons id rest =>
      simp only [HP.post] at hp1
      obtain ⟨hk, hp1⟩ := hp1
      obtain ⟨g1, g2, g3⟩ := hst1.killW hrow hk
      have hsi : s = 0 ∧ i = 0 := by
        have hx2 := hx1
        simp only [Rel] at hx2
        unfold OsR at hx2
        split at hx2
        · exact hx2.elim
        · exact ⟨hx2.2.2.1, hx2.2.1⟩
        · obtain ⟨_, _, _, _, _, _, _, _, q6, _⟩ := hx2
          exact ⟨(q6 rfl).1, (q6 rfl).2.1⟩
      obtain ⟨rfl, rfl⟩ := hsi
      exact AppRes.fin2 hp1 (run_whole g1 ht hz hx1 g2 g3 (fun h => h) hn (hj _) hroom)
  · exact hp1.elim
theorem news_os {ry sy ly : Nat} {a b c : Bool} {rowy : Row} {uy : Value} (hst : St T S w L h ids) (hy : Rel T.P S w (.os ry sy 0 ly a b c) L uy) (hrow : h ry = some rowy) (hh : handy rowy.c sy = true) :
    (∀ v ∈ (rowy.c.drop sy).take ly, single v = true) ∧ ((rowy.c.drop sy).take ly).length = ly ∧ ∃ news, News T w uy ly 1 news ∧ ∀ (F : CellF) (k : Nat), (∀ j v, news[j]? = some v → F (k + j) = some v) → Cont T.P S w ((rowy.c.drop sy).take ly) (lOf rowy.loose L) F k := by
  have hone : rowy.c.all oneCell = true ∧ rowy.c ≠ [] ∧ sy ≤ rowy.c.length := by
    unfold handy at hh
    split at hh
    · cases hh
    · rename_i hne
      rw [Bool.and_eq_true, Nat.ble_eq] at hh
      exact ⟨hh.2, hne, hh.1⟩
  have hsg : ∀ v ∈ rowy.c, single v = true := fun v hv => by
    have := List.all_eq_true.1 hone.1 v hv
    cases v <;> first | rfl | (simp [oneCell] at this)
  have hcok : cellsOK rowy.c = true := by
    unfold cellsOK
    rw [List.all_eq_true]
    intro v hv
    have := List.all_eq_true.1 hone.1 v hv
    cases v <;> first | rfl | exact this | (simp [oneCell] at this)
  simp only [Rel] at hy
  unfold OsR at hy
  split at hy
  · exact hy.elim
  · rename_i hl
    rcases hst.inv.rows ry rowy hrow with ⟨_, hn⟩ | ⟨p, h2, _⟩
    · rcases hn with hn | ⟨e', hn⟩
      · exact absurd hn hone.2.1
      · rw [hn] at hone; simp [oneCell] at hone
    · rw [hl] at h2; cases h2
  · rename_i p hl
    obtain ⟨ba, cap, rfl, q1, q2, q3, q4, q5, q6, q7⟩ := hy
    have hok := hst.row hrow hl
    obtain ⟨arr, bt, hb, hsa, hcr⟩ := hok.blk
    have hz : p.z = 1 := by
      have h0 : 0 < rowy.c.length := List.length_pos_iff.2 hone.2.1
      rw [← hok.zz 0 h0, zAt_single hsg]
    have hsz := contSize_single hsg
    have hpw := hok.size
    rw [hz] at q4 q5 q1
    simp only [Nat.zero_mul, Nat.add_zero, Nat.mul_one] at q4 q5 q1
    have hsub : ∀ v ∈ (rowy.c.drop sy).take ly, single v = true := fun v hv => hsg v (List.mem_of_mem_drop (List.mem_of_mem_take hv))
    have hs := hone.2.2
    have hlay : p.lay sy = sy := by rw [hok.lay sy hs, contSize_take_single hsg hs]
    rw [hlay] at q4 q5 q1
    have hlen : ((rowy.c.drop sy).take ly).length = ly := by simp; omega
    have hle := hok.le
    obtain ⟨cs, g1, g2, g3, g4⟩ := cells_list (w := w) (b := p.b) (k := sy) (n := ly) (fun i hi => by
      rw [cellsAt_row hb]
      have := cells_one hcok hcr (sy + i) (by omega)
      simpa using this)
    refine ⟨hsub, hlen, cs, ⟨⟨_, cap, rfl, ?_⟩, by rw [g1]; simp, g4⟩, fun F k hF => ?_⟩
    · by_cases hcap : cap = 0
      · exact .inl (List.eq_nil_of_length_eq_zero (by omega))
      · rw [q1 hcap]; exact g2
    · have hc := cont_take_drop (s := sy) (n := ly) hcr
      rw [Nat.zero_add, contSize_take_single hsg hs] at hc
      refine cont_move hc fun j hj => ?_
      rw [contSize_single hsub, hlen] at hj
      have := g3 j hj
      rw [cellsAt_row hb] at this
      cases hcj : cs[j]? with
      | none => rw [List.getElem?_eq_none_iff] at hcj; omega
      | some v => rw [hF j v hcj, ← hcj]; exact this
theorem run_appH {e t ty : TypeId} {x : AV} {u uy : Value} {ry sy ly : Nat} {a b c : Bool} {rowy : Row} (hst : St T S w L h ids) (ht : T.P.underlying t = some (.slice e)) (hx : Rel T.P S w x L u) (hy : Rel T.P S w (.os ry sy 0 ly a b c) L uy) (hrowy : h ry = some rowy) (hh : handy rowy.c sy = true) (hp : (appH T e ((rowy.c.drop sy).take ly) ly x).post h ids Q) :
    AppRes T S w L t ty u uy Q := by
  obtain ⟨hsg, hlen, news, hn, hnc⟩ := news_os hst hy hrowy hh
  unfold appH at hp
  split at hp
  · exact hp.elim
  · rename_i hcond
    simp only [Bool.and_eq_true, decide_eq_true_eq] at hcond
    obtain ⟨hsz, hz⟩ := hcond
    obtain ⟨zc, hz⟩ := Option.isSome_iff_exists.1 hz
    have hj : ∀ (c : List AV), (∀ v ∈ c, single v = true) → Joined T S w e c (c ++ (rowy.c.drop sy).take ly) ly news (lOf true L) := by
      intro c hc
      have hall : ∀ v ∈ c ++ (rowy.c.drop sy).take ly, single v = true := fun v hv => by
        rcases List.mem_append.1 hv with h | h
        · exact hc v h
        · exact hsg v h
      refine ⟨by omega, fun k hk => by rw [hsz]; exact zAt_single hall, fun _ => hsz, by rw [hsz]; exact zAt_single hc, ?_, ?_, fun F hcF hF => ?_⟩
      · rw [contSize_append, contSize_single hsg, hsz, hlen]; simp
      · cases hcv : c ++ (rowy.c.drop sy).take ly with
        | nil => exact .inl (.inl rfl)
        | cons v l =>
          refine .inr ?_
          rw [← hcv, contSize_single hall, hcv]
          simp
      · rw [cont_append]
        refine ⟨hcF, ?_⟩
        rw [Nat.zero_add]
        exact (hnc F _ hF).mono (fun _ _ h => h) (fun _ _ _ => rfl) _ (lOf_or (fun _ => rfl) L) (fun _ _ => rfl)
    split at hp
    · rename_i r len tight full
      simp only [HP.post] at hp
      obtain ⟨row, hrow, hp⟩ := hp
      split at hp
      · rename_i hcs
        simp only [HP.post] at hp
        obtain ⟨hroom, hp⟩ := hp
        unfold growR at hp
        have hp := post_killKin hp
        cases ids with
        | nil => exact hp.elim
        | cons id rest =>
          simp only [HP.post] at hp
          obtain ⟨hk, hp⟩ := hp
          obtain ⟨g1, g2, g3⟩ := hst.killW hrow hk
          exact AppRes.fin2 hp (run_whole g1 ht hz hx g2 g3 (fun _ => rfl) (by rw [hsz]; exact hn) (hj _ (List.all_eq_true.1 hcs)) hroom)
      · exact hp.elim
    · simp only [HP.post, decide_eq_true_eq] at hp
      obtain ⟨hpos, hroom, hp⟩ := hp
      unfold newSl at hp
      cases ids with
      | nil => exact hp.elim
      | cons id rest =>
        simp only [HP.post] at hp
        refine AppRes.fin hp ?_
        simp only [Rel] at hx
        obtain ⟨_, ba, cap, rfl, q1, q2, q3⟩ := hx
        have hcap : cap = 0 := by simpa using q2 trivial
        subst hcap
        have hjj := hj [] (by simp)
        rw [List.nil_append] at hjj
        obtain ⟨cap, L', w', k1, k2, k3, k4⟩ := St.grown (ty := ty) (lo := true) (fz := false) (c := []) (olds := []) (base := ba) (sLen := 0) (sCap := 0) (n := ly) hst ht hz rfl (.inl rfl) (by simp) (by simp [contSize]) (fun F _ => by simp only [Cont]) (by rw [hsz]; exact hn) hjj (by omega) (by rw [Nat.zero_add]; exact hroom)
        rw [Nat.zero_add] at k1 k2
        exact ⟨_, L', w', k1, k2, k3, k4⟩
    · exact hp.elim
theorem run_appPart {e t ty : TypeId} {y' : AV} {u uy : Value} {r s i len : Nat} {tight full : Bool} (hst1 : St T S w L h ids) (ht : T.P.underlying t = some (.slice e)) (hx1 : Rel T.P S w (.os r s i len false tight full) L u) (hy1 : Rel T.P S w y' L uy) (hp1 : (appPart T e r s i len tight y').post h ids Q) :
    AppRes T S w L t ty u uy Q := by
  unfold appPart at hp1
  simp only [HP.post, decide_eq_true_eq] at hp1
  obtain ⟨htight, hpos, row, hrow, hp1⟩ := hp1
  split at hp1
  · exact hp1.elim
  · rename_i hlo
    rw [HP.post_bind] at hp1
    unfold part at hp1
    simp only at hp1
    split at hp1
    · rename_i e' l hs
      simp only [HP.post, decide_eq_true_eq] at hp1
      obtain ⟨hil, hp1⟩ := hp1
      split at hp1
      · rename_i c' hel hjo
        simp only [HP.post] at hp1
        obtain ⟨hroom, hp1⟩ := hp1
        obtain ⟨news, hn, hj, zc, hz⟩ := joined_spec hjo hel hy1
        have hsz := (elemOK_run hel).1
        have hdt : dropTake l i len = (l.drop i).take len := by cases i <;> rfl
        have hdl : (dropTake l i len).length = len := by rw [hdt]; simp; omega
        unfold newSl at hp1
        cases ids with
        | nil => exact hp1.elim
        | cons id rest =>
          simp only [HP.post] at hp1
          refine AppRes.fin hp1 ?_
          simp only [Rel] at hx1
          unfold OsR at hx1
          split at hx1
          · exact hx1.elim
          · obtain ⟨rfl, rfl, rfl, ba, rfl⟩ := hx1
            obtain ⟨cap, L', w', k1, k2, k3, k4⟩ := St.grown (ty := ty) (lo := false) (fz := false) (olds := []) (base := ba) (sLen := 0) (sCap := 0) (n := slLen y') hst1 ht hz rfl (.inl rfl) (by simp) (by simp [contSize, segSize, dropTake]) (fun F _ => cont_of_run (fun i x hx => by simp [dropTake] at hx)) hn (hj _) (by omega) hroom
            exact ⟨_, L', w', k1, k2, k3, k4⟩
          · rename_i p hl
            obtain ⟨ba, cap, rfl, q1, q2, q3, q4, q5, q6⟩ := hx1
            have hcap := (q3 htight).symm
            subst hcap
            have hok := hst1.row hrow hl
            obtain ⟨arr, bt, hb, hsa, hcr⟩ := hok.blk
            rw [hlo] at hcr
            have hsl := lt_of_get hs
            have hpz : p.z = e'.size := by rw [← hok.zz s hsl]; simp [zAt, hs]
            have hlay := hok.lay s (Nat.le_of_lt hsl)
            have hrun : RunR S w e' l (fun k => arr[k]?) (contSize (row.c.take s)) := by
              have := (cont_get hcr hs).1 e' l rfl
              rwa [Nat.zero_add] at this
            have hrp : RunR S w e' (dropTake l i len) (fun k => arr[k]?) (p.lay s + i * e'.size) := by
              intro k x hk
              rw [hdt] at hk
              have hkl := lt_of_get hk
              simp at hkl
              rw [List.getElem?_take_of_lt (by omega), List.getElem?_drop] at hk
              have := hrun (i + k) x hk
              rw [Nat.add_mul, ← Nat.add_assoc, ← hlay] at this
              exact this
            have hn1 : ∀ k, k < len * e'.size → ∃ u, cellsAt w p.b (p.lay s + i * e'.size + k) = some u ∧ u.oneCell' = true := by
              intro k hk
              rw [cellsAt_row hb]
              exact run_one hrp k (by rw [hdl]; exact hk)
            obtain ⟨cs, g1, g2, g3, _⟩ := cells_list hn1
            obtain ⟨cap', L', w', k1, k2, k3, k4⟩ := St.grown (ty := ty) (lo := false) (fz := false) (olds := cs) (base := ba) (sLen := len) (sCap := len) (n := slLen y') hst1 ht hz rfl (by
                by_cases h0 : len = 0
                · refine .inl (List.eq_nil_of_length_eq_zero ?_)
                  rw [g1, h0]; simp
                · rw [q1 h0, hpz]; exact g2) (by rw [g1, hsz]) (by simp only [contSize, segSize, hdl, hsz]; omega) (fun F hF => cont_of_run (hrp.move fun k hk => by
                  rw [Nat.zero_add]
                  rw [hdl] at hk
                  have h3 := g3 k hk
                  have hg : ∃ v, cs[k]? = some v := by
                    cases hc : cs[k]? with
                    | none => rw [List.getElem?_eq_none_iff] at hc; omega
                    | some v => exact ⟨v, rfl⟩
                  obtain ⟨v, hv⟩ := hg
                  rw [hF k v hv, ← hv, h3, cellsAt_row hb])) hn (hj _) (by omega) hroom
            exact ⟨_, L', w', k1, k2, k3, k4⟩
      · exact hp1.elim
    · split at hp1
      · simp only [HP.post] at hp1
      · exact hp1.elim
    · exact hp1.elim
theorem run_appSl {e t ty : TypeId} {y' : AV} {u uy : Value} {e' : ET} {l : List e'.T} {tight : Bool} (hst1 : St T S w L h ids) (ht : T.P.underlying t = some (.slice e)) (hx1 : Rel T.P S w (.sl e' l tight) L u) (hy1 : Rel T.P S w y' L uy) (hp1 : (appSl T e e' l tight y').post h ids Q) :
    AppRes T S w L t ty u uy Q := by
  unfold appSl at hp1
  simp only [HP.post] at hp1
  obtain ⟨htight, hp1⟩ := hp1
  split at hp1
  · rename_i c' hel hjo
    simp only [HP.post] at hp1
    obtain ⟨hcond, hroom, hp1⟩ := hp1
    obtain ⟨news, hn, hj, zc, hz⟩ := joined_spec hjo hel hy1
    have hsz := (elemOK_run hel).1
    unfold newSl at hp1
    cases ids with
    | nil => exact hp1.elim
    | cons id rest =>
      simp only [HP.post] at hp1
      refine AppRes.fin hp1 ?_
      simp only [Rel] at hx1
      obtain ⟨olds, o1, o2⟩ := news_sl (T := T) hx1
      obtain ⟨ba, cap, rfl, hcells⟩ := o1.val
      have hcap : cap = l.length := by
        obtain ⟨b', cap', hu', _, ht', _⟩ := hx1
        cases hu'
        exact ht' htight
      subst hcap
      rcases Nat.eq_zero_or_pos (slLen y') with h0 | hpos
      · rw [h0] at hcond
        have hl0 : l = [] := by simpa using hcond
        subst hl0
        have hsm := (hj noLoc).small (by simp [contSize, segSize]) h0
        rw [h0] at hn ⊢
        obtain ⟨L', k1, k2, k3, k4⟩ := St.keptNil (ty := ty) (base := ba) (lo := false) (fz := false) hst1 ht hz hn hsm
        exact ⟨_, L', w, k1, k2, k3, k4⟩
      · obtain ⟨cap, L', w', k1, k2, k3, k4⟩ := St.grown (ty := ty) (lo := false) (fz := false) (olds := olds) (base := ba) (sLen := l.length) (sCap := l.length) (n := slLen y') hst1 ht hz rfl hcells (by rw [o1.len, hsz]) (by simp [contSize, segSize, hsz]) (fun F hF => cont_of_run (o2 F 0 (by simpa using hF))) hn (hj _) (by omega) hroom
        exact ⟨_, L', w', k1, k2, k3, k4⟩
  · exact hp1.elim
theorem run_appSlg {e t ty : TypeId} {y' : AV} {u uy : Value} {vs : List AV} {tight : Bool} (hst1 : St T S w L h ids) (ht : T.P.underlying t = some (.slice e)) (hx1 : Rel T.P S w (.slg vs tight) L u) (hy1 : Rel T.P S w y' L uy) (hp1 : (appSlg T e vs tight y').post h ids Q) :
    AppRes T S w L t ty u uy Q := by
  unfold appSlg at hp1
  simp only [HP.post] at hp1
  obtain ⟨htight, hp1⟩ := hp1
  split at hp1
  · rename_i c' hel hjo
    simp only [HP.post] at hp1
    obtain ⟨hcond, hroom, hp1⟩ := hp1
    obtain ⟨news, hn, hj, zc, hz⟩ := joined_spec hjo hel hy1
    have hx2 := hx1
    simp only [Rel] at hx2
    have hall : vs.all single = true := List.all_eq_true.2 hx2.1
    have hsz := (elemOK_single hall hel).1
    unfold newSl at hp1
    cases ids with
    | nil => exact hp1.elim
    | cons id rest =>
      simp only [HP.post] at hp1
      refine AppRes.fin hp1 ?_
      obtain ⟨_, ba, cap, rfl, q1, q2, q3⟩ := hx2
      have hcap := q2 htight
      subst hcap
      rcases Nat.eq_zero_or_pos (slLen y') with h0 | hpos
      · rw [h0] at hcond
        have hl0 : vs = [] := by simpa using hcond
        subst hl0
        have hsm := (hj noLoc).small (by simp [contSize]) h0
        rw [h0] at hn ⊢
        obtain ⟨L', k1, k2, k3, k4⟩ := St.keptNil (ty := ty) (base := ba) (lo := false) (fz := false) hst1 ht hz hn hsm
        exact ⟨_, L', w, k1, k2, k3, k4⟩
      · have holds : ∃ olds, CellsAt w ba olds ∧ olds.length = vs.length * 1 ∧ ∀ F : CellF, (∀ j v, olds[j]? = some v → F j = some v) → Cont T.P S w vs noLoc F 0 := by
          by_cases hne : vs = []
          · subst hne
            exact ⟨[], .inl rfl, rfl, fun F _ => by simp only [Cont]⟩
          · obtain ⟨b, og, rfl, hr, hs⟩ := q3 hne
            have hcs := contSize_single (List.all_eq_true.1 hall)
            obtain ⟨arr, a1, a2, a3⟩ := run_loadCells_at (P := T.P) (w := w) (b := b) (o := og) (n := vs.length) fun k hk => cont_cells hr k (by omega)
            refine ⟨arr.toList, .inr ⟨_, rfl, fun j v hj' => ?_⟩, by simp [a2], fun F hF => cont_move hr fun k hk => ?_⟩
            · have hjl := lt_of_get hj'
              rw [Array.length_toList, a2] at hjl
              rw [Array.getElem?_toList] at hj'
              rw [addr_add, ← hj', a3 j hjl]; rfl
            · have h3 := a3 k (by omega)
              rw [Nat.zero_add]
              have hka : k < arr.size := by omega
              have h4 : arr.toList[k]? = some arr[k] := by rw [Array.getElem?_toList, Array.getElem?_eq_getElem hka]
              rw [hF k _ h4, ← h3, Array.getElem?_eq_getElem hka]
        obtain ⟨olds, o1, o2, o3⟩ := holds
        obtain ⟨cap, L', w', k1, k2, k3, k4⟩ := St.grown (ty := ty) (lo := false) (fz := false) (olds := olds) (base := ba) (sLen := vs.length) (sCap := vs.length) (n := slLen y') hst1 ht hz rfl o1 (by rw [o2, hsz]) (by rw [hsz, contSize_single (List.all_eq_true.1 hall)]; simp) o3 hn (hj _) (by omega) hroom
        exact ⟨_, L', w', k1, k2, k3, k4⟩
  · exact hp1.elim
theorem Rel.osPart {r s i len : Nat} {row : Row} {p : Place} {ba : Option Addr} {cap : Nat} {q : ET} {l : List q.T} (hl : L r = some (some p)) (hok : RowOK T.P S w L row p) (hs : row.c[s]? = some (.run q l))
    (h1 : cap ≠ 0 → ba = some ⟨p.b, p.lay s + i * p.z, none⟩) (h2 : len ≤ cap) (h3 : p.lay s + i * p.z + cap * p.z ≤ p.n) (h4 : i + len ≤ l.length) (h5 : p.w ≤ p.lay s + i * p.z + cap * p.z) :
    OsR L r s i len false false true (.slice ba len cap) := by
  unfold OsR
  rw [hl]
  have hsl := lt_of_get hs
  have hz : p.z = q.size := by rw [← hok.zz s hsl]; simp [zAt, hs]
  have hsp := take_size hs
  have hlay := hok.lay s (Nat.le_of_lt hsl)
  have hpw := hok.size
  refine ⟨ba, cap, rfl, h1, h2, fun h => by simp at h, h3, ?_, fun h => by simp at h, fun _ => h5⟩
  have : (i + len) * q.size ≤ l.length * q.size := Nat.mul_le_mul_right _ h4
  rw [Nat.add_mul] at this
  rw [hz]; omega
theorem run_appIn {e t ty : TypeId} {y : AV} {u uy : Value} {r s i len : Nat} {a b c : Bool} (hst : St T S w L h ids) (ht : T.P.underlying t = some (.slice e)) (habc : a = false ∧ b = false ∧ c = true) (hx : Rel T.P S w (.os r s i len a b c) L u) (hy : Rel T.P S w y L uy) (hp : (appIn T e r s i len y).post h ids Q) :
    AppRes T S w L t ty u uy Q := by
  obtain ⟨rfl, rfl, rfl⟩ := habc
  unfold appIn at hp
  rw [HP.post_bind] at hp
  have hp0 := normOK hst 6 y uy _ hy hp
  clear hp
  obtain ⟨p0, hp, _, hn, _⟩ := hp0
  simp only [HP.post] at hp
  obtain ⟨row, hrow, hp⟩ := hp
  split at hp
  · rename_i q l q' l' tt hfz hs hy1
    split at hp
    · rename_i x hsz hf hx1
      have hsz := of_decide_eq_true hsz
      simp only [HP.post, decide_eq_true_eq] at hp
      obtain ⟨hil, hp⟩ := hp
      have hp := post_killKin hp
      simp only [HP.post] at hp
      obtain ⟨hk, hq⟩ := hp
      obtain ⟨g1, g2, g3⟩ := hst.kill hrow hk
      rw [hy1] at hn
      simp only [Rel] at hn
      obtain ⟨c1, c2, c3⟩ := castL_spec hx1
      have hpos : 0 < q.size := size_pos q
      obtain ⟨ti, hti, htz⟩ := info_of_sz (T := T) (e := e) (by omega)
      obtain ⟨news, o1, o2⟩ := news_sl (T := T) hn
      obtain ⟨xb, xcap, rfl, hcells⟩ := o1.val
      have hnl := o1.len
      have hxr : RunR S w q x (fun k => news[k]?) 0 := by
        exact runR_flat hf (c3 (plus S (cellsOf L p0.2)) w _ 0 (o2 (fun k => news[k]?) 0 (fun j v hj => by simpa using hj)))
      simp only [Rel] at hx
      have hu : ∃ ba cap, u = .slice ba len cap ∧ len + x.length ≤ cap ∧ OsR L r s (i + len) x.length false false false (.slice (ba.map fun b => b.add (len * ti.size)) x.length (cap - len)) ∧
          ∀ row', (∃ l', row'.c[s]? = some (.run q l') ∧ l'.length = l.length) → ∀ p S' w', L r = some (some p) → RowOK T.P S' w' L row' p → OsR L r s i (len + x.length) false false true (.slice ba (len + x.length) cap) := by
        unfold OsR at hx
        split at hx
        · exact hx.elim
        · rename_i hl
          obtain ⟨rfl, rfl, rfl, ba, rfl⟩ := hx
          have hl0 : l.length = 0 := by
            rcases hst.inv.rows r row hrow with ⟨_, hn⟩ | ⟨p, h2, _⟩
            · rcases hn with hn | ⟨e', hn⟩
              · rw [hn] at hs; simp at hs
              · rw [hn] at hs
                simp at hs
                obtain ⟨rfl, hs⟩ := hs
                have := eq_of_heq hs
                subst this
                rfl
            · rw [hl] at h2; cases h2
          have hx0 : x.length = 0 := by omega
          refine ⟨ba, 0, rfl, by omega, ?_, fun row' _ p S' w' hl' => by rw [hl] at hl'; cases hl'⟩
          unfold OsR
          rw [hl]
          simp only [hx0]
          exact ⟨trivial, trivial, trivial, _, rfl⟩
        · rename_i p hl
          obtain ⟨ba, cap, rfl, q1, q2, q3, q4, q5, q6, q7⟩ := hx
          have hok := hst.row hrow hl
          have hsl := lt_of_get hs
          have hz : p.z = q.size := by rw [← hok.zz s hsl]; simp [zAt, hs]
          have hlay := hok.lay s (Nat.le_of_lt hsl)
          have hpw := hok.size
          have hsp := take_size hs
          have hmul : (i + len + x.length) * q.size ≤ l.length * q.size := Nat.mul_le_mul_right _ hil
          rw [hz] at q7 q4 q5 q1
          have hfull := q7 rfl
          have hle := hok.le
          have hbc : len + x.length ≤ cap := by
            rcases Nat.lt_or_ge cap (len + x.length) with hcb | hcb
            · have : (cap + 1) * q.size ≤ (len + x.length) * q.size := Nat.mul_le_mul_right _ hcb
              rw [Nat.add_mul, Nat.add_mul] at this
              rw [Nat.add_mul, Nat.add_mul] at hmul
              omega
            · exact hcb
          refine ⟨ba, cap, rfl, hbc, ?_, fun row' hr' p' S' w' hl' hok' => ?_⟩
          · unfold OsR
            rw [hl]
            have e1 : (i + len) * p.z = i * q.size + len * q.size := by rw [hz, Nat.add_mul]
            have e2 : (cap - len) * q.size = cap * q.size - len * q.size := Nat.sub_mul _ _ _
            have e3 : (len + x.length) * q.size ≤ cap * q.size := Nat.mul_le_mul_right _ hbc
            rw [Nat.add_mul] at e3
            rw [Nat.add_mul, Nat.add_mul] at hmul
            refine ⟨_, _, rfl, fun hne => ?_, by omega, fun h => by simp at h, by rw [e1, hz, e2]; omega, by rw [e1, hz]; omega, fun h => by simp at h, fun h => by simp at h⟩
            rw [q1 (by omega), e1, htz, hsz]
            simp [addr_add, Nat.add_assoc]
          · rw [hl] at hl'
            cases hl'
            obtain ⟨l', hs', hll⟩ := hr'
            exact Rel.osPart (T := T) hl hok' hs' (by rw [hz]; exact q1) hbc (by rw [hz]; exact q4) (by omega) (by rw [hz]; exact hfull)
      obtain ⟨ba, cap, rfl, hbc, hos, hafter⟩ := hu
      obtain ⟨ba2, cap2, w', hu2, k1, k2, k3⟩ := g1.over (n := x.length) (l' := x) (cells := news.toArray) g2 g3 hfz hos hs hil (Nat.le_refl _) (Nat.le_refl _) hxr (by simp [hnl, c2, ← c1]) (fun k hk => by simp)
      injection hu2 with hu2 _ _
      subst hu2
      have hap : (Builtin.append_ #[t, t] ty #[.slice ba len cap, .slice xb l'.length xcap]).run T.P w = .ok (.slice ba (len + x.length) cap) w' := by
        rw [← c2]
        exact run_append_stay t ty e ti ht hti ba len cap xb x.length xcap news (by rw [hnl, htz, hsz, c1, c2]) hcells hbc w' k1
      refine ⟨_, _, _, S, L, w', .slice ba (len + x.length) cap, hq, hap, ?_, k2, k3⟩
      simp only [Rel]
      have hset : ({ row with c := row.c.set s (.run q (Ev.over l (i + len) x.length x)), kin := none } : Row).c[s]? = some (.run q (Ev.over l (i + len) x.length x)) := by simp [List.getElem?_set_self (lt_of_get hs)]
      have hov : (Ev.over l (i + len) x.length x).length = l.length := over_length hil (Nat.le_refl _)
      cases hl : L r with
      | none =>
        unfold OsR at hos
        rw [hl] at hos
        exact hos.elim
      | some pl =>
        cases pl with
        | some p => exact hafter _ ⟨_, hset, hov⟩ p S w' hl (k2.row (upd_same _ _ _) hl)
        | none =>
          unfold OsR at hos
          rw [hl] at hos
          obtain ⟨g1, g2, g3, a, g4⟩ := hos
          injection g4 with g4 g5 g6
          unfold OsR
          rw [hl]
          exact ⟨by omega, by omega, g3, ba, by rw [show len + x.length = 0 by omega, show cap = 0 by omega]⟩
    · exact hp.elim
  · exact hp.elim
theorem run_appInH {e t ty : TypeId} {y : AV} {u uy : Value} {r s len : Nat} {a b c : Bool} (hst : St T S w L h ids) (ht : T.P.underlying t = some (.slice e)) (habc : a = false ∧ b = false ∧ c = true) (hx : Rel T.P S w (.os r s 0 len a b c) L u) (hy : Rel T.P S w y L uy) (hp : (appInH T e r s len y).post h ids Q) :
    AppRes T S w L t ty u uy Q := by
  obtain ⟨rfl, rfl, rfl⟩ := habc
  unfold appInH at hp
  split at hp
  · exact hp.elim
  · rename_i ry sy ly hos
    have hyy : ∃ y1 y2 y3, y = .os ry sy 0 ly y1 y2 y3 := by
      unfold isOs at hos
      split at hos
      · cases hos
      · split at hos
        · injection hos with hos
          simp only [Prod.mk.injEq] at hos
          obtain ⟨rfl, rfl, rfl⟩ := hos
          exact ⟨_, _, _, rfl⟩
        · cases hos
    obtain ⟨y1, y2, y3, rfl⟩ := hyy
    simp only [HP.post] at hp
    obtain ⟨rowy, hrowy, hp⟩ := hp
    split at hp
    · exact hp.elim
    · rename_i hcond
      simp only [Bool.and_eq_true, decide_eq_true_eq] at hcond
      obtain ⟨hh, hsz⟩ := hcond
      obtain ⟨hsg, hlen, news, hn, hnc⟩ := news_os hst hy hrowy hh
      simp only [HP.post] at hp
      obtain ⟨row, hrow, hp⟩ := hp
      split at hp
      · rename_i hfz hall
        have hall := List.all_eq_true.1 hall
        simp only [HP.post, decide_eq_true_eq] at hp
        obtain ⟨⟨hle, hpos⟩, hp⟩ := hp
        have hp := post_killKin hp
        simp only [HP.post] at hp
        obtain ⟨hk, hq⟩ := hp
        obtain ⟨g1, g2, g3⟩ := hst.kill hrow hk
        simp only [Rel] at hx
        unfold OsR at hx
        split at hx
        · exact hx.elim
        · rename_i hl
          rcases hst.inv.rows r row hrow with ⟨_, hnil⟩ | ⟨p, h2, _⟩
          · rcases hnil with hnil | ⟨e', hnil⟩
            · rw [hnil] at hle; simp at hle; omega
            · rw [hnil] at hall
              have := hall (.run e' []) (by simp)
              simp [single] at this
          · rw [hl] at h2; cases h2
        · rename_i p hl
          obtain ⟨ba, cap, rfl, q1, q2, q3, q4, q5, q6, q7⟩ := hx
          have hok := hst.row hrow hl
          obtain ⟨arr, bt, hb, hsa, hcr⟩ := hok.blk
          have h0 : 0 < row.c.length := by omega
          have hz : p.z = 1 := by rw [← hok.zz 0 h0, zAt_single hall]
          have hcsz := contSize_single hall
          have hpw := hok.size
          have hpn := hok.le
          have hlay : p.lay s = s := by rw [hok.lay s (by omega), contSize_take_single hall (by omega)]
          rw [hz, hlay] at q1 q4 q5 q7
          simp only [Nat.zero_mul, Nat.add_zero, Nat.mul_one] at q1 q4 q5 q7
          have hfull := q7 trivial
          have hba := q1 (by omega)
          subst hba
          obtain ⟨xb, xcap, rfl, hcells⟩ := hn.val
          have hnl := hn.len
          rw [Nat.mul_one] at hnl
          obtain ⟨ti, hti, htz⟩ := info_of_sz (T := T) (e := e) (by omega)
          obtain ⟨w', arr', k1, k2, k3⟩ := run_storeCells_row (P := T.P) (q := s + len) (vs := news) hb (by rw [hnl, hsa]; omega) hn.one
          have hap : (Builtin.append_ #[t, t] ty #[.slice (some ⟨p.b, s, none⟩) len cap, .slice xb ly xcap]).run T.P w = .ok (.slice (some ⟨p.b, s, none⟩) (len + ly) cap) w' := by
            refine run_append_stay t ty e ti ht hti (some ⟨p.b, s, none⟩) len cap xb ly xcap news (by rw [hnl, htz, hsz]; omega) hcells (by omega) w' ?_
            simp only [Stored, Option.map, addr_add, htz, hsz, Nat.mul_one]
            exact k1
          have hvs := contSize_single hsg
          have hall' : ∀ v ∈ row.c.take (s + len) ++ ((rowy.c.drop sy).take ly ++ row.c.drop (s + len + ly)), single v = true := by
            intro v hv
            rcases List.mem_append.1 hv with hv | hv
            · exact hall v (List.mem_of_mem_take hv)
            · rcases List.mem_append.1 hv with hv | hv
              · exact hsg v hv
              · exact hall v (List.mem_of_mem_drop hv)
          have hones : ∀ l : List AV, (∀ v ∈ l, single v = true) → l.map segSize = List.replicate l.length 1 := by
            intro l hl
            rw [List.eq_replicate_iff]
            refine ⟨by simp, fun x hx => ?_⟩
            obtain ⟨v, hv, rfl⟩ := List.mem_map.1 hx
            exact segSize_single (hl v hv)
          have hseg : (row.c.take (s + len) ++ ((rowy.c.drop sy).take ly ++ row.c.drop (s + len + ly))).map segSize = row.c.map segSize := by
            rw [hones _ hall', hones _ hall]
            congr 1
            rw [List.length_append, List.length_append, hlen]
            simp; omega
          have hta : contSize (row.c.take (s + len)) = s + len := contSize_take_single hall (by omega)
          have hcr' : Cont T.P S w row.c (lOf true L) (fun i => arr[i]?) 0 := hcr.mono (fun _ _ h => h) (fun _ _ _ => rfl) _ (lOf_or (fun _ => rfl) L) (fun _ _ => rfl)
          have hmid : ∀ v ∈ (row.c.drop (s + len)).take ly, single v = true := fun v hv => hall v (List.mem_of_mem_drop (List.mem_of_mem_take hv))
          have hcont : Cont T.P S w (row.c.take (s + len) ++ ((rowy.c.drop sy).take ly ++ row.c.drop (s + len + ly))) (lOf true L) (fun i => arr'[i]?) 0 := by
            have e1 := take_part (c := row.c) (s + len) ly
            rw [e1] at hcr'
            refine cont_put (b' := (rowy.c.drop sy).take ly) hcr' ?_ ?_ (fun q hq hor => ?_)
            · rw [hvs, contSize_single hmid, hlen]; simp; omega
            · refine ((hnc (fun i => arr'[i]?) (s + len) (fun j v hj => ?_)).mono (fun _ _ h => h) (fun _ _ _ => rfl) _ (lOf_or (fun _ => rfl) L) (fun _ _ => rfl)) |> fun h => by rw [hta]; exact h
              have := lt_of_get hj
              simp only [k3, hnl]
              rw [if_pos (by omega), ← hj]
              congr 1; omega
            · rw [hta, contSize_single hmid] at hor
              simp only [List.length_take, List.length_drop] at hor
              simp only [k3, hnl]
              rw [if_neg (by omega)]
          obtain ⟨k4, k5⟩ := g1.writeRow (row' := { row with c := row.c.take (s + len) ++ ((rowy.c.drop sy).take ly ++ row.c.drop (s + len + ly)), loose := true, kin := none }) g2 hl (g3 p hl) hfz k2 hcont hseg
            (fun k => by rw [zAt_single hall', zAt_single hall]) rfl rfl hfz
          refine ⟨_, _, _, S, L, w', _, hq, hap, ?_, k4, k5⟩
          simp only [Rel]
          unfold OsR
          rw [hl]
          refine ⟨_, cap, rfl, fun _ => by rw [hz, hlay]; simp, by omega, fun h => by simp at h, by rw [hz, hlay]; omega, by rw [hz, hlay]; omega, fun h => by simp at h, fun _ => by rw [hz, hlay]; omega⟩
      · exact hp.elim
theorem run_appNil {e t ty : TypeId} {y' : AV} {u uy : Value} {vs : List AV} {tight : Bool} (hst1 : St T S w L h ids) (ht : T.P.underlying t = some (.slice e)) (hx1 : Rel T.P S w (.slg vs tight) L u) (hy1 : Rel T.P S w y' L uy) (hp1 : (appNil T e vs tight y').post h ids Q) :
    AppRes T S w L t ty u uy Q := by
  unfold appNil at hp1
  split at hp1
  · rename_i q l tt
    refine run_appSl (e' := q) (l := []) (tight := tight) hst1 ht ?_ hy1 hp1
    simp only [Rel] at hx1 ⊢
    obtain ⟨_, a, cap, h1, h2, h3, _⟩ := hx1
    exact ⟨a, cap, h1, h2, h3, fun h => absurd rfl h⟩
  · exact run_appSlg hst1 ht hx1 hy1 hp1
theorem run_appOld {e t ty : TypeId} {x y : AV} {u uy : Value} (hst : St T S w L h ids) (ht : T.P.underlying t = some (.slice e)) (hx : Rel T.P S w x L u) (hy : Rel T.P S w y L uy) (hp : (appOld T e x y).post h ids Q) :
    AppRes T S w L t ty u uy Q := by
  unfold appOld at hp
  rw [HP.post_bind] at hp
  obtain ⟨y', h1, S1, hp1, hst1, hext1, hy1⟩ := post_appended hst hy hp
  clear hp
  have hx1 := hx.mono hext1.sub hext1.stays _ hext1.le
  have fin : AppRes T S1 w L t ty u uy Q → AppRes T S w L t ty u uy Q := by
    rintro ⟨v', h', ids', S', L', w', x', hq, k1, k2, k3, k4⟩
    exact ⟨v', h', ids', S', L', w', x', hq, k1, k2, k3, hext1.trans k4⟩
  split at hp1
  · exact fin (run_appWhole hst1 ht hx1 hy1 hp1)
  · exact fin (run_appPart hst1 ht hx1 hy1 hp1)
  · exact fin (run_appSl hst1 ht hx1 hy1 hp1)
  · exact fin (run_appNil hst1 ht hx1 hy1 hp1)
  · exact hp1.elim
theorem run_appendV {e t ty : TypeId} {x y : AV} {u uy : Value} (hst : St T S w L h ids) (ht : T.P.underlying t = some (.slice e)) (hx : Rel T.P S w x L u) (hy : Rel T.P S w y L uy) (hp : (appendV T e x y).post h ids Q) :
    AppRes T S w L t ty u uy Q := by
  unfold appendV at hp
  split at hp
  · rename_i r s i len hin
    unfold inRow at hin
    split at hin
    · cases hin
    · split at hin
      · injection hin with hin
        simp only [Prod.mk.injEq] at hin
        obtain ⟨rfl, rfl, rfl, rfl⟩ := hin
        simp only [HP.post] at hp
        obtain ⟨row, hrow, hp⟩ := hp
        split at hp
        · exact run_appInH hst ht ⟨rfl, rfl, rfl⟩ hx hy hp
        · exact run_appIn hst ht ⟨rfl, rfl, rfl⟩ hx hy hp
      · cases hin
  have old : (appOld T e x y).post h ids Q → AppRes T S w L t ty u uy Q := fun hp => run_appOld hst ht hx hy hp
  split at hp
  · rename_i ry sy ly hos
    unfold isOs at hos
    split at hos
    · cases hos
    · split at hos
      · injection hos with hos
        simp only [Prod.mk.injEq] at hos
        obtain ⟨rfl, rfl, rfl⟩ := hos
        simp only [HP.post] at hp
        obtain ⟨rowy, hrowy, hp⟩ := hp
        split at hp
        · rename_i hh
          exact run_appH hst ht hx hy hrowy hh hp
        · exact old hp
      · cases hos
  · exact old hp
theorem run_append_zero {P : Program} {w : World} (t t' ty e : TypeId) (k : IntKind) (i : TypeInfo) (z : Value) (ht : P.underlying t = some (.slice e)) (ht' : P.underlying t' = some (.int k)) (hi : P.info? e = some i) (hz : i.zero = some z) (hpos : 0 < i.size)
    (base : Option Addr) (n : Nat) (k' : IntKind) (hg : 0 < n) (h63 : n ≤ 9223372036854775807) (hfit : n * i.bytes ≤ 70368744177664) :
    (Builtin.append_ #[t, t'] ty #[.slice base 0 0, .int k' n]).run P w =
      .ok (.slice (some ⟨w.heap.size, 0, none⟩) n (grownCap w n 0 e))
        (w.drew.alloc (.cells (Builtin.zeroCells z.cells n ++ Builtin.zeroCells z.cells (grownCap w n 0 e - n)) e)) := by
  have hfit' := growslice_fits (need := n) (old := 0) hg (by omega : n * i.bytes ≤ 140737488355328)
  have h48' : ¬ (281474976710656 < Builtin.nextslicecap n 0 * i.bytes) := by omega
  have h63' : ¬ (9223372036854775807 < (n : Int)) := by omega
  have hw : IntKind.i64.wrap (n : Int) = n := IntWalk.i64_in _ (by omega)
  have hb : ¬ (281474976710656 < (n : Int) * (i.bytes : Int)) := by
    have : ((n * i.bytes : Nat) : Int) = (n : Int) * (i.bytes : Int) := by simp
    omega
  have hne : n * i.size ≠ 0 := by
    have := Nat.mul_pos hg hpos
    omega
  have hf : ∀ w1 : World, (Builtin.firstCells i.size 0 (.slice base 0 0)).run P w1 = .ok #[] w1 := by
    intro w1
    cases base with
    | none => simp [Builtin.firstCells]
    | some b => simp [Builtin.firstCells, loadCells, loadCellsFrom]
  have hn0 : ¬ (n ≤ 0) := by omega
  have hneg : ¬ ((n : Int) < 0) := by omega
  have ha : (asIntOf (.int k' n)).run P w = .ok (k', (n : Int)) w := rfl
  have hz1 : n ≠ 0 := by omega
  simp [Builtin.append_, run_underlying ht, run_underlying ht', sizeOf, typeInfo, zeroValue, hi, hz, asInt, ha, hw, hb, hn0, hneg, h63', h48', hne, hf, Question.forced, newRow, grownCap, hz1]
theorem zeros_run2 {q : ET} {z : Array Value} {n m : Nat} (hz : z.toList = zElem q) : RunR S w q (List.replicate n (zeroE q)) (fun k => (Builtin.zeroCells z n ++ Builtin.zeroCells z m)[k]?) 0 := by
  have hzs : z.size = q.size := by rw [← Array.length_toList, hz, zElem_length]
  intro i x hx
  have hi := lt_of_get hx
  rw [List.length_replicate] at hi
  have hxe : x = zeroE q := by
    have := List.mem_of_getElem? hx
    exact List.eq_of_mem_replicate this
  subst hxe
  have hm := mul_lt_part (z := q.size) hi
  refine elR_zero fun j hj => ?_
  have e1 : (0 + i * q.size + j) % z.size = j := by
    rw [hzs, Nat.zero_add, Nat.mul_comm, Nat.mul_add_mod, Nat.mod_eq_of_lt hj]
  show (Builtin.zeroCells z n ++ Builtin.zeroCells z m)[0 + i * q.size + j]? = _
  rw [Array.getElem?_append_left (by rw [size_zeroCells, hzs]; omega)]
  show (madeCells z (n * z.size))[0 + i * q.size + j]? = _
  rw [made_get (by rw [hzs]; omega) (by rw [hzs]; exact size_pos q), e1, ← hz]
  simp
theorem run_appZero {e t t' ty : TypeId} {x y : AV} {u uy : Value} (hst : St T S w L h ids) (ht : T.P.underlying t = some (.slice e)) (hx : Rel T.P S w x L u) (hy : Rel T.P S w y L uy) (hp : (appZero T t' e x y).post h ids Q) :
    ∃ v' h' ids' S' L' w' x', Q v' h' ids' ∧ (Builtin.append_ #[t, t'] ty #[u, uy]).run T.P w = .ok x' w' ∧ Rel T.P S' w' v' L' x' ∧ St T S' w' L' h' ids' ∧ Ext w S L w' S' L' := by
  unfold appZero at hp
  split at hp
  · rename_i k n ht' hn
    have ht' := desc_some ht' (by simp)
    simp only [HP.post, decide_eq_true_eq] at hp
    obtain ⟨hpos, hroom, hp⟩ := hp
    obtain ⟨k', rfl⟩ := asI_some hn hy
    have hb := room_le hroom
    have hnn := room_n hroom
    split at hp
    · rename_i c0 q hz0 hq
      split at hp
      · rename_i hzi
        obtain ⟨i, z, hi, hz, hzc, hsz⟩ := zeroIs_spec hzi
        rw [zElem_length] at hsz
        rw [bytesOf_info hi] at hb
        simp only [Rel] at hx
        obtain ⟨_, ba, cap, rfl, q1, q2, q3⟩ := hx
        have hcap : cap = 0 := q2 trivial
        subst hcap
        have hmn : ((n.toNat : Nat) : Int) = n := Int.toNat_of_nonneg (by omega)
        have hrun := run_append_zero (P := T.P) (w := w) t t' ty e k i z ht ht' hi hz (by rw [hsz]; exact size_pos q) ba n.toNat k' (by omega) (by omega) hb
        rw [hmn] at hrun
        have hge := grownCap_ge w n.toNat 0 e
        generalize hcap : grownCap w n.toNat 0 e = cap at hrun hge
        have hzs : z.cells.size = q.size := by rw [← Array.length_toList, hzc, zElem_length]
        have harr : (Builtin.zeroCells z.cells n.toNat ++ Builtin.zeroCells z.cells (cap - n.toNat)).size = cap * q.size := by
          rw [Array.size_append, size_zeroCells, size_zeroCells, hzs, ← Nat.add_mul]
          congr 1; omega
        unfold newSl at hp
        cases ids with
        | nil => exact hp.elim
        | cons id rest =>
          simp only [HP.post] at hp
          have hmul := Nat.mul_le_mul_right q.size hge
          obtain ⟨e1, e2⟩ := hst.newRow (w' := w.drew.alloc (.cells (Builtin.zeroCells z.cells n.toNat ++ Builtin.zeroCells z.cells (cap - n.toNat)) e)) (row := { c := [.run q (List.replicate n.toNat (zeroE q))], vr := false, ty := e, fz := false, loose := false })
            (arr := Builtin.zeroCells z.cells n.toNat ++ Builtin.zeroCells z.cells (cap - n.toNat)) (bt := e) (z := q.size) rfl rfl rfl rfl (cont_of_run (zeros_run2 hzc)) (by rw [harr]; simpa [contSize, segSize] using hmul) (fun s hs => by
              simp at hs; subst hs; simp [zAt]) ⟨size_pos q, fun h => by cases h⟩ (fun h => by cases h)
          refine ⟨_, _, _, S, _, _, _, hp, hrun, ?_, e1, e2⟩
          simp only [Rel, OsR]
          rw [setL_same]
          refine ⟨_, cap, rfl, fun _ => by simp [contSize], hge, fun h => by simp at h, by simp [contSize, harr], by simp [contSize, segSize], fun _ => ⟨trivial, trivial, rfl, by simp [contSize, segSize], by simp [harr]⟩, fun _ => ?_⟩
          simpa [contSize, segSize] using hmul
      · exact hp.elim
    · exact hp.elim
  · exact hp.elim
theorem op_append {ρ : Operand → AV} {c : Call} (ho : o.op = .call c) (hc : c.callee = .builtin .append) (hst : St T S w L h ids) (hx : ∀ x ∈ c.args.toList, Rel T.P S w (ρ x) L (a.eval x))
    (hp : (builtinV T .append c.argTypes.toList (c.args.toList.map ρ)).post h ids Q) : Runs T o a w S L Q := by
  have hr := relL_args (T := T) (ρ := ρ) (a := a) hx
  simp only [builtinV] at hp
  split at hp
  · rename_i t t' x y h1 h2
    obtain ⟨u, v, hu, hru, hrv⟩ := rel2 hr h2
    have e1 := arr_of h1
    have e2 := arr_of hu
    split at hp
    · rename_i e hd htt
      have hd := desc_some hd (by simp)
      have htt := of_decide_eq_true htt
      subst htt
      obtain ⟨v', h', ids', S', L', w', x', hq, k1, k2, k3, k4⟩ := run_appendV (ty := o.type) hst hd hru hrv hp
      refine ⟨v', h', ids', S', L', w', _, x', hq, run_builtin ho hc fun cs' => ?_, .inl rfl, k2, k3, k4⟩
      rw [e1, e2]
      simp only [builtin, Sem.run_bind, k1, Result.andThen_ok, Sem.run_pure]
    · rename_i e hd htt
      have hd := desc_some hd (by simp)
      obtain ⟨v', h', ids', S', L', w', x', hq, k1, k2, k3, k4⟩ := run_appZero (ty := o.type) hst hd hru hrv hp
      refine ⟨v', h', ids', S', L', w', _, x', hq, run_builtin ho hc fun cs' => ?_, .inl rfl, k2, k3, k4⟩
      rw [e1, e2]
      simp only [builtin, Sem.run_bind, k1, Result.andThen_ok, Sem.run_pure]
    · exact hp.elim
  · exact hp.elim
end ops
end
end Go.Ev
namespace Go.Ev
open Go
set_option linter.unusedVariables false
set_option linter.unusedSimpArgs false
section
variable {T : Tab} {S : Stab} {w : World} {L : Loc} {h : Hs} {ids : List Nat} {a : Act} {o : Oper} {fr : Fr} {Q : AV → Hs → List Nat → Prop}
theorem isOs_spec {il : Bool} {y : AV} {r s l : Nat} (h : isOs il y = some (r, s, l)) : ∃ a b c, y = .os r s 0 l a b c := by
  unfold isOs at h
  split at h
  · cases h
  · split at h
    · injection h with h
      simp only [Prod.mk.injEq] at h
      obtain ⟨rfl, rfl, rfl⟩ := h
      exact ⟨_, _, _, rfl⟩
    · cases h
theorem CellsAt.take {base : Option Addr} {cs : List Value} (n : Nat) (h : CellsAt w base cs) : CellsAt w base (cs.take n) := by
  rcases h with rfl | ⟨b, rfl, hc⟩
  · exact .inl (by simp)
  · refine .inr ⟨b, rfl, fun j v hj => hc j v ?_⟩
    rw [List.getElem?_take] at hj
    split at hj
    · exact hj
    · cases hj
theorem run_copyH {e t t' ty : TypeId} {u v : Value} {r s len ry sy ly : Nat} {a b c a' b' c' : Bool} {old : HP AV} (hst : St T S w L h ids) (ht : T.P.underlying t = some (.slice e)) (hx : Rel T.P S w (.os r s 0 len a b c) L u) (hy : Rel T.P S w (.os ry sy 0 ly a' b' c') L v)
    (hold : old.post h ids Q → ∃ v' h' ids' S' L' w' x', Q v' h' ids' ∧ (Builtin.copy_ #[t, t'] ty #[u, v]).run T.P w = .ok x' w' ∧ Rel T.P S' w' v' L' x' ∧ St T S' w' L' h' ids' ∧ Ext w S L w' S' L')
    (hp : (copyH T e r s len ry sy ly old).post h ids Q) :
    ∃ v' h' ids' S' L' w' x', Q v' h' ids' ∧ (Builtin.copy_ #[t, t'] ty #[u, v]).run T.P w = .ok x' w' ∧ Rel T.P S' w' v' L' x' ∧ St T S' w' L' h' ids' ∧ Ext w S L w' S' L' := by
  unfold copyH at hp
  simp only [HP.post] at hp
  obtain ⟨rowy, hrowy, hp⟩ := hp
  split at hp
  · exact hold hp
  · rename_i hcond
    simp only [Bool.and_eq_true, decide_eq_true_eq] at hcond
    obtain ⟨hh, hsz⟩ := hcond
    obtain ⟨hsg, hlen, news, hn, hnc⟩ := news_os hst hy hrowy hh
    simp only [HP.post] at hp
    obtain ⟨row, hrow, hp⟩ := hp
    split at hp
    · rename_i hfz hall
      have hall := List.all_eq_true.1 hall
      simp only [HP.post, decide_eq_true_eq] at hp
      obtain ⟨⟨hle, hpos⟩, hp⟩ := hp
      have hp := post_killKin hp
      simp only [HP.post] at hp
      obtain ⟨hk, hq⟩ := hp
      obtain ⟨g1, g2, g3⟩ := hst.kill hrow hk
      have hmn : Nat.min ly len = min ly len := rfl
      have hm1 : min ly len ≤ ly := Nat.min_le_left _ _
      have hm2 : min ly len ≤ len := Nat.min_le_right _ _
      generalize min ly len = n at *
      simp only [Rel] at hx
      unfold OsR at hx
      split at hx
      · exact hx.elim
      · rename_i hl
        rcases hst.inv.rows r row hrow with ⟨_, hnil⟩ | ⟨p, h2, _⟩
        · rcases hnil with hnil | ⟨e', hnil⟩
          · rw [hnil] at hle; simp at hle; omega
          · rw [hnil] at hall
            have := hall (.run e' []) (by simp)
            simp [single] at this
        · rw [hl] at h2; cases h2
      · rename_i p hl
        obtain ⟨ba, cap, rfl, q1, q2, q3, q4, q5, q6, q7⟩ := hx
        have hok := hst.row hrow hl
        obtain ⟨arr, bt, hb, hsa, hcr⟩ := hok.blk
        have h0 : 0 < row.c.length := by omega
        have hz : p.z = 1 := by rw [← hok.zz 0 h0, zAt_single hall]
        have hcsz := contSize_single hall
        have hpw := hok.size
        have hpn := hok.le
        have hlay : p.lay s = s := by rw [hok.lay s (by omega), contSize_take_single hall (by omega)]
        rw [hz, hlay] at q1
        simp only [Nat.zero_mul, Nat.add_zero] at q1
        have hba := q1 (by omega)
        subst hba
        obtain ⟨xb, xcap, rfl, hcells⟩ := hn.val
        have hnl := hn.len
        rw [Nat.mul_one] at hnl
        obtain ⟨ti, hti, htz⟩ := info_of_sz (T := T) (e := e) (by omega)
        have hnl' : (news.take n).length = n := by rw [List.length_take]; omega
        obtain ⟨w', arr', k1, k2, k3⟩ := run_storeCells_row (P := T.P) (q := s) (vs := news.take n) hb (by rw [hnl', hsa]; omega) (fun x hx => hn.one x (List.mem_of_mem_take hx))
        have hrun := run_first (P := T.P) (w := w) (base := xb) (cs := news.take n) (n := n) (size := 1) (len := ly) (cap := xcap) (hcells.take n) (by rw [hnl', Nat.mul_one])
        have hsize : (sizeOf e).run T.P w = .ok 1 w := by rw [run_sizeOf hti, htz, hsz]
        have hap : (Builtin.copy_ #[t, t'] ty #[.slice (some ⟨p.b, s, none⟩) len cap, .slice xb ly xcap]).run T.P w = .ok (.int .i64 (n : Nat)) w' := by
          simp [Builtin.copy_, underlying, ht, Builtin.lenOf, hmn, hsize, hrun, goInt, k1]
        have hvs := contSize_single hsg
        have hsg' : ∀ v ∈ ((rowy.c.drop sy).take ly).take n, single v = true := fun v hv => hsg v (List.mem_of_mem_take hv)
        have hlen' : (((rowy.c.drop sy).take ly).take n).length = n := by rw [List.length_take, hlen]; omega
        generalize ((rowy.c.drop sy).take ly) = vs at *
        have hall' : ∀ v ∈ row.c.take s ++ (vs.take n ++ row.c.drop (s + n)), single v = true := by
          intro v hv
          rcases List.mem_append.1 hv with hv | hv
          · exact hall v (List.mem_of_mem_take hv)
          · rcases List.mem_append.1 hv with hv | hv
            · exact hsg' v hv
            · exact hall v (List.mem_of_mem_drop hv)
        have hones : ∀ l : List AV, (∀ v ∈ l, single v = true) → l.map segSize = List.replicate l.length 1 := by
          intro l hl
          rw [List.eq_replicate_iff]
          refine ⟨by simp, fun x hx => ?_⟩
          obtain ⟨v, hv, rfl⟩ := List.mem_map.1 hx
          exact segSize_single (hl v hv)
        have hseg : (row.c.take s ++ (vs.take n ++ row.c.drop (s + n))).map segSize = row.c.map segSize := by
          rw [hones _ hall', hones _ hall]
          congr 1
          rw [List.length_append, List.length_append, hlen']
          simp; omega
        have hta : contSize (row.c.take s) = s := contSize_take_single hall (by omega)
        have hcr' : Cont T.P S w row.c (lOf true L) (fun i => arr[i]?) 0 := hcr.mono (fun _ _ h => h) (fun _ _ _ => rfl) _ (lOf_or (fun _ => rfl) L) (fun _ _ => rfl)
        have hmid : ∀ v ∈ (row.c.drop s).take n, single v = true := fun v hv => hall v (List.mem_of_mem_drop (List.mem_of_mem_take hv))
        have hcont : Cont T.P S w (row.c.take s ++ (vs.take n ++ row.c.drop (s + n))) (lOf true L) (fun i => arr'[i]?) 0 := by
          have e1 := take_part (c := row.c) s n
          rw [e1] at hcr'
          refine cont_put (b' := vs.take n) hcr' ?_ ?_ (fun q hq hor => ?_)
          · rw [contSize_single hsg', contSize_single hmid, hlen']; simp; omega
          · have hF : ∀ j v, news[j]? = some v → (fun i => if n ≤ i - s then news[i - s]? else arr'[i]?) (s + j) = some v := fun j v hj => by
              have := lt_of_get hj
              show (if n ≤ s + j - s then news[s + j - s]? else arr'[s + j]?) = some v
              rw [Nat.add_sub_cancel_left]
              split
              · exact hj
              · rw [k3, hnl', if_pos (by omega), Nat.add_sub_cancel_left, List.getElem?_take, if_pos (by omega)]
                exact hj
            have h1 := cont_take_drop (s := 0) (n := n) (hnc (fun i => if n ≤ i - s then news[i - s]? else arr'[i]?) s hF)
            rw [List.drop_zero, List.take_zero] at h1
            have h2 : Cont T.P S w (vs.take n) (lOf rowy.loose L) (fun i => arr'[i]?) s := by
              refine cont_move h1 fun k hk => ?_
              rw [contSize_single hsg', hlen'] at hk
              have h3 : (if n ≤ s + k - s then news[s + k - s]? else arr'[s + k]?) = arr'[s + k]? := if_neg (by omega)
              simp only [contSize, Nat.add_zero]
              exact h3.symm
            exact (h2.mono (fun _ _ h => h) (fun _ _ _ => rfl) _ (lOf_or (fun _ => rfl) L) (fun _ _ => rfl)) |> fun h => by rw [hta]; exact h
          · rw [hta, contSize_single hmid] at hor
            simp only [List.length_take, List.length_drop] at hor
            simp only [k3, hnl']
            rw [if_neg (by omega)]
        obtain ⟨k4, k5⟩ := g1.writeRow (row' := { row with c := row.c.take s ++ (vs.take n ++ row.c.drop (s + n)), loose := true, kin := none }) g2 hl (g3 p hl) hfz k2 hcont hseg
          (fun k => by rw [zAt_single hall', zAt_single hall]) rfl rfl hfz
        exact ⟨_, _, _, S, L, w', _, hq, hap, by simp only [Rel], k4, k5⟩
    · exact hp.elim
theorem op_copy {ρ : Operand → AV} {c : Call} (ho : o.op = .call c) (hc : c.callee = .builtin .copy) (hst : St T S w L h ids) (hx : ∀ x ∈ c.args.toList, Rel T.P S w (ρ x) L (a.eval x))
    (hp : (builtinV T .copy c.argTypes.toList (c.args.toList.map ρ)).post h ids Q) : Runs T o a w S L Q := by
  have hr := relL_args (T := T) (ρ := ρ) (a := a) hx
  simp only [builtinV] at hp
  split at hp
  · rename_i t t' x y h1 h2
    obtain ⟨u, v, hu, hru, hrv⟩ := rel2 hr h2
    have e1 := arr_of h1
    have e2 := arr_of hu
    split at hp
    · rename_i e hd
      have hd := desc_some hd (by simp)
      have fin : (∃ v' h' ids' S' L' w' x', Q v' h' ids' ∧ (Builtin.copy_ #[t, t'] o.type #[u, v]).run T.P w = .ok x' w' ∧ Rel T.P S' w' v' L' x' ∧ St T S' w' L' h' ids' ∧ Ext w S L w' S' L') → Runs T o a w S L Q := by
        rintro ⟨v', h', ids', S', L', w', x', hq, k1, k2, k3, k4⟩
        refine ⟨v', h', ids', S', L', w', _, x', hq, run_builtin ho hc fun cs' => ?_, .inl rfl, k2, k3, k4⟩
        rw [e1, e2]
        simp only [builtin, Sem.run_bind, k1, Result.andThen_ok, Sem.run_pure]
      unfold copyV at hp
      split at hp
      · rename_i r s len hx
        split at hp
        · rename_i ry sy ly hy
          obtain ⟨_, _, _, rfl⟩ := isOs_spec hx
          obtain ⟨_, _, _, rfl⟩ := isOs_spec hy
          exact fin (run_copyH hst hd hru hrv (fun hp => run_copyOld hst hd hru hrv hp) hp)
        · exact fin (run_copyOld hst hd hru hrv hp)
      · exact fin (run_copyOld hst hd hru hrv hp)
    · exact hp.elim
  · exact hp.elim
end
end Go.Ev
namespace Go.Ev
open Go
set_option linter.unusedVariables false
set_option linter.unusedSimpArgs false
section
variable {T : Tab} {S : Stab} {w : World} {L : Loc} {h : Hs} {ids : List Nat} {a : Act} {o : Oper} {fr : Fr}
theorem cells_of_sl {k : IntKind} {l : List Int} {t : Bool} {u : Value} {S' : Stab} (hu : SlR S' w (.int k) l t u) : ∃ ba cap, u = .slice ba l.length cap ∧ (ba = none → l = []) ∧ ∀ b, ba = some b → (loadCells b l.length).run T.P w = .ok (l.map (Value.int k)).toArray w := by
  obtain ⟨ba, cap, rfl, _, _, hl⟩ := hu
  refine ⟨ba, cap, rfl, fun hn => ?_, fun b hb => ?_⟩
  · by_cases hne : l = []
    · exact hne
    · obtain ⟨b, og, e, _⟩ := hl hne
      rw [hn] at e; cases e
  · by_cases hne : l = []
    · subst hne
      simp [loadCells, loadCellsFrom]
    · obtain ⟨bb, og, e, hr, hs⟩ := hl hne
      rw [hb] at e
      cases e
      obtain ⟨arr, k1, k2, k3⟩ := run_loadCells_at (P := T.P) (w := w) (b := bb) (o := og) (n := l.length * 1) fun j hj => by
        have hc : Cont T.P S' w [.run (.int k) l] noLoc (cellsAt w bb) og := cont_of_run hr
        exact cont_cells hc j (by simp only [contSize, segSize, ET.size]; omega)
      rw [Nat.mul_one] at k1 k2 k3
      rw [k1]
      congr 1
      apply Array.ext
      · simp [k2]
      · intro j h1 h2
        have hj : j < l.length := by simpa using h2
        have h3 := hr j l[j] (List.getElem?_eq_getElem hj)
        have h4 := k3 j hj
        simp only [ElR, ElR0, ET.size, Nat.mul_one] at h3
        rw [h3] at h4
        rw [Array.getElem?_eq_getElem h1] at h4
        have := Option.some.inj h4
        rw [this]
        simp
theorem run_forIn_runes {P : Program} {w : World} (f : Value → ByteArray → Sem (ForInStep ByteArray))
    (hf : ∀ (n : Int) (r : ByteArray), (f (.int .i32 n) r).run P w = .ok (.yield (r ++ Utf8.encode n)) w) :
    ∀ (ns : List Int) (s : ByteArray), (forIn (ns.map (Value.int .i32)) s f).run P w = .ok (ns.foldl (fun r n => r ++ Utf8.encode n) s) w := by
  intro ns
  induction ns with
  | nil => intro s; simp [Sem.run_pure]
  | cons n ns ih =>
    intro s
    simp only [List.map_cons, List.forIn_cons, Sem.run_bind, hf, Result.andThen, List.foldl_cons]
    exact ih _
theorem run_runesToString {P : Program} (w : World) (a : Addr) (len cap : Nat) (ns : List Int)
    (h : (loadCells a len).run P w = .ok (ns.map (Value.int .i32)).toArray w) :
    (Conv.runesToString (.slice (some a) len cap)).run P w = .ok (.string (ns.foldl (fun r n => r ++ Utf8.encode n) ByteArray.empty)) w := by
  unfold Conv.runesToString
  simp only [Sem.run_bind, h, Result.andThen, List.forIn_toArray]
  rw [run_forIn_runes _ (by intro n r; simp [Sem.run_pure])]
  simp [Sem.run_pure]
theorem runes_fold (l : List Int) : l.foldl (fun r n => r ++ Utf8.encode n) ByteArray.empty = runesStr l := by
  have main : ∀ (l : List Int) (s : ByteArray), l.foldl (fun r n => r ++ Utf8.encode n) s = ⟨(s.data.toList ++ l.flatMap fun n => (Utf8.encode n).data.toList).toArray⟩ := by
    intro l
    induction l with
    | nil => intro s; simp
    | cons n l ih =>
      intro s
      rw [List.foldl_cons, ih]
      congr 2
      simp [List.flatMap_cons, ByteArray.data_append]
  rw [main]
  unfold runesStr
  simp
theorem bytes_fold (l : List Int) : l.foldl (fun r n => r.push (UInt8.ofNat n.toNat)) ByteArray.empty = bytesStr l := by
  have main : ∀ (l : List Int) (s : ByteArray), l.foldl (fun r n => r.push (UInt8.ofNat n.toNat)) s = ⟨(s.data.toList ++ l.map fun n => UInt8.ofNat n.toNat).toArray⟩ := by
    intro l
    induction l with
    | nil => intro s; simp
    | cons n l ih =>
      intro s
      rw [List.foldl_cons, ih]
      congr 2
      simp [ByteArray.push]
  rw [main]
  unfold bytesStr
  simp
theorem isIntT_spec {P : Program} {e : TypeId} {k : IntKind} (h : isIntT P e k = true) : P.underlying e = some (.int k) := by
  unfold isIntT at h
  split at h
  · rename_i k' hd
    have := of_decide_eq_true h
    subst this
    exact desc_some hd (by simp)
  · cases h
section ops
variable {Q : AV → Hs → List Nat → Prop}
theorem op_convert {s t : TypeId} {x : Operand} (ho : o.op = .convert s t x) (hst : St T S w L h ids) (hx : Rel T.P S w (opv T fr x) L (a.eval x))
    (hp : (evOp T o fr).post h ids Q) : Runs T o a w S L Q := by
  simp only [evOp, ho, convV] at hp
  generalize opv T fr x = v at hx hp
  split at hp
  · rename_i k' k k'' n h1 h2
    simp only [HP.post] at hp
    simp only [Rel] at hx
    refine Runs.here hst hp (x := .int k (k.wrap n)) ?_ (by simp only [Rel])
    have e1 := desc_some h1 (by simp)
    have e2 := desc_some h2 (by simp)
    simp [execOp, ho, hx, convert, underlying, e1, e2, Conv.intToInt]
  · rename_i v _ _ _ e h1 h2
    have e1 := desc_some h1 (by simp)
    have e2 := desc_some h2 (by simp)
    rw [HP.post_bind] at hp
    obtain ⟨p, hp, _, hn, _⟩ := normOK hst 6 v _ _ hx hp
    unfold strOf at hp
    split at hp
    · rename_i k l tt hpe
      rw [hpe] at hn
      simp only [Rel] at hn
      obtain ⟨ba, cap, hu, hnil, hload⟩ := cells_of_sl (T := T) hn
      split at hp
      · rename_i hc
        rw [Bool.and_eq_true] at hc
        have he := isIntT_spec hc.1
        obtain rfl := of_decide_eq_true hc.2
        simp only [HP.post] at hp
        refine Runs.here hst hp (x := .string (runesStr l)) ?_ (by simp only [Rel])
        have hr : (Conv.runesToString (a.eval x)).run T.P w = .ok (.string (runesStr l)) w := by
          rw [hu]
          cases ba with
          | none =>
            rw [hnil rfl]
            rfl
          | some b => rw [run_runesToString w b l.length cap l (hload b rfl), runes_fold]
        rw [hu] at hr
        simp only [execOp, ho, hu]
        simp [convert, run_underlying e1, run_underlying e2, run_underlying he, hr]
      · split at hp
        · rename_i hc
          rw [Bool.and_eq_true] at hc
          have he := isIntT_spec hc.1
          obtain rfl := of_decide_eq_true hc.2
          simp only [HP.post] at hp
          refine Runs.here hst hp (x := .string (bytesStr l)) ?_ (by simp only [Rel])
          have hr : (Conv.bytesToString (a.eval x)).run T.P w = .ok (.string (bytesStr l)) w := by
            rw [hu]
            cases ba with
            | none =>
              rw [hnil rfl]
              rfl
            | some b => rw [run_bytesToString w b l.length cap l (hload b rfl), bytes_fold]
          rw [hu] at hr
          simp only [execOp, ho, hu]
          simp [convert, run_underlying e1, run_underlying e2, run_underlying he, hr]
        · exact hp.elim
    · exact hp.elim
  · exact hp.elim
end ops
end
end Go.Ev
