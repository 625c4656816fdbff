/- The library's sort of integers, as an entry of a table: out of the kit's contract. -/
import Derived.Test.YtajhpbahjindkaaDoorEvE
import Derived.Sort.Grow
import Derived.Sort.EncStr
import Derived.Test.YtajhpbahjindkaaDoorXaMore
import Derived.OpenShut
set_option linter.unusedVariables false
set_option linter.unusedSimpArgs false
namespace Go.Ev
open Go Go.RowKit Go.Sort
set_option linter.unusedVariables false
set_option linter.unusedSimpArgs false
theorem St.growW {T : Tab} {S : Stab} {w : World} {L : Loc} {h : Hs} {ids : List Nat} (hst : St T S w L h ids) (os : Array Obj) : St T S (grow w os) L h ids ∧ Ext w S L (grow w os) S L := by
  have hstay : Stays S w (grow w os) := fun b q hb => cell?_grow w os _ (hst.inv.stab b q hb)
  refine ⟨⟨⟨fun r row hr => ?_, hst.inv.disj, fun b q hb => ?_⟩, hst.nd, hst.fresh, hst.dom, hst.glob.mono (fun _ _ h => h) hstay⟩, ?_⟩
  · rcases hst.inv.rows r row hr with h1 | ⟨p, h1, h2⟩
    · exact .inl h1
    · exact .inr ⟨p, h1, h2.world (fun _ _ h => h) hstay (Loc.le_refl _) (heap_grow_old w os h2.lt) h2.st⟩
  · have := hst.inv.stab b q hb
    rw [size_grow]; omega
  · exact ⟨fun _ _ h => h, hstay, Loc.le_refl _, fun _ _ h => .inl h, fun b hb _ => heap_grow_old w os hb, by rw [size_grow]; omega, rfl, rfl, rfl, fun r p h => .inl ⟨r, p, h, rfl⟩, fun a ha => frozen?_grow w os a ha,
      fun b arr bt hb => ⟨arr, by rw [heap_grow_old w os (lt_of_heap hb)]; exact hb, rfl⟩⟩
end Go.Ev
namespace Go.Ev
open Go Go.RowKit Go.Sort Go.Proofs
set_option linter.unusedVariables false
set_option linter.unusedSimpArgs false
@[reducible] def rowS (l : List ByteArray) (t : TypeId) : Row := { c := [.run .str l], vr := false, ty := t, fz := false, loose := false }
def srtZ (l : List ByteArray) : List (List UInt8) := (l.map fun b => b.data.toList).mergeSort fun x y => decide (x ≤ y)
def srtS (l : List ByteArray) : List ByteArray := (srtZ l).map fun z => ⟨z.toArray⟩
theorem srtZ_len (l : List ByteArray) : (srtZ l).length = l.length := by unfold srtZ; rw [List.length_mergeSort, List.length_map]
theorem srtS_len (l : List ByteArray) : (srtS l).length = l.length := by unfold srtS; rw [List.length_map, srtZ_len]
theorem putRowS_wr {w : World} {n b : Nat} {arr : Array Value} {bt : TypeId} {d : Array (List UInt8)} (hb : w.heap[b]? = some (.cells arr bt (0, 0))) : Wr w (putRow encStr (Go.Sort.ahead w n) b 0 d) b arr (putCells encStr 0 d arr) bt := by
  refine ⟨hb, ?_, by simp [putCells], fun x hx => ?_, by simp [putRow, mapBlock, Go.Sort.ahead], rfl, rfl, rfl⟩
  · show ((w.heap.modify b (onCells (putCells encStr 0 d))))[b]? = _
    rw [Array.getElem?_modify, if_pos rfl, hb]
    rfl
  · show ((w.heap.modify b (onCells (putCells encStr 0 d))))[x]? = _
    rw [Array.getElem?_modify, if_neg (fun e => hx e.symm)]
theorem sortS_ok {T : Tab} {f : FuncId} (hf : FnIn T.P f)
    (hS : ∀ (blk off cap : Nat) (zs : List (List UInt8)) (w : World), Holds encStr w blk off zs.toArray → blk < w.heap.size → zs.length < 4611686018427387904 →
      Calls T.P f #[.slice (some ⟨blk, off, none⟩) zs.length cap] w fun e w' => e = .returned (.tuple #[]) ∧ ∃ n os, w' = grow (putRow encStr (Go.Sort.ahead w n) blk off (zs.mergeSort fun x y => decide (x ≤ y)).toArray) os)
    {l : List ByteArray} {ty : TypeId} {tight full : Bool} (hne : l ≠ []) (hl : l.length ≤ 100000) :
    CallOK T f [.os 0 0 0 l.length true tight full] [some (rowS l ty)] (.tuple []) [some (rowS (srtS l) ty)] := by
  refine ⟨hf, by simp, fun S w L us hst hr => ?_⟩
  obtain ⟨u, rest, rfl, hu, hrest⟩ := hr
  simp only [RelL] at hrest
  subst hrest
  simp only [Rel] at hu
  have hrow : look [some (rowS l ty)] 0 = some (rowS l ty) := rfl
  unfold OsR at hu
  split at hu
  · exact hu.elim
  · exact absurd hu.1 (fun e => hne (List.length_eq_zero_iff.1 e))
  · rename_i p hl0
    obtain ⟨a, cap, rfl, h1, h2, h3, h4, h5, h6, h7⟩ := hu
    have hok := hst.row hrow hl0
    obtain ⟨arr, bt, hb, has, hc⟩ := hok.blk
    obtain ⟨_, _, e0, e1, _⟩ := h6 rfl
    have hz : p.z = 1 := by rw [← hok.zz 0 (by simp)]; rfl
    have hpos : 0 < l.length := List.length_pos_iff.2 hne
    have ha := h1 (by omega)
    rw [e0, hz] at ha
    simp only [Nat.zero_mul, Nat.add_zero] at ha
    subst ha
    simp only [Cont] at hc
    have hrun := hc.1 .str l rfl
    have hcell : ∀ j (hj : j < l.length), arr[j]? = some (.string l[j]) := fun j hj => by
      have := hrun j l[j] (List.getElem?_eq_getElem hj)
      simpa [ElR, ElR0, ET.size] using this
    have hlz : (l.map fun b => b.data.toList).length = l.length := List.length_map _
    have hH : Holds encStr w p.b 0 (l.map fun b => b.data.toList).toArray := fun j hj => by
      have hj : j < l.length := by simpa using hj
      refine ⟨?_, ?_⟩
      · rw [Nat.zero_add, cell_of_row w p.b _ arr bt _ hb, hcell j hj, getElem!_pos _ j (by simpa using hj)]
        simp
      · exact frozen_of_row w p.b _ arr bt hb
    have hS' := hS p.b 0 cap (l.map fun b => b.data.toList) w hH (lt_of_heap hb) (by omega)
    rw [hlz] at hS'
    refine hS'.mono ?_
    rintro e w' ⟨rfl, n, os, rfl⟩
    have hwr := putRowS_wr (n := n) (d := (srtZ l).toArray) hb
    have hlen := srtS_len l
    have hc' : Cont T.P S w (rowS (srtS l) ty).c (lOf (rowS (srtS l) ty).loose L) (fun q => (putCells encStr 0 (srtZ l).toArray arr)[q]?) 0 := by
      simp only [Cont]
      refine ⟨fun e' l' he => ?_, fun hs => by simp [single] at hs, trivial⟩
      injection he with he1 he2
      subst he1
      have he2 := eq_of_heq he2
      subst he2
      intro i x hx
      have hi : i < (srtS l).length := by
        rcases Nat.lt_or_ge i (srtS l).length with c | c
        · exact c
        · rw [List.getElem?_eq_none c] at hx; cases hx
      have hi2 : i < (srtZ l).length := by rw [srtZ_len]; omega
      have hia : i < arr.size := by
        have := hcell i (by omega)
        rcases Nat.lt_or_ge i arr.size with c | c
        · exact c
        · rw [Array.getElem?_eq_none c] at this; cases this
      simp only [ElR, ElR0, ET.size, Nat.mul_one, Nat.zero_add, putCells, Array.getElem?_mapIdx]
      rw [Array.getElem?_eq_getElem hia, Option.map_some, if_pos ⟨Nat.zero_le _, by simpa using hi2⟩]
      rw [Nat.sub_zero, getElem!_pos (srtZ l).toArray i (by simpa using hi2)]
      unfold srtS at hx
      rw [List.getElem?_map, List.getElem?_eq_getElem hi2, Option.map_some] at hx
      simp only [List.getElem_toArray]
      exact congrArg (fun z => some (Value.string z)) (Option.some.inj hx)
    have hsole : Sole L (look [some (rowS l ty)]) 0 p := fun y rowy py hy hly hpb => by
      by_cases e : y = 0
      · exact e
      · have : look [some (rowS l ty)] y = none := by
          cases y with
          | zero => exact absurd rfl e
          | succ y => rfl
        rw [this] at hy; cases hy
    obtain ⟨k1, k2⟩ := hst.writeRow hrow hl0 hsole rfl hwr hc' (by simp only [List.map_cons, List.map_nil, segSize]; rw [hlen]) (fun k => by
      cases k with
      | zero => rfl
      | succ k => rfl) rfl rfl rfl
    obtain ⟨g1, g2⟩ := k1.growW os
    refine ⟨_, S, L, rfl, ?_, ?_, k2.trans g2⟩
    · simp only [Rel]
      exact ⟨#[], rfl, by simp only [RelL]⟩
    · have : upd (look [some (rowS l ty)]) 0 (some (rowS (srtS l) ty)) = look [some (rowS (srtS l) ty)] := by
        funext r
        cases r with
        | zero => rfl
        | succ r => rfl
      rw [← this]
      exact g1
end Go.Ev
namespace Go.Ev
open Go
set_option linter.unusedVariables false
end Go.Ev
namespace Erx
def errX {σ β : Type} (err : Nat → σ → β → Int) (st : Nat → σ → β → σ) (l : List β) (s : σ) : Sum (Int × Nat × σ) σ := Go.Ev.foldX (fun i s p => bif err i s p == 0 then .inr (st i s p) else .inl (err i s p, i, s)) 0 l s
def errE {σ : Type} : Sum (Int × Nat × σ) σ → Int
  | .inl x => x.1
  | .inr _ => 0
def errS {σ : Type} : Sum (Int × Nat × σ) σ → σ
  | .inl x => x.2.2
  | .inr s => s
def errI {σ : Type} (n : Nat) : Sum (Int × Nat × σ) σ → Nat
  | .inl x => x.2.1
  | .inr _ => n
def sL {α β : Type} : Sum α β → Bool
  | .inl _ => true
  | .inr _ => false
def sG {α : Type} (d : α) : Sum α Unit → α
  | .inl x => x
  | .inr _ => d
end Erx
namespace Go.Ev
open Go Erx
set_option linter.unusedVariables false
theorem err_of {T : Tab} {fid lid base : Nat} {c : Code} {σ β : Type} (l : List β) (err : Nat → σ → β → Int) (st : Nat → σ → β → σ) (Inv : Nat → σ → Prop) (S : Int → σ → List AV) (SH : σ → Hp) (R : Int → Nat → σ → Out × List AV × Hp) (E : σ → Out × List AV × Hp)
    (h : ∀ (i : Nat) x s, l[i]? = some x → i < l.length → Inv i s → ∀ again : List AV → Hp → Option (Out × List AV × Hp), lpStep T fid lid base c again (S i s) (SH s) = bif err i s x == 0 then again (S ((i + 1 : Nat) : Int) (st i s x)) (SH (st i s x)) else some (R (err i s x) i s))
    (hi : ∀ (i : Nat) x s, l[i]? = some x → i < l.length → Inv i s → err i s x = 0 → Inv (i + 1) (st i s x))
    (he : ∀ s, Inv l.length s → ∀ again : List AV → Hp → Option (Out × List AV × Hp), lpStep T fid lid base c again (S (l.length : Nat) s) (SH s) = some (E s)) (s0 : σ) (h0 : Inv 0 s0) :
    ∃ m, lpRun T fid lid base c m (S 0 s0) (SH s0) = some (bif errE (errX err st l s0) == 0 then E (errS (errX err st l s0)) else R (errE (errX err st l s0)) (errI 0 (errX err st l s0)) (errS (errX err st l s0))) := by
  obtain ⟨m, hm⟩ := each_of (T := T) (fid := fid) (lid := lid) (base := base) (c := c) l Inv (fun i s p => bif err i s p == 0 then .inr (st i s p) else .inl (R (err i s p) i s)) S SH E
    (fun i x s hx hlt hI again => by
      rw [h i x s hx hlt hI]
      cases err i s x == 0 <;> rfl)
    (fun i x s s' hx hlt hI hf => by
      cases he : err i s x == 0 with
      | true => rw [he] at hf; cases hf; exact hi i x s hx hlt hI (beq_iff_eq.1 he)
      | false => rw [he] at hf; cases hf) he s0 h0
  refine ⟨m, hm.trans (congrArg some ?_)⟩
  have main : ∀ (l : List β) (i : Nat) (s : σ), endX E (foldX (fun i s p => bif err i s p == 0 then .inr (st i s p) else .inl (R (err i s p) i s)) i l s) =
      bif errE (foldX (fun i s p => bif err i s p == 0 then .inr (st i s p) else .inl (err i s p, i, s)) i l s) == 0 then E (errS (foldX (fun i s p => bif err i s p == 0 then .inr (st i s p) else .inl (err i s p, i, s)) i l s))
      else R (errE (foldX (fun i s p => bif err i s p == 0 then .inr (st i s p) else .inl (err i s p, i, s)) i l s)) (errI 0 (foldX (fun i s p => bif err i s p == 0 then .inr (st i s p) else .inl (err i s p, i, s)) i l s)) (errS (foldX (fun i s p => bif err i s p == 0 then .inr (st i s p) else .inl (err i s p, i, s)) i l s)) := by
    intro l
    induction l with
    | nil => intro i s; rfl
    | cons x l ih =>
      intro i s
      simp only [foldX]
      cases he : err i s x == 0 with
      | true => exact ih (i + 1) (st i s x)
      | false =>
        simp only [cond_false, endX, errE, errI, errS, he]
  exact main l 0 s0
theorem pick_of {T : Tab} {fid lid base : Nat} {c : Code} {α β : Type} (l : List β) (g : Nat → β → Sum α Unit) (S : Int → List AV) (H : Hp) (R : α → Out × List AV × Hp) (E : Out × List AV × Hp) (d : α)
    (h : ∀ (i : Nat) x, l[i]? = some x → i < l.length → ∀ again : List AV → Hp → Option (Out × List AV × Hp), lpStep T fid lid base c again (S i) H = match g i x with | .inl a => some (R a) | .inr _ => again (S ((i + 1 : Nat) : Int)) H)
    (he : ∀ again : List AV → Hp → Option (Out × List AV × Hp), lpStep T fid lid base c again (S (l.length : Nat)) H = some E) :
    ∃ m, lpRun T fid lid base c m (S 0) H = some (bif sL (foldX (fun i (_ : Unit) x => g i x) 0 l ()) then R (sG d (foldX (fun i (_ : Unit) x => g i x) 0 l ())) else E) := by
  obtain ⟨m, hm⟩ := each_of (T := T) (fid := fid) (lid := lid) (base := base) (c := c) (σ := Unit) l (fun _ _ => True) (fun i _ x => match g i x with | .inl a => .inl (R a) | .inr _ => .inr ()) (fun i _ => S i) (fun _ => H) (fun _ => E)
    (fun i x s hx hlt _ again => by
      rw [h i x hx hlt]
      cases g i x <;> rfl) (fun _ _ _ _ _ _ _ _ => trivial) (fun _ _ again => he again) () trivial
  refine ⟨m, hm.trans (congrArg some ?_)⟩
  have main : ∀ (l : List β) (i : Nat), endX (fun _ => E) (foldX (fun i (_ : Unit) x => match g i x with | .inl a => .inl (R a) | .inr _ => .inr ()) i l ()) = bif sL (foldX (fun i (_ : Unit) x => g i x) i l ()) then R (sG d (foldX (fun i (_ : Unit) x => g i x) i l ())) else E := by
    intro l
    induction l with
    | nil => intro i; rfl
    | cons x l ih =>
      intro i
      simp only [foldX]
      cases g i x with
      | inl a => rfl
      | inr _ => exact ih (i + 1)
  exact main l 0
end Go.Ev
namespace Go.Ev
open Go Go.RowKit Go.ChangeShapes Go.WideShapes
set_option linter.unusedVariables false
section
variable {H : Type} {enc : TypeId × Value → H} {P : Program} {W : World} {base : Nat} {sp : Nat → Bool} {held : Bool}
theorem at_one {cs : List Value} {o : Nat} {v : Value} (h : (cs.drop o).take 1 = [v]) : cs.toArray[o]? = some v := by
  have h1 := congrArg (fun l => l[0]?) h
  simp only [List.getElem?_take, List.getElem?_drop] at h1
  rw [List.getElem?_toArray]
  simpa using h1
theorem wf_u8 {z : Int} (h : (Lit.int .u8 z).wf = true) : 0 ≤ z ∧ z < 256 := by
  simp [Lit.wf, IntKind.min, IntKind.max, IntKind.signed, IntKind.bits] at h; omega
theorem wf_u32 {z : Int} (h : (Lit.int .u32 z).wf = true) : 0 ≤ z ∧ z < 4294967296 := by
  simp [Lit.wf, IntKind.min, IntKind.max, IntKind.signed, IntKind.bits] at h; omega
end
end Go.Ev
namespace Go.Ev
open Go Go.RowKit Go.ChangeShapes
set_option linter.unusedVariables false
set_option linter.unusedSimpArgs false
section read
variable {H : Type} {enc : TypeId × Value → H} {P : Program} {W : World} {base : Nat} {sp : Nat → Bool} {held : Bool} {fuel : Nat}
end read
end Go.Ev
