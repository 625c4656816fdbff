/- Iterators over strings: a block that is no row may change behind the evaluator's back. -/
import Derived.Test.YtajhpbahjindkaaDoorEvE
import Derived.Test.YtajhpbahjindkaaDoorEvF
import Derived.Laws.RangeAny
set_option linter.unusedVariables false
set_option linter.unusedSimpArgs false
namespace Go.Ev
open Go
set_option linter.unusedVariables false
def noCells : Obj → Bool
  | .cells .. => false
  | _ => true
def putObj (w : World) (b : Nat) (o : Obj) : World := { w with heap := w.heap.setIfInBounds b o }
theorem put_other (w : World) (b : Nat) (o : Obj) {k : Nat} (h : k ≠ b) : (putObj w b o).heap[k]? = w.heap[k]? := by
  unfold putObj
  simp only
  rw [Array.getElem?_setIfInBounds_ne (fun e => h e.symm)]
theorem put_same (w : World) (b : Nat) (o : Obj) (h : b < w.heap.size) : (putObj w b o).heap[b]? = some o := by
  unfold putObj
  simp only
  rw [Array.getElem?_setIfInBounds_self_of_lt h]
theorem put_size (w : World) (b : Nat) (o : Obj) : (putObj w b o).heap.size = w.heap.size := by
  unfold putObj
  simp
theorem put_cell {w : World} {b : Nat} {o o' : Obj} (hb : w.heap[b]? = some o) (ho : noCells o = true) (ho' : noCells o' = true) (a : Addr) : (putObj w b o').cell? a = w.cell? a := by
  unfold World.cell?
  by_cases e : a.block = b
  · rw [e, hb, put_same w b o' (by
      rcases Nat.lt_or_ge b w.heap.size with h | h
      · exact h
      · rw [Array.getElem?_eq_none h] at hb; cases hb)]
    cases o <;> cases o' <;> first | rfl | exact absurd ho Bool.false_ne_true | exact absurd ho' Bool.false_ne_true
  · rw [put_other w b o' e]
theorem put_frozen {w : World} {b : Nat} {o' : Obj} {a : Addr} (h : a.block ≠ b) : (putObj w b o').frozen? a = w.frozen? a := by
  unfold World.frozen?
  rw [put_other w b o' h]
section
variable {T : Tab} {S : Stab} {w : World} {L : Loc} {h : Hs} {ids : List Nat}
theorem St.put (hst : St T S w L h ids) {b : Nat} {o o' : Obj} (hb : w.heap[b]? = some o) (ho : noCells o = true) (ho' : noCells o' = true) : St T S (putObj w b o') L h ids := by
  have hstay : Stays S w (putObj w b o') := fun b' q _ => put_cell hb ho ho' _
  refine ⟨⟨fun r row hr => ?_, hst.inv.disj, fun b' q hbq => ?_⟩, hst.nd, hst.fresh, hst.dom, hst.glob.mono (fun _ _ h => h) hstay⟩
  · rcases hst.inv.rows r row hr with h1 | ⟨p, h1, h2⟩
    · exact .inl h1
    · refine .inr ⟨p, h1, h2.world (fun _ _ h => h) hstay (Loc.le_refl _) (put_other w b o' fun e => ?_) h2.st⟩
      obtain ⟨arr, bt, hc, _⟩ := h2.blk
      rw [e, hb] at hc
      injection hc with hc
      subst hc
      cases ho
  · rw [put_size]; exact hst.inv.stab b' q hbq
theorem Ext.put {w0 : World} {S0 : Stab} {L0 : Loc} (he : Ext w0 S0 L0 w S L) {b : Nat} {o o' : Obj} (h0 : w0.heap.size ≤ b) (hb : w.heap[b]? = some o) (ho : noCells o = true) (ho' : noCells o' = true) : Ext w0 S0 L0 (putObj w b o') S L where
  sub := he.sub
  stays b' q hbq := (put_cell hb ho ho' _).trans (he.stays b' q hbq)
  le := he.le
  Snew := he.Snew
  blocks b' hb' hn := (put_other w b o' (by omega)).trans (he.blocks b' hb' hn)
  size := by rw [put_size]; exact he.size
  os := he.os
  tape := he.tape
  output := he.output
  Lnew := he.Lnew
  frz a ha := (put_frozen (by omega)).trans (he.frz a ha)
  shape b' arr bt hbb := by
    have hlt := lt_of_heap hbb
    obtain ⟨arr', h1, h2⟩ := he.shape b' arr bt hbb
    exact ⟨arr', (put_other w b o' (by omega)).trans h1, h2⟩
theorem CS.put {n : Nat} {w0 : World} {S0 : Stab} {L0 : Loc} {fr : Fr} {H : Hp} {a : Act} (hcs : CS T n w0 S0 L0 fr H a w S L) {b : Nat} {o o' : Obj} (h0 : w0.heap.size ≤ b) (hb : w.heap[b]? = some o) (ho : noCells o = true) (ho' : noCells o' = true) : CS T n w0 S0 L0 fr H a (putObj w b o') S L :=
  ⟨St.put hcs.st hb ho ho', fun t => Rel.mono (fun _ _ h => h) (fun b' q _ => put_cell hb ho ho' _) _ (Loc.le_refl _) (hcs.fr t), hcs.size, hcs.dfr, Ext.put hcs.ext h0 hb ho ho'⟩
end
theorem run_next_at {P : Program} (w : World) (b : Nat) (s : ByteArray) (pos : Nat) (ty : TypeId) (hb : w.heap[b]? = some (.stringIter s pos)) (h : pos < s.size) :
    (Instr.next (.pointer (some ⟨b, 0, none⟩)) true ty).run P w = .ok (.tuple #[.bool true, .int .i64 pos, .int .i32 (Utf8.decode s pos).1]) (putObj w b (.stringIter s (pos + (Utf8.decode s pos).2))) := by
  simp only [Instr.next, getObj, setObj, Sem.run_bind, Sem.run, hb, Result.andThen, h, if_true]
  simp [goInt, putObj]
theorem run_next_out {P : Program} (w : World) (b : Nat) (s : ByteArray) (pos : Nat) (ty : TypeId) (hb : w.heap[b]? = some (.stringIter s pos)) (h : ¬ pos < s.size) :
    (Instr.next (.pointer (some ⟨b, 0, none⟩)) true ty).run P w = .ok (.tuple #[.bool false]) w := by
  simp [Instr.next, getObj, Sem.run, hb, h]
end Go.Ev
namespace Go.Ev
open Go
set_option linter.unusedVariables false
section
variable {T : Tab} {S : Stab} {w : World} {L : Loc}
theorem CS.keepFr {n : Nat} {w0 : World} {S0 : Stab} {L0 : Loc} {fr : Fr} {H : Hp} {a : Act} (h : CS T n w0 S0 L0 fr H a w S L) (K : List Nat) : CS T n w0 S0 L0 (mkFr K (K.map (get fr))) H a w S L :=
  ⟨h.st, fun t => by
    have := get_mkFr (f := fun v => v) (us := fun t => a.tmps.getD t undef) h.fr K t
    rwa [List.map_id'] at this, h.size, h.dfr, h.ext⟩
theorem CS.base {n : Nat} {w0 w1 : World} {S0 S1 : Stab} {L0 L1 : Loc} {fr : Fr} {H : Hp} {a : Act} (h : CS T n w1 S1 L1 fr H a w S L) (he : Ext w0 S0 L0 w1 S1 L1) : CS T n w0 S0 L0 fr H a w S L :=
  ⟨h.st, h.fr, h.size, h.dfr, he.trans h.ext⟩
theorem CS.self {n : Nat} {w0 : World} {S0 : Stab} {L0 : Loc} {fr : Fr} {H : Hp} {a : Act} (h : CS T n w0 S0 L0 fr H a w S L) : CS T n w S L fr H a w S L :=
  ⟨h.st, h.fr, h.size, h.dfr, Ext.refl _ _ _⟩
theorem CS.none {n : Nat} {w0 : World} {S0 : Stab} {L0 : Loc} {fr : Fr} {a : Act} (h : CS T n w0 S0 L0 fr [] a w S L) (r : Nat) : L r = none :=
  h.st.fresh r (.inr ⟨0, rfl, Nat.zero_le _⟩)
theorem CS.set {n : Nat} {w0 : World} {S0 : Stab} {L0 : Loc} {fr : Fr} {H : Hp} {a : Act} (h : CS T n w0 S0 L0 fr H a w S L) {d : Nat} (hd : d < n) {v : AV} {u : Value} (hv : Rel T.P S w v L u) : CS T n w0 S0 L0 ((d, v) :: fr) H (a.put (some d) u) w S L := by
  refine ⟨h.st, fun t => ?_, by simp [Act.put, h.size], h.dfr, h.ext⟩
  have hg : get ((d, v) :: fr) t = if some d = some t then v else get fr t := get_put fr (some d) v t
  rw [hg]
  by_cases e : d = t
  · subst e
    simp only [if_true, Act.put, Array.getD_eq_getD_getElem?]
    rw [Array.getElem?_setIfInBounds_self_of_lt (by rw [h.size]; exact hd)]
    exact hv
  · have e' : ¬ (some d = some t) := fun q => e (by injection q)
    simp only [e', if_false, Act.put, Array.getD_eq_getD_getElem?]
    rw [Array.getElem?_setIfInBounds_ne e]
    have := h.fr t
    rwa [Array.getD_eq_getD_getElem?] at this
theorem alloc_old (w : World) (o : Obj) {k : Nat} (h : k < w.heap.size) : (w.alloc o).heap[k]? = w.heap[k]? := by
  show (w.heap.push o)[k]? = _
  rw [Array.getElem?_push_lt h, Array.getElem?_eq_getElem h]
theorem alloc_cell {w : World} {o : Obj} {a : Addr} (h : a.block < w.heap.size) : (w.alloc o).cell? a = w.cell? a := by
  unfold World.cell?
  rw [alloc_old w o h]
theorem CS.push {n : Nat} {w0 : World} {S0 : Stab} {L0 : Loc} {fr : Fr} {H : Hp} {a : Act} (h : CS T n w0 S0 L0 fr H a w S L) (o : Obj) : CS T n w0 S0 L0 fr H a (w.alloc o) S L := by
  have hstay : Stays S w (w.alloc o) := fun b q hb => alloc_cell (h.st.inv.stab b q hb)
  have hz : (w.alloc o).heap.size = w.heap.size + 1 := by simp
  refine ⟨⟨⟨fun r row hr => ?_, h.st.inv.disj, fun b q hbq => ?_⟩, h.st.nd, h.st.fresh, h.st.dom, h.st.glob.mono (fun _ _ h => h) hstay⟩, fun t => (h.fr t).mono (fun _ _ h => h) hstay _ (Loc.le_refl _), h.size, h.dfr, h.ext.trans ⟨fun _ _ h => h, hstay, Loc.le_refl _, fun _ _ h => .inl h, fun b hb _ => alloc_old w o hb, by rw [hz]; omega, rfl, rfl, rfl, fun r p h => .inl ⟨r, p, h, rfl⟩, fun a ha => ?_, fun b arr bt hb => ⟨arr, ?_, rfl⟩⟩⟩
  · rcases h.st.inv.rows r row hr with h1 | ⟨p, h1, h2⟩
    · exact .inl h1
    · refine .inr ⟨p, h1, h2.world (fun _ _ h => h) hstay (Loc.le_refl _) (alloc_old w o ?_) h2.st⟩
      obtain ⟨arr, bt, hc, _⟩ := h2.blk
      exact lt_of_heap hc
  · rw [hz]; have := h.st.inv.stab b q hbq; omega
  · unfold World.frozen?; rw [alloc_old w o ha]
  · rw [alloc_old w o (lt_of_heap hb)]; exact hb
end
def strNext : Code → Option (Nat × Nat × Nat × Code)
  | .seq (.region _ ops false) rest => match ops.toList with
    | [⟨some nx, .next (.tmp it) true, _, _, _, none⟩, ⟨some bo, .extract (.tmp nx') 0, _, _, _, none⟩] => match Nat.beq nx nx' with
      | true => some (it, nx, bo, rest)
      | false => none
    | _ => none
  | _ => none
def strStart : Code → Option (Nat × TypeId × Nat × Nat)
  | .region _ ops false => match ops.toList with
    | [⟨some y, .move (.tmp x), _, _, _, none⟩, ⟨some it, .range ty (.tmp y'), _, _, _, none⟩] => match Nat.beq y y' with
      | true => some (x, ty, y, it)
      | false => none
    | _ => none
  | _ => none
theorem wanted_none {o : Oper} {y : Nat → Option Bool} (h : o.guard = none) : Region.wanted o y = true := by
  unfold Region.wanted
  rw [h]
theorem ops_two {ops : Array Oper} {a b : Oper} (h : ops.toList = [a, b]) : ops = #[a, b] := by
  apply Array.ext'
  rw [h]
theorem wp_two {P : Program} {Q : Exit → Act → World → Prop} {id : Nat} {o1 o2 : Oper} (h1 : o1.guard = none) (h2 : o2.guard = none) {a : Act} {w : World}
    (h : o1.wp P a w (fun a' w' => o2.wp P a' w' (Q .normal) Q) Q) : (Code.region id #[o1, o2] false).wp P Q a w := by
  refine wp_region ?_
  show wpOps P #[o1, o2] Q [0, 1] a w
  rw [wpOps_cons]
  unfold wpOp
  have e1 : (#[o1, o2] : Array Oper)[0]? = some o1 := rfl
  have e2 : (#[o1, o2] : Array Oper)[1]? = some o2 := rfl
  simp only [e1]
  rw [if_pos (wanted_none h1)]
  refine .inl (Oper.wp_mono (fun a' w' hh => ?_) h)
  rw [wpOps_cons]
  unfold wpOp
  simp only [e2]
  rw [if_pos (wanted_none h2)]
  exact .inl (Oper.wp_mono (fun a'' w'' hh => hh) hh)
theorem lt_of_heap' {w : World} {b : Nat} {o : Obj} (h : w.heap[b]? = some o) : b < w.heap.size := by
  rcases Nat.lt_or_ge b w.heap.size with h1 | h1
  · exact h1
  · rw [Array.getElem?_eq_none h1] at h; cases h
section
variable {T : Tab} {S : Stab} {w : World} {L : Loc}
@[reducible] def ptrOf (b : Nat) : AV := .sc (.pointer (some ⟨b, 0, none⟩))
theorem wp_start {c : Code} {x y it : Nat} {ty : TypeId} (hc : strStart c = some (x, ty, y, it)) {n : Nat} {w0 : World} {S0 : Stab} {L0 : Loc} {fr : Fr} {H : Hp} {a : Act} (h : CS T n w0 S0 L0 fr H a w S L) (hy : y < n) (hi : it < n)
    {s : ByteArray} (hx : get fr x = .sc (.string s)) (ht : T.P.underlying ty = some .string) {Q : Exit → Act → World → Prop}
    (hQ : ∀ a' w' b, CS T n w0 S0 L0 ((it, ptrOf b) :: (y, .sc (.string s)) :: fr) H a' w' S L → w'.heap[b]? = some (.stringIter s 0) → w0.heap.size ≤ b → Q .normal a' w') : c.wp T.P Q a w := by
  unfold strStart at hc
  split at hc
  · rename_i id ops
    split at hc
    · rename_i y1 x1 t1 p1 f1 it1 ty1 y2 t2 p2 f2 hops
      split at hc
      · rename_i hyy
        have hyy := Nat.eq_of_beq_eq_true hyy
        subst hyy
        simp only [Option.some.injEq, Prod.mk.injEq] at hc
        obtain ⟨rfl, rfl, rfl, rfl⟩ := hc
        rw [ops_two hops]
        refine wp_two rfl rfl ?_
        have hv : a.tmps.getD x1 undef = .string s := by
          have := h.fr x1
          rw [hx] at this
          simpa only [Rel] using this
        have h1 := h.set hy (v := .sc (.string s)) (u := .string s) (by simp only [Rel])
        unfold Oper.wp
        simp only [execOp, Act.eval, hv, Sem.run_pure, Oper.upon]
        have hv2 : (a.put (some y1) (.string s)).tmps.getD y1 undef = .string s := by
          have := h1.fr y1
          simp only [get, Nat.beq_refl] at this
          simpa only [Rel] using this
        have hr := run_range_string (P := T.P) w ty1 s ht
        simp only [hv2, Sem.run_bind, hr, Result.andThen_ok, Sem.run_pure]
        have h2 := h1.push (.stringIter s 0)
        exact hQ _ _ w.heap.size (h2.set hi (v := ptrOf w.heap.size) (by simp only [Rel])) (World.iter_heap w s 0) h.ext.size
      · cases hc
    · cases hc
  · cases hc
theorem run_extract0 {P : Program} (w : World) (v : Value) (vs : List Value) : (Instr.extract (.tuple (v :: vs).toArray) 0).run P w = .ok v w := by
  simp [Instr.extract]
theorem wp_next {c rest : Code} {it nx bo : Nat} (hc : strNext c = some (it, nx, bo, rest)) {n : Nat} {w0 : World} {S0 : Stab} {L0 : Loc} {fr : Fr} {H : Hp} {a : Act} (h : CS T n w0 S0 L0 fr H a w S L) (hn : nx < n) (hb : bo < n)
    {s : ByteArray} {pos b : Nat} (hi : get fr it = ptrOf b) (hw : w.heap[b]? = some (.stringIter s pos)) (h0 : w0.heap.size ≤ b) {Q : Exit → Act → World → Prop}
    (hin : pos < s.size → ∀ a' w', CS T n w0 S0 L0 ((bo, vb true) :: (nx, .tuple [vb true, vi pos, .sc (.int .i32 (Utf8.decode s pos).1)]) :: fr) H a' w' S L → w'.heap[b]? = some (.stringIter s (pos + (Utf8.decode s pos).2)) → rest.wp T.P Q a' w')
    (hout : ¬ pos < s.size → ∀ a' w', CS T n w0 S0 L0 ((bo, vb false) :: (nx, .tuple [vb false]) :: fr) H a' w' S L → rest.wp T.P Q a' w') : c.wp T.P Q a w := by
  unfold strNext at hc
  split at hc
  · rename_i id ops rest1
    split at hc
    · rename_i nx1 it1 t1 p1 f1 bo1 nx2 t2 p2 f2 hops
      split at hc
      · rename_i hnn
        have hnn := Nat.eq_of_beq_eq_true hnn
        subst hnn
        simp only [Option.some.injEq, Prod.mk.injEq] at hc
        obtain ⟨rfl, rfl, rfl, rfl⟩ := hc
        rw [ops_two hops]
        refine wp_seq (wp_two rfl rfl ?_)
        have hv : a.tmps.getD it1 undef = .pointer (some ⟨b, 0, none⟩) := by
          have := h.fr it1
          rw [hi] at this
          simpa only [Rel] using this
        by_cases hp : pos < s.size
        · have hr := run_next_at (P := T.P) w b s pos t1 hw hp
          unfold Oper.wp
          simp only [execOp, Act.eval, hv, Sem.run_bind, hr, Result.andThen_ok, Sem.run_pure, Oper.upon]
          have h1 := (h.put (o' := .stringIter s (pos + (Utf8.decode s pos).2)) h0 hw rfl rfl).set hn (v := .tuple [vb true, vi pos, .sc (.int .i32 (Utf8.decode s pos).1)]) (u := .tuple #[.bool true, .int .i64 pos, .int .i32 (Utf8.decode s pos).1]) (by
            simp only [Rel]
            exact ⟨_, rfl, by simp [RelL, Rel]⟩)
          have hv2 : (a.put (some nx1) (.tuple #[.bool true, .int .i64 pos, .int .i32 (Utf8.decode s pos).1])).tmps.getD nx1 undef = .tuple #[.bool true, .int .i64 pos, .int .i32 (Utf8.decode s pos).1] := by
            simp only [Act.put, Array.getD_eq_getD_getElem?]
            rw [Array.getElem?_setIfInBounds_self_of_lt (by rw [h.size]; exact hn)]
            rfl
          have hr2 := run_extract0 (P := T.P) (putObj w b (.stringIter s (pos + (Utf8.decode s pos).2))) (.bool true) [.int .i64 pos, .int .i32 (Utf8.decode s pos).1]
          simp only [hv2, hr2, Result.andThen_ok]
          exact hin hp _ _ (h1.set hb (v := vb true) (by simp only [Rel])) (put_same w b _ (by
            rcases Nat.lt_or_ge b w.heap.size with h | h
            · exact h
            · rw [Array.getElem?_eq_none h] at hw; cases hw))
        · have hr := run_next_out (P := T.P) w b s pos t1 hw hp
          unfold Oper.wp
          simp only [execOp, Act.eval, hv, Sem.run_bind, hr, Result.andThen_ok, Sem.run_pure, Oper.upon]
          have h1 := h.set hn (v := .tuple [vb false]) (u := .tuple #[.bool false]) (by
            simp only [Rel]
            exact ⟨_, rfl, by simp [RelL, Rel]⟩)
          have hv2 : (a.put (some nx1) (.tuple #[.bool false])).tmps.getD nx1 undef = .tuple #[.bool false] := by
            simp only [Act.put, Array.getD_eq_getD_getElem?]
            rw [Array.getElem?_setIfInBounds_self_of_lt (by rw [h.size]; exact hn)]
            rfl
          have hr2 := run_extract0 (P := T.P) w (.bool false) []
          simp only [hv2, hr2, Result.andThen_ok]
          exact hout hp _ _ (h1.set hb (v := vb false) (by simp only [Rel]))
      · cases hc
    · cases hc
  · cases hc
def kNrm (K : List Nat) (o : Out) (fr : Fr) (H : Hp) : Option (List AV) := match o, H with
  | .nrm, [] => some (K.map (get fr))
  | _, _ => none
def kExt (id : Nat) (K : List Nat) (o : Out) (fr : Fr) (H : Hp) : Option (List AV) := match o, H with
  | .ext j, [] => match Nat.beq j id with
    | true => some (K.map (get fr))
    | false => none
  | _, _ => none
theorem str_rounds {fid : Nat} {f : Func} {body : Code} (hT : TabOK T) (hf : T.fn fid = some f) (hbody : f.body = some body) {c rest : Code} {it nx bo id : Nat} (hc : strNext c = some (it, nx, bo, rest)) (hn : nx < f.ntmps) (hb : bo < f.ntmps)
    (hok : codeOK f.ntmps rest = true) (hl : ∀ p ∈ loopsIn rest, p ∈ loopsIn body) {K : List Nat} {kv : Nat → List AV} {s : ByteArray} (hit : ∀ b, get (mkFr K (kv b)) it = ptrOf b)
    (hadv : ∀ pos, pos < s.size → 0 < (Utf8.decode s pos).2)
    {I : Nat → Prop} (hI : ∀ pos, I pos → pos < s.size → I (pos + (Utf8.decode s pos).2))
    (hround : ∀ pos b, I pos → pos < s.size → evC T fid 0 rest (kNrm K) ((bo, vb true) :: (nx, .tuple [vb true, vi pos, .sc (.int .i32 (Utf8.decode s pos).1)]) :: mkFr K (kv b)) [] = some (kv b))
    (hend : ∀ b, evC T fid 0 rest (kExt id K) ((bo, vb false) :: (nx, .tuple [vb false]) :: mkFr K (kv b)) [] = some (kv b))
    {w0 : World} {S0 : Stab} {L0 : Loc} {Q : Exit → Act → World → Prop} {b : Nat} (hQ : ∀ a' w' S' L', CS T f.ntmps w0 S0 L0 (mkFr K (kv b)) [] a' w' S' L' → Q (.exit id) a' w') (h0 : w0.heap.size ≤ b) :
    ∀ (m pos : Nat), s.size - pos ≤ m → I pos → ∀ (a : Act) (w : World) (S : Stab) (L : Loc), CS T f.ntmps w0 S0 L0 (mkFr K (kv b)) [] a w S L → w.heap[b]? = some (.stringIter s pos) → RoundWp T.P c Q a w := by
  intro m
  induction m with
  | zero =>
    intro pos hm hi a w S L hcs hw
    refine RoundWp.unroll (wp_next hc hcs hn hb (hit b) hw h0 (fun hp => by omega) fun _ a' w' hcs' => ?_)
    refine evC_sound hT hf hbody (fun r _ => hcs'.none r) rest hok hl _ _ _ (hend b) a' w' S L hcs'.self (Nat.zero_le _) _ ?_
    intro o fr' H' hk _ a2 w2 S2 L2 h2
    unfold kExt at hk
    split at hk
    · rename_i j _
      split at hk
      · rename_i hj
        have hj := Nat.eq_of_beq_eq_true hj
        subst hj
        simp only [Option.some.injEq] at hk
        have h3 := (h2.base hcs'.ext).keepFr K
        rw [hk] at h3
        exact hQ _ _ _ _ h3
      · cases hk
    · cases hk
  | succ m ih =>
    intro pos hm hi a w S L hcs hw
    refine RoundWp.unroll (wp_next hc hcs hn hb (hit b) hw h0 (fun hp a' w' hcs' hw' => ?_) fun _ a' w' hcs' => ?_)
    · refine evC_sound hT hf hbody (fun r _ => hcs'.none r) rest hok hl _ _ _ (hround pos b hi hp) a' w' S L hcs'.self (Nat.zero_le _) _ ?_
      intro o fr' H' hk _ a2 w2 S2 L2 h2
      unfold kNrm at hk
      split at hk
      · simp only [Option.some.injEq] at hk
        have hblk : w2.heap[b]? = w'.heap[b]? := h2.ext.blocks b (lt_of_heap' hw') (fun ho => by
          obtain ⟨r, p, hr, _⟩ := ho
          rw [hcs'.none r] at hr
          cases hr)
        have h3 := (h2.base hcs'.ext).keepFr K
        rw [hk] at h3
        have := hadv pos hp
        exact ih (pos + (Utf8.decode s pos).2) (by omega) (hI pos hi hp) a2 w2 S2 L2 h3 (hblk.trans hw')
      · cases hk
    · refine evC_sound hT hf hbody (fun r _ => hcs'.none r) rest hok hl _ _ _ (hend b) a' w' S L hcs'.self (Nat.zero_le _) _ ?_
      intro o fr' H' hk _ a2 w2 S2 L2 h2
      unfold kExt at hk
      split at hk
      · rename_i j _
        split at hk
        · rename_i hj
          have hj := Nat.eq_of_beq_eq_true hj
          subst hj
          simp only [Option.some.injEq] at hk
          have h3 := (h2.base hcs'.ext).keepFr K
          rw [hk] at h3
          exact hQ _ _ _ _ h3
        · cases hk
      · cases hk
theorem piece {fid : Nat} {f : Func} {body : Code} (hT : TabOK T) (hf : T.fn fid = some f) (hbody : f.body = some body) {c : Code} (hok : codeOK f.ntmps c = true) (hl : ∀ p ∈ loopsIn c, p ∈ loopsIn body) {K : List Nat} {fr : Fr} {kv : List AV}
    (h : evC T fid 0 c (kNrm K) fr [] = some kv) {w0 : World} {S0 : Stab} {L0 : Loc} (hL : ∀ r, L0 r = none) {a : Act} (hcs : CS T f.ntmps w0 S0 L0 fr [] a w S L) {Q : Exit → Act → World → Prop}
    (hQ : ∀ a' w' S' L', CS T f.ntmps w0 S0 L0 (mkFr K kv) [] a' w' S' L' → Q .normal a' w') : c.wp T.P Q a w := by
  refine evC_sound hT hf hbody (fun r _ => hL r) c hok hl _ _ _ h a w S L hcs (Nat.zero_le _) _ ?_
  intro o fr' H' hk _ a2 w2 S2 L2 h2
  unfold kNrm at hk
  split at hk
  · simp only [Option.some.injEq] at hk
    have h3 := h2.keepFr K
    rw [hk] at h3
    exact hQ _ _ _ _ h3
  · cases hk
theorem pieceX {fid : Nat} {f : Func} {body : Code} (hT : TabOK T) (hf : T.fn fid = some f) (hbody : f.body = some body) {c : Code} (hok : codeOK f.ntmps c = true) (hl : ∀ p ∈ loopsIn c, p ∈ loopsIn body) {K : List Nat} {fr : Fr} {kv : List AV} {id : Nat}
    (h : evC T fid 0 c (kExt id K) fr [] = some kv) {w0 : World} {S0 : Stab} {L0 : Loc} (hL : ∀ r, L0 r = none) {a : Act} (hcs : CS T f.ntmps w0 S0 L0 fr [] a w S L) {Q : Exit → Act → World → Prop}
    (hQ : ∀ a' w' S' L', CS T f.ntmps w0 S0 L0 (mkFr K kv) [] a' w' S' L' → Q (.exit id) a' w') : c.wp T.P Q a w := by
  refine evC_sound hT hf hbody (fun r _ => hL r) c hok hl _ _ _ h a w S L hcs (Nat.zero_le _) _ ?_
  intro o fr' H' hk _ a2 w2 S2 L2 h2
  unfold kExt at hk
  split at hk
  · split at hk
    · rename_i hj
      have hj := Nat.eq_of_beq_eq_true hj
      subst hj
      simp only [Option.some.injEq] at hk
      have h3 := h2.keepFr K
      rw [hk] at h3
      exact hQ _ _ _ _ h3
    · cases hk
  · cases hk
end
end Go.Ev
