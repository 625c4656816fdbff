/- Each operation that is no call. -/
import Derived.Test.YtajhpbahjindkaaDoorEvC
set_option linter.unusedVariables false
set_option linter.unusedSimpArgs false
namespace Go.Ev
open Go
set_option linter.unusedVariables false
set_option linter.unusedSimpArgs false
section
variable {T : Tab} {S : Stab} {w : World} {L : Loc} {h : Hs} {ids : List Nat} {a : Act} {o : Oper} {fr : Fr}
theorem rel_cst {P : Program} (v : Value) : Rel P S w (cst v) L v := by
  unfold cst
  split
  · rename_i f x y
    split
    · rename_i hc
      simp only [Bool.and_eq_true, Array.isEmpty_iff] at hc
      obtain ⟨rfl, rfl⟩ := hc
      simp only [Rel, RelL]
      exact ⟨#[], #[], rfl, rfl, rfl⟩
    · simp only [Rel]
  · simp only [Rel]
  · simp only [Rel]
  · simp only [Rel]
theorem rel_opv (hg : GlobOK T S w) {x : Operand} (ht : ∀ t, x = .tmp t → Rel T.P S w (get fr t) L (a.tmps.getD t undef)) : Rel T.P S w (opv T fr x) L (a.eval x) := by
  cases x with
  | tmp t => exact ht t rfl
  | const v => exact rel_cst v
  | global g =>
    simp only [opv]
    split
    · rename_i c ty hgl
      exact (hg g c ty hgl).mono (fun _ _ h => h) (fun _ _ _ => rfl) _ (noLoc_le L)
    · simp only [Rel]
  | func f =>
    simp only [opv, Rel, RelL]
    exact ⟨#[], #[], rfl, rfl, rfl⟩
theorem pairUp_get {n : Nat} {l : List Int} {i : Nat} {p : Int × Int} (h : (pairUp n l)[i]? = some p) (hl : n * 2 ≤ l.length) : i < n ∧ l[i * 2]? = some p.1 ∧ l[i * 2 + 1]? = some p.2 := by
  unfold pairUp at h
  rw [List.getElem?_map] at h
  obtain ⟨j, hj, rfl⟩ := Option.map_eq_some_iff.1 h
  have hin : i < n := by
    rcases Nat.lt_or_ge i n with h' | h'
    · exact h'
    · rw [List.getElem?_eq_none (by simpa using h')] at hj; cases hj
  rw [List.getElem?_range hin] at hj
  cases hj
  refine ⟨hin, ?_, ?_⟩
  · show l[i * 2]? = some (l.getD (i * 2) 0)
    rw [List.getD_eq_getElem?_getD, List.getElem?_eq_getElem (by omega)]; rfl
  · show l[i * 2 + 1]? = some (l.getD (i * 2 + 1) 0)
    rw [List.getD_eq_getElem?_getD, List.getElem?_eq_getElem (by omega)]; rfl
theorem op_pairSlice {k : IntKind} {Q : AV → Hs → List Nat → Prop} {t : TypeId} {x : Operand} {lo hi mx : Option Operand} (ho : o.op = .slice t x lo hi mx) (hst : St T S w L h ids) (hx : Rel T.P S w (opv T fr x) L (a.eval x))
    (h1 : ∀ y, lo = some y → Rel T.P S w (opv T fr y) L (a.eval y)) (h2 : ∀ y, hi = some y → Rel T.P S w (opv T fr y) L (a.eval y)) (h3 : ∀ y, mx = some y → Rel T.P S w (opv T fr y) L (a.eval y))
    (hp : (pairSlice T t k (opv T fr x) (lo.map (opv T fr)) (hi.map (opv T fr)) (mx.map (opv T fr))).post h ids Q) : Runs T o a w S L Q := by
  unfold pairSlice at hp
  rw [HP.post_bind] at hp
  obtain ⟨v', h', S', hq, hst', hext, hv, hsg⟩ := post_normF hst hx hp
  clear hsg
  have hlo := relO_map fun y hy => (h1 y hy).mono hext.sub hext.stays _ hext.le
  have hhi := relO_map fun y hy => (h2 y hy).mono hext.sub hext.stays _ hext.le
  have hmx := relO_map fun y hy => (h3 y hy).mono hext.sub hext.stays _ hext.le
  have hrun : ∀ u, (Instr.sliceAt t (a.eval x) (lo.map a.eval) (hi.map a.eval) (mx.map a.eval)).run T.P w = .ok u w → (execOp a.eval o).run T.P w = .ok (.value u) w := by
    intro u hu
    simp [execOp, ho, hu]
  generalize lo.map (opv T fr) = lo1 at hlo hq
  generalize hi.map (opv T fr) = hi1 at hhi hq
  generalize mx.map (opv T fr) = mx1 at hmx hq
  generalize lo.map a.eval = lo2 at hlo hrun
  generalize hi.map a.eval = hi2 at hhi hrun
  generalize mx.map a.eval = mx2 at hmx hrun
  generalize a.eval x = u0 at hv hrun
  split at hq
  · rename_i n e c ty s hd
    have hd := desc_some hd (by simp)
    split at hq
    · rename_i k' l hs
      split at hq
      · rename_i hk
        rw [Bool.and_eq_true, decide_eq_true_eq, decide_eq_true_eq] at hk
        obtain ⟨hsz, rfl⟩ := hk
        obtain ⟨x', y', hq, hx', hy', hxy, hyl⟩ := bnds_post hlo hhi hq
        simp only [HP.post, decide_eq_true_eq] at hq
        obtain ⟨hle, hq⟩ := hq
        have hm2 : mx2 = none := by cases mx2 with
          | none => rfl
          | some u => exact hmx.elim
        subst hm2
        simp only [Rel] at hv
        obtain ⟨b, off, rfl, hc, hstb, hty⟩ := hv
        have hsl := lt_of_get hs
        have hz1 : zAt c s = 1 := by simp [zAt, hs, ET.size]
        obtain ⟨ti, hti, htz⟩ := info_of_sz (T := T) (e := e) (by omega)
        have hb := run_bounds (P := T.P) (w := w) (isSlice := false) (cap := n) hx' hy' (.inl ⟨rfl, rfl⟩) (Nat.le_refl _) hxy hyl
        have hr := (cont_get hc hs).1 (.int k) l rfl
        have hlen : (pairUp n l).length = n := by simp [pairUp]
        have hrp : RunR S' w (.pair k) (pairUp n l) (cellsAt w b) (off + contSize (c.take s)) := by
          intro i p hi
          obtain ⟨hin, g1, g2⟩ := pairUp_get hi hle
          have e1 := hr (i * 2) p.1 g1
          have e2 := hr (i * 2 + 1) p.2 g2
          simp only [ElR, ElR0, ET.size, Nat.mul_one] at e1 e2 ⊢
          exact ⟨e1, by rw [Nat.add_assoc]; exact e2⟩
        have hstr : StR S' b (off + contSize (c.take s)) ((pairUp n l).length * (ET.pair k).size) := by
          rw [hlen]
          have hc1 : contSize (c.take (s + 1)) ≤ contSize c := by
            conv => rhs; rw [← List.take_append_drop (s + 1) c]
            rw [contSize_append]; omega
          have : c.take (s + 1) = c.take s ++ [.run (.int k) l] := by
            rw [List.take_succ_eq_append_getElem hsl]
            congr 2
            have := List.getElem?_eq_getElem hsl
            rw [hs] at this
            exact (Option.some.inj this).symm
          rw [this, contSize_append] at hc1
          simp only [contSize, segSize, ET.size] at hc1
          exact StR.part hstb (by simp only [ET.size]; omega)
        have hsl0 : SlR S' w (.pair k) (pairUp n l) false (.slice (some ⟨b, off + contSize (c.take s), none⟩) (pairUp n l).length n) :=
          ⟨_, _, rfl, by omega, fun h => by simp at h, fun _ => ⟨b, _, rfl, hrp, hstr⟩⟩
        have hcut := slR_cut (x := x') (y := y') (m := n) false hsl0 (by rw [hlen]; exact hxy) (by rw [hlen]; exact hyl) (by rw [hlen]; exact hyl) (fun h => by simp at h)
        rw [hlen] at hcut
        refine ⟨_, h', ids, S', L, w, _, .slice (if n = x'.getD 0 then some ⟨b, off + contSize (c.take s), none⟩ else (some ⟨b, off + contSize (c.take s), none⟩ : Option Addr).map (·.add (x'.getD 0 * (ET.pair k).size))) (y'.getD n - x'.getD 0) (n - x'.getD 0), hq, hrun _ ?_, .inl rfl, ?_, hst', hext⟩
        · simp only [Instr.sliceAt, underlying, hd, Sem.run_bind, run_program, Result.andThen_ok, Sem.run_pure, Instr.sureAddr, hb, run_sizeOf hti, hz1, Nat.mul_one, Nat.add_zero, ET.size]
          rw [htz, hsz]
          split <;> simp
        · simp only [Rel]; exact hcut
      · exact hq.elim
    · exact hq.elim
  · exact hq.elim
def isCall (o : Oper) : Bool := match o.op with
  | .call c => match c.callee with
    | .builtin _ => false
    | _ => true
  | _ => false
theorem op_builtin {ρ : Operand → AV} {Q : AV → Hs → List Nat → Prop} {c : Call} {b : Builtin} (ho : o.op = .call c) (hc : c.callee = .builtin b) (hst : St T S w L h ids) (hx : ∀ x ∈ c.args.toList, Rel T.P S w (ρ x) L (a.eval x))
    (hp : (builtinV T b c.argTypes.toList (c.args.toList.map ρ)).post h ids Q) : Runs T o a w S L Q := by
  cases b with
  | len => exact op_lenCap (.inl rfl) ho hc hst hx hp
  | cap => exact op_lenCap (.inr rfl) ho hc hst hx hp
  | append => exact op_append ho hc hst hx hp
  | copy => exact op_copy ho hc hst hx hp
  | clear => exact op_clear ho hc hst hx hp
  | min => exact op_minMax (.inl rfl) ho hc hst hx hp
  | max => exact op_minMax (.inr rfl) ho hc hst hx hp
  | _ => exact hp.elim
theorem op_sound {Q : AV → Hs → List Nat → Prop} (hst : St T S w L h ids) (hx : ∀ x ∈ o.op.operands, Rel T.P S w (opv T fr x) L (a.eval x)) (hn : isCall o = false)
    (hp : (evOp T o fr).post h ids Q) : Runs T o a w S L Q := by
  have hp0 := hp
  unfold evOp at hp
  unfold isCall at hn
  split at hp
  · rename_i x ho
    exact op_move (.inl ho) hst (rel_typeNil (hx x (by simp [ho, Op.operands]))) hp
  · rename_i x ho
    exact op_move (.inr ho) hst (rel_typeNil (hx x (by simp [ho, Op.operands]))) hp
  · rename_i t ho
    exact op_alloc ho hst hp0
  · rename_i t x ho
    exact op_box ho hst (hx x (by simp [ho, Op.operands])) hp0
  · rename_i t ps ho
    exact op_build ho hst (fun p hm => hx p.2 (by simp only [ho, Op.operands]; simp; exact ⟨p.1, by simpa using hm⟩)) hp0
  · rename_i t n ps ho
    exact op_buildSlice ho hst (fun p hm => hx p.2 (by simp only [ho, Op.operands]; simp; exact ⟨p.1, by simpa using hm⟩)) hp0
  · rename_i t x ho
    exact op_load ho hst (hx x (by simp [ho, Op.operands])) hp0
  · rename_i t x y ho
    exact op_store ho hst (hx x (by simp [ho, Op.operands])) (hx y (by simp [ho, Op.operands])) hp0
  · rename_i x ho
    exact op_nilCheck ho hst (hx x (by simp [ho, Op.operands])) hp0
  · rename_i op t x y t' ho
    exact op_bin ho hst (hx x (by simp [ho, Op.operands])) (hx y (by simp [ho, Op.operands])) hp0
  · rename_i op t x ho
    exact op_un ho hst (hx x (by simp [ho, Op.operands])) hp0
  · rename_i s t x ho
    exact op_convert ho hst (hx x (by simp [ho, Op.operands])) hp0
  · rename_i f x y ho
    exact op_makeFunc ho hst (fun x hm => hx x (by simpa using hm)) hp0
  · rename_i t x ho
    exact op_makeInterface ho hst (hx x (by simp [ho, Op.operands])) hp0
  · rename_i t x y ho
    exact op_makeSlice ho hst (hx x (by simp [ho, Op.operands])) (hx y (by simp [ho, Op.operands])) hp0
  · rename_i t x lo hi mx ho
    dsimp only at hp
    split at hp
    · exact op_pairSlice ho hst (hx x (by simp [ho, Op.operands])) (fun y hy => hx y (by simp [ho, Op.operands, hy])) (fun y hy => hx y (by simp [ho, Op.operands, hy])) (fun y hy => hx y (by simp [ho, Op.operands, hy])) hp
    · exact op_slice ho hst (hx x (by simp [ho, Op.operands])) (fun y hy => hx y (by simp [ho, Op.operands, hy])) (fun y hy => hx y (by simp [ho, Op.operands, hy])) (fun y hy => hx y (by simp [ho, Op.operands, hy])) hp
  · rename_i t x f ho
    exact op_fieldAddr ho hst (hx x (by simp [ho, Op.operands])) hp0
  · rename_i t x y ho
    exact op_indexAddr ho hst (hx x (by simp [ho, Op.operands])) (hx y (by simp [ho, Op.operands])) hp0
  · rename_i t x y ho
    exact op_index ho hst (hx x (by simp [ho, Op.operands])) (hx y (by simp [ho, Op.operands])) hp0
  · rename_i x n ho
    exact op_extract ho hst (hx x (by simp [ho, Op.operands])) hp0
  · rename_i c ho
    rw [ho] at hn
    simp only at hn
    split at hp
    · rename_i b hc
      exact op_builtin ho hc hst (fun x hm => rel_slNil (hx x (by simp only [ho, Op.operands, Call.operands, hc]; simpa using hm))) hp
    · rename_i hc
      split at hn
      · rename_i b hb
        exact absurd hb (hc b)
      · cases hn
  · exact hp.elim
end
end Go.Ev
namespace Go.Ev
open Go
set_option linter.unusedVariables false
set_option linter.unusedSimpArgs false
section ren
variable {P : Program} {S : Stab} {w : World} {f : Nat → Nat} {L L' : Loc}
theorem segSize_ren (n : Nat) (f : Nat → Nat) (v : AV) : segSize (renV n f v) = segSize v := by
  cases n with
  | zero => cases v <;> rfl
  | succ n =>
    cases v with
    | agg c l => cases l <;> rfl
    | _ => rfl
theorem zOf_ren (n : Nat) (f : Nat → Nat) (v : AV) : zOf (renV n f v) = zOf v := by
  cases n with
  | zero => cases v <;> rfl
  | succ n =>
    cases v with
    | agg c l => cases l <;> rfl
    | _ => rfl
theorem single_ren (n : Nat) (f : Nat → Nat) (v : AV) : single (renV n f v) = single v := by
  cases n with
  | zero => cases v <;> rfl
  | succ n =>
    cases v with
    | agg c l => cases l <;> rfl
    | _ => rfl
theorem run_ren (n : Nat) (f : Nat → Nat) (v : AV) {e : ET} {l : List e.T} (h : renV n f v = .run e l) : v = .run e l := by
  cases n with
  | zero =>
    cases v with
    | run e' l' => exact h
    | _ => cases h
  | succ n =>
    cases v with
    | agg c l => cases l <;> cases h
    | run e' l' => exact h
    | _ => cases h
theorem contSize_ren (n : Nat) (f : Nat → Nat) (c : List AV) : contSize (c.map (renV n f)) = contSize c := by
  rw [contSize_sum, contSize_sum, List.map_map]
  congr 1
  apply List.map_congr_left
  intro v hv
  exact segSize_ren n f v
def RenOK (f : Nat → Nat) (L L' : Loc) (ids : List Nat) : Prop := ∀ r ∈ ids, ∀ x, L r = some x → L' (f r) = some x
theorem RenOK.mono {ids ids' : List Nat} (h : RenOK f L L' ids) (hs : ∀ r ∈ ids', r ∈ ids) : RenOK f L L' ids' := fun r hr => h r (hs r hr)
theorem osR_ren {r s i len : Nat} {a b c : Bool} {u : Value} (h : OsR L r s i len a b c u) (hf : ∀ x, L r = some x → L' (f r) = some x) : OsR L' (f r) s i len a b c u := by
  unfold OsR at *
  cases hr : L r with
  | none => rw [hr] at h; exact h.elim
  | some x => rw [hf x hr]; rw [hr] at h; exact h
theorem psR_ren {r s i j : Nat} {u : Value} (h : PsR L r s i j u) (hf : ∀ x, L r = some x → L' (f r) = some x) : PsR L' (f r) s i j u := by
  unfold PsR at *
  cases hr : L r with
  | none => rw [hr] at h; exact h.elim
  | some x => rw [hf x hr]; rw [hr] at h; exact h
theorem ren_all : ∀ (n : Nat),
    (∀ (v : AV) (u : Value), RenOK f L L' (idsOf n v) → Rel P S w v L u → (∀ e l, v ≠ .run e l) → Rel P S w (renV n f v) L' u)
  | 0 => fun v u _ _ hv => by
    cases v <;> first | (simp only [renV, Rel]; done) | exact absurd rfl (hv _ _)
  | n + 1 => by
    have ih := ren_all n
    have ihL : ∀ (vs : List AV) (us : List Value), RenOK f L L' ((vs.map (idsOf n)).flatten) → RelL P S w vs L us → RelL P S w (vs.map (renV n f)) L' us := by
      intro vs
      induction vs with
      | nil => intro us _ h; simpa [RelL] using h
      | cons v vs ihv =>
        intro us hf h
        simp only [RelL, List.map_cons] at h ⊢
        obtain ⟨u, rest, rfl, h1, h2⟩ := h
        refine ⟨u, rest, rfl, ih v u (hf.mono fun r hr => by simp [hr]) h1 ?_, ihv rest (hf.mono fun r hr => by simp at hr ⊢; exact .inr hr) h2⟩
        intro e l hv
        subst hv
        simp only [Rel] at h1
    have ihC : ∀ (c : List AV) (F : CellF) (o : Nat), RenOK f L L' ((c.map (idsOf n)).flatten) → Cont P S w c L F o → Cont P S w (c.map (renV n f)) L' F o := by
      intro c
      induction c with
      | nil => intro F o _ _; simp only [List.map_nil, Cont]
      | cons v c ihc =>
        intro F o hf h
        simp only [Cont, List.map_cons] at h ⊢
        obtain ⟨h0, h1, h2⟩ := h
        refine ⟨fun e l hv => h0 e l (run_ren n f v hv), fun hs => ?_, ?_⟩
        · rw [single_ren] at hs
          obtain ⟨u, hu, hr⟩ := h1 hs
          refine ⟨u, hu, ih v u (hf.mono fun r hr => by simp [hr]) hr ?_⟩
          intro e l hv
          subst hv
          simp [single] at hs
        · rw [segSize_ren]
          exact ihc F _ (hf.mono fun r hr => by simp at hr ⊢; exact .inr hr) h2
    intro v u hf h hv
    cases v with
    | dead => simp only [renV, Rel]
    | sc x => simpa only [renV, Rel] using h
    | run e l => exact absurd rfl (hv e l)
    | sl e l t => simpa only [renV, Rel] using h
    | slg vs t => simpa only [renV, Rel] using h
    | pt c ty s i j => simpa only [renV, Rel] using h
    | os r s i len a b c =>
      simp only [renV, Rel] at h ⊢
      exact osR_ren h (hf r (by simp [idsOf]))
    | ps r s i j =>
      simp only [renV, Rel] at h ⊢
      exact psR_ren h (hf r (by simp [idsOf]))
    | agg c l =>
      cases l with
      | false => simpa only [renV, Rel] using h
      | true =>
        simp only [renV, Rel] at h ⊢
        obtain ⟨arr, hu, hs, hc⟩ := h
        exact ⟨arr, hu, by rw [contSize_ren]; exact hs, ihC c _ _ hf hc⟩
    | fn g first caps =>
      simp only [renV, Rel] at h ⊢
      obtain ⟨fa, ca, hu, h1, h2⟩ := h
      exact ⟨fa, ca, hu, ihL first _ (hf.mono fun r hr => by simp only [idsOf, List.mem_append]; exact .inl hr) h1, ihL caps _ (hf.mono fun r hr => by simp only [idsOf, List.mem_append]; exact .inr hr) h2⟩
    | iface t x => simpa only [renV, Rel] using h
    | tuple vs =>
      simp only [renV, Rel] at h ⊢
      obtain ⟨arr, hu, h1⟩ := h
      exact ⟨arr, hu, ihL vs _ hf h1⟩
theorem Rel.ren {n : Nat} {v : AV} {u : Value} (hf : RenOK f L L' (idsOf n v)) (h : Rel P S w v L u) : Rel P S w (renV n f v) L' u :=
  ren_all n v u hf h (fun e l hv => by subst hv; simp only [Rel] at h)
theorem RelL.ren {n : Nat} : ∀ {vs : List AV} {us : List Value}, RenOK f L L' ((vs.map (idsOf n)).flatten) → RelL P S w vs L us → RelL P S w (vs.map (renV n f)) L' us
  | [], us, _, h => by simpa [RelL] using h
  | v :: vs, us, hf, h => by
    simp only [RelL, List.map_cons] at h ⊢
    obtain ⟨u, rest, rfl, h1, h2⟩ := h
    exact ⟨u, rest, rfl, Rel.ren (hf.mono fun r hr => by simp [hr]) h1, RelL.ren (hf.mono fun r hr => by simp at hr ⊢; exact .inr hr) h2⟩
theorem Cont.ren {n : Nat} {F : CellF} : ∀ {c : List AV} {o : Nat}, RenOK f L L' ((c.map (idsOf n)).flatten) → Cont P S w c L F o → Cont P S w (c.map (renV n f)) L' F o
  | [], o, _, _ => by simp only [List.map_nil, Cont]
  | v :: c, o, hf, h => by
    simp only [Cont, List.map_cons] at h ⊢
    obtain ⟨h0, h1, h2⟩ := h
    refine ⟨fun e l hv => h0 e l (run_ren n f v hv), fun hs => ?_, ?_⟩
    · rw [single_ren] at hs
      obtain ⟨u, hu, hr⟩ := h1 hs
      exact ⟨u, hu, Rel.ren (hf.mono fun r hr => by simp [hr]) hr⟩
    · rw [segSize_ren]
      exact Cont.ren (hf.mono fun r hr => by simp at hr ⊢; exact .inr hr) h2
theorem renRow_c (f : Nat → Nat) (row : Row) : (renRow f row).c = row.c ∨ (row.loose = true ∧ (renRow f row).c = row.c.map (renV 6 f)) := by
  unfold renRow
  cases h : row.loose with
  | false => exact .inl rfl
  | true => exact .inr ⟨rfl, rfl⟩
theorem renRow_vr (f : Nat → Nat) (row : Row) : (renRow f row).vr = row.vr := by unfold renRow; cases row.loose <;> rfl
theorem renRow_ty (f : Nat → Nat) (row : Row) : (renRow f row).ty = row.ty := by unfold renRow; cases row.loose <;> rfl
theorem renRow_fz (f : Nat → Nat) (row : Row) : (renRow f row).fz = row.fz := by unfold renRow; cases row.loose <;> rfl
theorem renRow_kin (f : Nat → Nat) (row : Row) : (renRow f row).kin = renKin f row.kin := by unfold renRow; cases row.loose <;> rfl
theorem renRow_loose (f : Nat → Nat) (row : Row) : (renRow f row).loose = row.loose := by unfold renRow; cases h : row.loose <;> simp [h]
theorem renRow_segs (f : Nat → Nat) (row : Row) : (renRow f row).c.map segSize = row.c.map segSize := by
  rcases renRow_c f row with h | ⟨_, h⟩
  · rw [h]
  · rw [h, List.map_map]; apply List.map_congr_left; intro v hv; exact segSize_ren 6 f v
theorem renRow_zs (f : Nat → Nat) (row : Row) : (renRow f row).c.map zOf = row.c.map zOf := by
  rcases renRow_c f row with h | ⟨_, h⟩
  · rw [h]
  · rw [h, List.map_map]; apply List.map_congr_left; intro v hv; exact zOf_ren 6 f v
theorem renRow_len (f : Nat → Nat) (row : Row) : (renRow f row).c.length = row.c.length := by
  have := congrArg List.length (renRow_segs f row); simpa using this
theorem NilOK.ren {row : Row} (h : NilOK row) (f : Nat → Nat) : NilOK (renRow f row) := by
  rcases renRow_c f row with e | ⟨_, e⟩
  · unfold NilOK at *; rw [e]; exact h
  · unfold NilOK at *
    rw [e]
    rcases h with h | ⟨k, h⟩
    · exact .inl (by rw [h]; rfl)
    · exact .inr ⟨k, by rw [h]; rfl⟩
theorem RowOK.ren {row : Row} {p : Place} (hok : RowOK P S w L row p) (hf : RenOK f L L' (idsRow row)) : RowOK P S w L' (renRow f row) p := by
  obtain ⟨arr, bt, hb, hs, hc⟩ := hok.blk
  have hsg := renRow_segs f row
  have hlen := renRow_len f row
  have htk : ∀ s, contSize ((renRow f row).c.take s) = contSize (row.c.take s) := fun s => by
    rw [contSize_sum, contSize_sum, List.map_take, List.map_take, hsg]
  refine ⟨⟨arr, bt, hb, hs, ?_⟩, by rw [contSize_congr hsg]; exact hok.size, hok.le, fun s hs => ?_, fun s hs => ?_, fun hv => ?_, fun o ho => ?_, hok.zp.1, fun h => ?_⟩
  · rw [renRow_loose]
    cases hl : row.loose with
    | false =>
      rw [hl] at hc
      have : (renRow f row).c = row.c := by unfold renRow; rw [hl]
      rw [this]
      exact hc
    | true =>
      rw [hl] at hc
      have : (renRow f row).c = row.c.map (renV 6 f) := by unfold renRow; rw [hl]
      rw [this]
      refine Cont.ren ?_ hc
      unfold idsRow at hf
      rw [hl] at hf
      exact hf
  · rw [htk]; exact hok.lay s (by rw [← hlen]; exact hs)
  · rw [zAt_congr (renRow_zs f row)]; exact hok.zz s (by rw [← hlen]; exact hs)
  · rw [hsg, renRow_ty]; exact hok.vr (by rw [← renRow_vr f row]; exact hv)
  · rw [renRow_fz]; exact hok.st o ho
  · refine hok.zp.2 (List.eq_nil_of_length_eq_zero ?_)
    rw [← hlen, h]; rfl
theorem RowOK.kin {row : Row} {p : Place} (hok : RowOK P S w L row p) (k : Option (Nat × Bool)) : RowOK P S w L { row with kin := k } p :=
  ⟨hok.blk, hok.size, hok.le, hok.lay, hok.zz, hok.vr, hok.st, hok.zp⟩
theorem RowOK.shift {S' : Stab} {row : Row} {p : Place} (hok : RowOK P S w L row p) (hS : ∀ b q, S b q → S' b q) (hst : ∀ q, S' p.b q → row.fz = true ∧ q < p.w) : RowOK P S' w L row p := by
  obtain ⟨arr, bt, hb, hs, hc⟩ := hok.blk
  exact ⟨⟨arr, bt, hb, hs, hc.mono hS (fun _ _ _ => rfl) _ (Loc.le_refl _) (fun _ _ => rfl)⟩, hok.size, hok.le, hok.lay, hok.zz, hok.vr, hst, hok.zp⟩
end ren
section flat
variable {P : Program} {S S' : Stab} {w w' : World} {L : Loc}
theorem slR_nil {e : ET} {t : Bool} {u : Value} (h : SlR S w e [] t u) : SlR S' w e [] t u := by
  obtain ⟨a, cap, hu, h1, h2, _⟩ := h
  exact ⟨a, cap, hu, h1, h2, fun h => absurd rfl h⟩
theorem flat_all : ∀ (n : Nat) (v : AV) (L : Loc) (u : Value), leaksV n v = false → Rel P S w v L u → Rel P S' w v L u
  | 0, v, L, u, h, _ => by simp [leaksV] at h
  | n + 1, v, L, u, hk, h => by
    have ih := fun v L u => flat_all n v L u
    have ihL : ∀ (vs : List AV) (us : List Value), vs.any (leaksV n) = false → RelL P S w vs L us → RelL P S' w vs L us := by
      intro vs
      induction vs with
      | nil => intro us _ h; simpa [RelL] using h
      | cons v vs ihv =>
        intro us hf h
        simp only [RelL] at h ⊢
        simp only [List.any_cons, Bool.or_eq_false_iff] at hf
        obtain ⟨u, rest, rfl, h1, h2⟩ := h
        exact ⟨u, rest, rfl, ih v L u hf.1 h1, ihv rest hf.2 h2⟩
    have ihC : ∀ (c : List AV) (L : Loc) (F : CellF) (o : Nat), c.any (leaksV n) = false → Cont P S w c L F o → Cont P S' w c L F o := by
      intro c L F
      induction c with
      | nil => intro o _ _; simp only [Cont]
      | cons v c ihc =>
        intro o hf h
        simp only [Cont] at h ⊢
        simp only [List.any_cons, Bool.or_eq_false_iff] at hf
        obtain ⟨h0, h1, h2⟩ := h
        refine ⟨fun e l hv => ?_, fun hs => ?_, ihc _ hf.2 h2⟩
        · subst hv
          have hfl : flatE e = true := by
            cases n with
            | zero => simp [leaksV] at hf
            | succ n => simpa [leaksV] using hf.1
          exact runR_flat hfl (h0 e l rfl)
        · obtain ⟨u, hu, hr⟩ := h1 hs
          exact ⟨u, hu, ih v L u hf.1 hr⟩
    cases v with
    | dead => simp only [Rel]
    | sc x => simpa only [Rel] using h
    | run e l => simp only [Rel] at h
    | sl e l t =>
      cases t with
      | false => simp [leaksV] at hk
      | true =>
        cases l with
        | nil => simp only [Rel] at h ⊢; exact slR_nil h
        | cons x l => simp [leaksV] at hk
    | slg vs t =>
      cases t with
      | false => simp [leaksV] at hk
      | true =>
        cases vs with
        | nil =>
          simp only [Rel] at h ⊢
          obtain ⟨h0, a, cap, hu, h1, h2, _⟩ := h
          exact ⟨h0, a, cap, hu, h1, h2, fun h => absurd rfl h⟩
        | cons x l => simp [leaksV] at hk
    | pt c ty s i j => simp [leaksV] at hk
    | os r s i len a b c => simpa only [Rel] using h
    | ps r s i j => simpa only [Rel] using h
    | agg c l =>
      simp only [Rel] at h ⊢
      obtain ⟨arr, hu, hs, hc⟩ := h
      exact ⟨arr, hu, hs, ihC c _ _ _ (by simpa [leaksV] using hk) hc⟩
    | fn g first caps =>
      simp only [Rel] at h ⊢
      obtain ⟨fa, ca, hu, h1, h2⟩ := h
      simp only [leaksV, Bool.or_eq_false_iff] at hk
      exact ⟨fa, ca, hu, ihL first _ hk.1 h1, ihL caps _ hk.2 h2⟩
    | iface t x =>
      simp only [Rel] at h ⊢
      obtain ⟨y, hu, hx⟩ := h
      exact ⟨y, hu, ih x _ _ (by simpa [leaksV] using hk) hx⟩
    | tuple vs =>
      simp only [Rel] at h ⊢
      obtain ⟨arr, hu, h1⟩ := h
      exact ⟨arr, hu, ihL vs _ (by simpa [leaksV] using hk) h1⟩
theorem Rel.flat {n : Nat} {v : AV} {u : Value} (hk : leaksV n v = false) (h : Rel P S w v L u) : Rel P S' w v L u := flat_all n v L u hk h
theorem Cont.flat {n : Nat} {F : CellF} : ∀ {c : List AV} {o : Nat}, c.any (leaksV (n + 1)) = false → Cont P S w c L F o → Cont P S' w c L F o
  | [], o, _, _ => by simp only [Cont]
  | v :: c, o, hf, h => by
    simp only [Cont] at h ⊢
    simp only [List.any_cons, Bool.or_eq_false_iff] at hf
    obtain ⟨h0, h1, h2⟩ := h
    refine ⟨fun e l hv => ?_, fun hs => ?_, Cont.flat hf.2 h2⟩
    · subst hv
      exact runR_flat (by simpa [leaksV] using hf.1) (h0 e l rfl)
    · obtain ⟨u, hu, hr⟩ := h1 hs
      exact ⟨u, hu, Rel.flat hf.1 hr⟩
theorem RowOK.flat {row : Row} {p : Place} (hk : leaksRow (some row) = false) (hok : RowOK P S w L row p) (hst : ∀ o, S' p.b o → row.fz = true ∧ o < p.w) : RowOK P S' w L row p := by
  obtain ⟨arr, bt, hb, hs, hc⟩ := hok.blk
  exact ⟨⟨arr, bt, hb, hs, hc.flat (n := 5) hk⟩, hok.size, hok.le, hok.lay, hok.zz, hok.vr, hst, hok.zp⟩
end flat
end Go.Ev
namespace Go.Ev
open Go
set_option linter.unusedVariables false
set_option linter.unusedSimpArgs false
def FnIn (P : Program) (f : FuncId) : Prop := ∃ fn c, P.funcs[f]? = some fn ∧ fn.body = some c ∧ (fn.name == "runtime.NumGoroutine") = false
structure CallOK (T : Tab) (f : FuncId) (args : List AV) (H : Hp) (v : AV) (H' : Hp) : Prop where
  fn : FnIn T.P f
  len : H.length ≤ H'.length
  run : ∀ (S : Stab) (w : World) (L : Loc) (us : List Value), St T S w L (look H) [H.length] → RelL T.P S w args L us →
    Calls T.P f us.toArray w fun e w' => ∃ u S' L', e = .returned u ∧ Rel T.P S' w' v L' u ∧ St T S' w' L' (look H') [H'.length] ∧ Ext w S L w' S' L'
section
variable {T : Tab} {S : Stab} {w : World} {L : Loc} {h : Hs} {ids : List Nat}
theorem St.live {r : Nat} {row : Row} (hst : St T S w L h ids) (hr : h r = some row) : ∃ x, L r = some x := by
  rcases hst.inv.rows r row hr with ⟨h1, _⟩ | ⟨p, h1, _⟩ <;> exact ⟨_, h1⟩
theorem post_prepH {mask : List Nat} (hst : St T S w L h ids) : ∀ (vs : List AV) (n : Nat) (us : List Value) (Q : List (AV × List Nat) → Hs → List Nat → Prop),
    RelL T.P S w vs L us → (prepH mask n vs).post h ids Q →
    ∃ ps, Q ps h ids ∧ (∀ r ∈ (ps.map (·.2)).flatten, ∃ row, h r = some row) ∧ RelL T.P (plus S (cellsOf L (ps.map (·.2)).flatten)) w (ps.map (·.1)) L us
  | [], n, us, Q, hr, hp => by
    simp only [prepH, HP.post] at hp
    simp only [RelL] at hr
    exact ⟨[], hp, by simp, by simpa [RelL] using hr⟩
  | v :: vs, n, us, Q, hr, hp => by
    simp only [RelL] at hr
    obtain ⟨u, rest, rfl, h1, h2⟩ := hr
    have fin : ∀ p : AV × List Nat, (∀ r ∈ p.2, ∃ row, h r = some row) → Rel T.P (plus S (cellsOf L p.2)) w p.1 L u →
        ((prepH mask (n + 1) vs).post h ids fun ps h ids => (HP.ret (p :: ps)).post h ids Q) →
        ∃ ps, Q ps h ids ∧ (∀ r ∈ (ps.map (·.2)).flatten, ∃ row, h r = some row) ∧ RelL T.P (plus S (cellsOf L (ps.map (·.2)).flatten)) w (ps.map (·.1)) L (u :: rest) := by
      intro p e1 e2 hp
      obtain ⟨ps, hp, e3, e4⟩ := post_prepH hst vs (n + 1) rest _ h2 hp
      simp only [HP.post] at hp
      refine ⟨p :: ps, hp, fun r hr => ?_, ?_⟩
      · simp at hr
        rcases hr with h | ⟨x, h, hx⟩
        · exact e1 r h
        · exact e3 r (by simp; exact ⟨x, h, hx⟩)
      · simp only [List.map_cons, RelL]
        refine ⟨u, rest, rfl, e2.mono ?_ (fun _ _ _ => rfl) _ (Loc.le_refl _), RelL.mono ?_ (fun _ _ _ => rfl) _ (Loc.le_refl _) e4⟩
        · exact cellsOf_mono (fun r hr => by simp [hr])
        · exact cellsOf_mono (fun r hr => by simp at hr ⊢; exact .inr hr)
    simp only [prepH] at hp
    split at hp
    · rw [HP.post_bind] at hp
      exact fin (v, []) (by simp) (h1.mono (fun _ _ h => .inl h) (fun _ _ _ => rfl) _ (Loc.le_refl _)) hp
    · rw [HP.post_bind] at hp
      obtain ⟨p, hp, e1, e2, _⟩ := normOK hst 6 v u _ h1 hp
      rw [HP.post_bind] at hp
      exact fin p e1 (e2.mono (fun _ _ h => h) (fun _ _ _ => rfl) _ (noLoc_le L)) hp
structure Reached (h : Hs) (todo : List Nat) (seen : List (Nat × Row)) : Prop where
  rows : ∀ p ∈ seen, h p.1 = some p.2
  nd : (seen.map (·.1)).Nodup
  all : ∀ x ∈ todo, x ∈ seen.map (·.1)
  shut : ∀ p ∈ seen, ∀ x ∈ idsRow p.2, x ∈ seen.map (·.1)
theorem post_reachH : ∀ (n : Nat) (todo : List Nat) (seen : List (Nat × Row)) {Q : List (Nat × Row) → Hs → List Nat → Prop} {roots : List Nat},
    (∀ p ∈ seen, h p.1 = some p.2) → (seen.map (·.1)).Nodup → (∀ x ∈ roots, x ∈ seen.map (·.1) ∨ x ∈ todo) → (∀ p ∈ seen, ∀ x ∈ idsRow p.2, x ∈ seen.map (·.1) ∨ x ∈ todo) →
    (reachH n todo seen).post h ids Q → ∃ out, Q out h ids ∧ Reached h roots out := by
  intro n
  induction n with
  | zero =>
    intro todo seen Q roots h1 h2 h3 h4 hp
    cases todo with
    | nil => exact ⟨seen, hp, h1, h2, fun x hx => (h3 x hx).resolve_right (by simp), fun p hp x hx => (h4 p hp x hx).resolve_right (by simp)⟩
    | cons r todo => exact hp.elim
  | succ n ih =>
    intro todo seen Q roots h1 h2 h3 h4 hp
    cases todo with
    | nil => exact ⟨seen, hp, h1, h2, fun x hx => (h3 x hx).resolve_right (by simp), fun p hp x hx => (h4 p hp x hx).resolve_right (by simp)⟩
    | cons r todo =>
      simp only [reachH] at hp
      split at hp
      · rename_i hc
        have hc : r ∈ seen.map (·.1) := by simpa using hc
        have step : ∀ x, (x ∈ seen.map (·.1) ∨ x ∈ r :: todo) → x ∈ seen.map (·.1) ∨ x ∈ todo := by
          intro x hx
          rcases hx with hx | hx
          · exact .inl hx
          · simp at hx
            rcases hx with rfl | hx
            · exact .inl hc
            · exact .inr hx
        exact ih todo seen h1 h2 (fun x hx => step x (h3 x hx)) (fun p hp x hx => step x (h4 p hp x hx)) hp
      · rename_i hc
        have hc : r ∉ seen.map (·.1) := by
          intro hm
          have : (seen.map (·.1)).contains r = true := by simpa using hm
          rw [this] at hc; cases hc
        simp only [HP.post] at hp
        obtain ⟨row, hrow, hp⟩ := hp
        have step : ∀ x, (x ∈ seen.map (·.1) ∨ x ∈ r :: todo) → x ∈ (seen ++ [(r, row)]).map (·.1) ∨ x ∈ todo ++ idsRow row := by
          intro x hx
          rcases hx with hx | hx
          · exact .inl (by simp only [List.map_append, List.mem_append]; exact .inl hx)
          · simp only [List.mem_cons] at hx
            rcases hx with rfl | hx
            · exact .inl (by simp)
            · exact .inr (by simp [hx])
        refine ih _ _ (fun p hp => ?_) ?_ (fun x hx => step x (h3 x hx)) (fun p hp x hx => ?_) hp
        · simp only [List.mem_append, List.mem_singleton] at hp
          rcases hp with hp | rfl
          · exact h1 p hp
          · exact hrow
        · rw [List.map_append, List.nodup_append]
          refine ⟨h2, by simp, fun a ha b hb => ?_⟩
          simp at hb
          subst hb
          rintro rfl
          exact hc ha
        · simp only [List.mem_append, List.mem_singleton] at hp
          rcases hp with hp | rfl
          · exact step x (h4 p hp x hx)
          · exact .inr (by simp [hx])
theorem getElem_idxOf {l : List Nat} {r : Nat} (h : r ∈ l) : l[l.idxOf r]? = some r := by
  have hlt := List.idxOf_lt_length_of_mem h
  rw [List.getElem?_eq_getElem hlt, List.getElem_idxOf]
theorem idxOf_getElem {l : List Nat} (hn : l.Nodup) {i r : Nat} (h : l[i]? = some r) : l.idxOf r = i := by
  have hi := lt_of_get h
  have hr : l[i] = r := by rw [List.getElem?_eq_getElem hi] at h; simpa using h
  subst hr
  exact List.Nodup.idxOf_getElem hn i hi
def locBy (L : Loc) (sd : List Nat) : Loc := fun i => (sd[i]?).bind L
theorem locBy_some {sd : List Nat} {i : Nat} {x : Option Place} (h : locBy L sd i = some x) : ∃ r, sd[i]? = some r ∧ L r = some x := by
  unfold locBy at h
  cases hr : sd[i]? with
  | none => rw [hr] at h; cases h
  | some r => rw [hr] at h; exact ⟨r, rfl, h⟩
theorem renOK_by {sd ids : List Nat} (h : ∀ r ∈ ids, r ∈ sd) : RenOK (renBy sd) L (locBy L sd) ids := by
  intro r hr x hx
  unfold locBy renBy
  rw [getElem_idxOf (h r hr)]
  exact hx
theorem RowOK.pass {P : Program} {S1 : Stab} {L' : Loc} {ids : List Nat} {row : Row} {p : Place} (hok : RowOK P S w L row p) (hf : RenOK (renBy ids) L L' (idsRow row)) (hS : ∀ b q, S b q → S1 b q)
    (hst : ∀ q, S1 p.b q → (passRow ids row).fz = true ∧ q < p.w) : RowOK P S1 w L' (passRow ids row) p := by
  have h1 := hok.ren hf
  have key : ∀ row1 : Row, row1.c = (renRow (renBy ids) row).c → row1.vr = (renRow (renBy ids) row).vr → row1.ty = (renRow (renBy ids) row).ty → row1.loose = (renRow (renBy ids) row).loose → (∀ q, S1 p.b q → row1.fz = true ∧ q < p.w) → RowOK P S1 w L' row1 p := by
    intro row1 e1 e2 e3 e4 e5
    obtain ⟨arr, bt, hb, hs, hc⟩ := h1.blk
    refine ⟨⟨arr, bt, hb, hs, by rw [e1, e4]; exact hc.mono hS (fun _ _ _ => rfl) _ (Loc.le_refl _) (fun _ _ => rfl)⟩, by rw [e1]; exact h1.size, h1.le, by rw [e1]; exact h1.lay, by rw [e1]; exact h1.zz, fun hv => ?_, e5, by rw [e1]; exact h1.zp⟩
    rw [e1, e3]
    exact h1.vr (by rw [← e2]; exact hv)
  unfold passRow at hst ⊢
  split
  · rename_i ho; rw [ho] at hst; exact key _ rfl rfl rfl rfl hst
  · rename_i q ho; rw [ho] at hst; exact key _ rfl rfl rfl rfl hst
theorem passRow_kin {ids : List Nat} {row : Row} {q : Nat × Bool} (hk : row.kin = some q) (hm : q.1 ∈ ids) : (passRow ids row).kin = some (renBy ids q.1, q.2) := by
  have ho : outK ids row.kin = none := by
    rw [hk]
    unfold outK
    have : ids.contains q.1 = true := by simpa using hm
    simp only [this]
  unfold passRow
  rw [ho]
  simp only [renRow_kin, hk, renKin]
theorem nilOK_pass {ids : List Nat} {row : Row} (hn : NilOK row) : NilOK (passRow ids row) := by
  have h1 := hn.ren (renBy ids)
  unfold passRow
  split <;> exact h1
theorem St.handed {S1 : Stab} {seen : List (Nat × Row)} {roots : List Nat} (hst : St T S w L h ids) (hrc : Reached h roots seen) (hS : ∀ b q, S b q → S1 b q)
    (hin : ∀ b q, S1 b q → b < w.heap.size) (hfz : ∀ r row p, (r, row) ∈ seen → L r = some (some p) → ∀ q, S1 p.b q → (passRow (seen.map (·.1)) row).fz = true ∧ q < p.w) :
    St T S1 w (locBy L (seen.map (·.1))) (look (seen.map fun p => some (passRow (seen.map (·.1)) p.2))) [seen.length] := by
  have key : ∀ i row', look (seen.map fun p => some (passRow (seen.map (·.1)) p.2)) i = some row' → ∃ r row, seen[i]? = some (r, row) ∧ row' = passRow (seen.map (·.1)) row ∧ locBy L (seen.map (·.1)) i = L r := by
    intro i row' hi
    rw [look_some] at hi
    rw [List.getElem?_map] at hi
    cases hs : seen[i]? with
    | none => rw [hs] at hi; cases hi
    | some p =>
      rw [hs] at hi
      simp at hi
      refine ⟨p.1, p.2, rfl, hi.symm, ?_⟩
      unfold locBy
      rw [List.getElem?_map, hs]; rfl
  refine ⟨⟨fun i row' hi => ?_, fun i j rowi rowj p p' h1 h2 h3 h4 h5 => ?_, hin⟩, ⟨by simp, fun b hb => by simp at hb; subst hb; simp⟩, fun i hi => ?_, fun i hi => ?_, hst.glob.mono hS (fun _ _ _ => rfl)⟩
  · obtain ⟨r, row, hs, rfl, hl⟩ := key i row' hi
    have hm := List.mem_of_getElem? hs
    have hrow := hrc.rows _ hm
    rw [hl]
    rcases hst.inv.rows r row hrow with ⟨e1, e2⟩ | ⟨p, e1, e2⟩
    · exact .inl ⟨e1, nilOK_pass e2⟩
    · exact .inr ⟨p, e1, e2.pass (renOK_by fun x hx => hrc.shut _ hm x hx) hS (hfz r row p hm e1)⟩
  · obtain ⟨r1, row1, e1, rfl, e2⟩ := key i rowi h1
    obtain ⟨r2, row2, e3, rfl, e4⟩ := key j rowj h2
    rw [e2] at h3
    rw [e4] at h4
    have hr1 := hrc.rows _ (List.mem_of_getElem? e1)
    have hr2 := hrc.rows _ (List.mem_of_getElem? e3)
    simp only at hr1 hr2
    have k1 := idxOf_getElem hrc.nd (i := i) (r := r1) (by rw [List.getElem?_map, e1]; rfl)
    have k2 := idxOf_getElem hrc.nd (i := j) (r := r2) (by rw [List.getElem?_map, e3]; rfl)
    have m1 : r1 ∈ seen.map (·.1) := List.mem_map_of_mem (f := (·.1)) (List.mem_of_getElem? e1)
    have m2 : r2 ∈ seen.map (·.1) := List.mem_map_of_mem (f := (·.1)) (List.mem_of_getElem? e3)
    rcases hst.inv.disj r1 r2 row1 row2 p p' hr1 hr2 h3 h4 h5 with h6 | ⟨h6, h7, h8⟩ | ⟨h6, h7, h8⟩
    · subst h6
      exact .inl (by rw [← k1, k2])
    · refine .inr (.inl ⟨?_, ?_, h8⟩)
      · rw [passRow_kin h6 m2]; unfold renBy; rw [k2]
      · rw [passRow_kin h7 m1]; unfold renBy; rw [k1]
    · refine .inr (.inr ⟨?_, ?_, h8⟩)
      · rw [passRow_kin h6 m1]; unfold renBy; rw [k1]
      · rw [passRow_kin h7 m2]; unfold renBy; rw [k2]
  · have hi : seen.length ≤ i := by simp at hi; omega
    unfold locBy
    rw [List.getElem?_eq_none (by simpa using hi)]; rfl
  · cases hx : look (seen.map fun p => some (passRow (seen.map (·.1)) p.2)) i with
    | none => rfl
    | some row' =>
      obtain ⟨r, row, e1, _, e2⟩ := key i row' hx
      rw [e2] at hi
      have := hst.dom r hi
      rw [hrc.rows _ (List.mem_of_getElem? e1)] at this
      cases this
theorem St.many : ∀ (names : List Nat) {more : List Nat} {h : Hs}, St T S w L h (names ++ more) → (more.Nodup ∧ ∀ b, more.getLast? = some b → ∀ j ∈ more, j ≤ b) ∧
    (∀ j, (j ∈ more ∨ ∃ b, more.getLast? = some b ∧ b ≤ j) → j ∉ names ∧ L j = none) ∧ names.Nodup ∧ ∀ j ∈ names, L j = none := by
  intro names more h hst
  refine ⟨?_, ?_, ?_, fun j hj => hst.fresh j (.inl (List.mem_append_left _ hj))⟩
  · refine ⟨(List.nodup_append.1 hst.nd.1).2.1, fun b hb j hj => hst.nd.2 b ?_ j (List.mem_append_right _ hj)⟩
    rw [List.getLast?_append, hb]; rfl
  · intro j hj
    refine ⟨fun hm => ?_, hst.fresh j ?_⟩
    · rcases hj with hj | ⟨b, hb, hbj⟩
      · exact (List.nodup_append.1 hst.nd.1).2.2 j hm j hj rfl
      · have hl : (names ++ more).getLast? = some b := by rw [List.getLast?_append, hb]; rfl
        have h1 := hst.nd.2 b hl j (List.mem_append_left _ hm)
        have : j = b := Nat.le_antisymm h1 hbj
        subst this
        exact (List.nodup_append.1 hst.nd.1).2.2 j hm j (List.mem_of_getLast? hb) rfl
    · rcases hj with hj | ⟨b, hb, hbj⟩
      · exact .inl (List.mem_append_right _ hj)
      · exact .inr ⟨b, by rw [List.getLast?_append, hb]; rfl, hbj⟩
  · exact (List.nodup_append.1 hst.nd.1).1
def locBack (L L1 : Loc) (all : List Nat) : Loc := fun r => if r ∈ all then L1 (all.idxOf r) else L r
theorem locBack_at {L1 : Loc} {all : List Nat} (hn : all.Nodup) {i r : Nat} (h : all[i]? = some r) : locBack L L1 all r = L1 i := by
  unfold locBack
  rw [if_pos (List.mem_of_getElem? h), idxOf_getElem hn h]
def hsBack (h : Hs) (H' : Hp) (all : List Nat) (outs : List (Option (Nat × Bool))) (f : Nat → Nat) : Hs := fun r =>
  if r ∈ lostRows outs H' then none else if r ∈ all then (look H' (all.idxOf r)).map (backRow f (outs.getD (all.idxOf r) none)) else h r
theorem mem_lostRows {y : Nat} : ∀ {outs : List (Option (Nat × Bool))} {H : Hp}, y ∈ lostRows outs H ↔ ∃ i : Nat, outs[i]? = some (some (y, true)) ∧ ¬ ∃ row : Row, H[i]? = some (some row) ∧ row.kin = none
  | [], H => by simp [lostRows]
  | out :: outs, H => by
    have tail : ∀ (P : Prop), (y ∈ lostRows (out :: outs) H ↔ P ∨ y ∈ lostRows outs H.tail) → (P ↔ out = some (y, true) ∧ ¬ ∃ row : Row, H[0]? = some (some row) ∧ row.kin = none) →
        (y ∈ lostRows (out :: outs) H ↔ ∃ i : Nat, (out :: outs)[i]? = some (some (y, true)) ∧ ¬ ∃ row : Row, H[i]? = some (some row) ∧ row.kin = none) := by
      intro P h1 h2
      rw [h1, h2, mem_lostRows]
      have ht : ∀ i : Nat, H.tail[i]? = H[i + 1]? := fun i => by cases H <;> simp
      constructor
      · rintro (⟨e1, e2⟩ | ⟨i, e1, e2⟩)
        · exact ⟨0, by simp [e1], e2⟩
        · exact ⟨i + 1, by simpa using e1, by rw [← ht]; exact e2⟩
      · rintro ⟨i, e1, e2⟩
        cases i with
        | zero => exact .inl ⟨by simpa using e1, e2⟩
        | succ i => exact .inr ⟨i, by simpa using e1, by rw [ht]; exact e2⟩
    cases out with
    | none => exact tail False (by simp [lostRows]) (by simp)
    | some q =>
      obtain ⟨z, b⟩ := q
      cases b with
      | false => exact tail False (by simp [lostRows]) (by simp)
      | true =>
        cases H with
        | nil => exact tail (y = z) (by simp [lostRows]) (by simp [eq_comm])
        | cons o H =>
          cases o with
          | none => exact tail (y = z) (by simp [lostRows]) (by simp [eq_comm])
          | some row =>
            cases hk : row.kin with
            | none => exact tail False (by simp [lostRows, hk]) (by simp [hk])
            | some k => exact tail (y = z) (by simp [lostRows, hk]) (by simp [hk, eq_comm])
theorem backRow_kin {f : Nat → Nat} {out : Option (Nat × Bool)} {row : Row} : (backRow f out row = renRow f row) ∨ ∃ y, row.kin = none ∧ out = some (y, true) ∧ backRow f out row = { renRow f row with kin := some (y, true) } := by
  unfold backRow
  split
  · rename_i y h1; exact .inr ⟨y, h1, rfl, rfl⟩
  · exact .inl rfl
theorem backRow_some {f : Nat → Nat} {out : Option (Nat × Bool)} {row : Row} {q : Nat × Bool} (h : row.kin = some q) : (backRow f out row).kin = some (f q.1, q.2) := by
  rcases backRow_kin (f := f) (out := out) (row := row) with h1 | ⟨y, h1, _⟩
  · rw [h1, renRow_kin, h]; rfl
  · rw [h] at h1; cases h1
theorem RowOK.back {P : Program} {L' : Loc} {f : Nat → Nat} {out : Option (Nat × Bool)} {row : Row} {p : Place} (hok : RowOK P S w L row p) (hf : RenOK f L L' (idsRow row)) : RowOK P S w L' (backRow f out row) p := by
  have h1 := hok.ren hf
  rcases backRow_kin (f := f) (out := out) (row := row) with h2 | ⟨y, _, _, h2⟩
  · rw [h2]; exact h1
  · rw [h2]; exact h1.kin _
theorem NilOK.back {f : Nat → Nat} {out : Option (Nat × Bool)} {row : Row} (hn : NilOK row) : NilOK (backRow f out row) := by
  have h1 := hn.ren f
  rcases backRow_kin (f := f) (out := out) (row := row) with h2 | ⟨y, _, _, h2⟩
  · rw [h2]; exact h1
  · rw [h2]; exact h1
structure Back (T : Tab) (S : Stab) (w : World) (L : Loc) (h : Hs) (ids : List Nat) (S2 : Stab) (w' : World) (L2 : Loc) (h2 : Hs) (v : AV) (u : Value) : Prop where
  st : St T S2 w' L2 h2 ids
  ext : Ext w S L w' S2 L2
  rel : Rel T.P S2 w' v L2 u
theorem outK_some {ids : List Nat} {k : Option (Nat × Bool)} {q : Nat × Bool} (h : k = some q) (hm : q.1 ∉ ids) : outK ids k = some q := by
  subst h
  unfold outK
  have : ids.contains q.1 = false := by
    cases hc : ids.contains q.1 with
    | false => rfl
    | true => exact absurd (by simpa using hc) hm
  simp only [this]
theorem St.back {S1 S2 S' : Stab} {w' : World} {L1' : Loc} {seen : List (Nat × Row)} {roots names more : List Nat} {H' : Hp} {v : AV} {u : Value} (hst : St T S w L h (names ++ more)) (hrc : Reached h roots seen)
    (hK : ∀ r row y, (r, row) ∈ seen → row.kin = some (y, false) → y ∉ seen.map (·.1) → h y = none)
    (hC : ∀ r row y p q, (r, row) ∈ seen → row.kin = some (y, true) → y ∉ seen.map (·.1) → L y = some (some p) → q < p.w → S1 p.b q)
    (hlen : H'.length = (seen.map (·.1) ++ names).length) (hS1 : ∀ b q, S b q → S1 b q)
    (hst' : St T S' w' L1' (look H') [H'.length]) (hext : Ext w S1 (locBy L (seen.map (·.1))) w' S' L1') (hv : Rel T.P S' w' v L1' u)
    (hS2 : (S2 = S' ∧ S1 = S ∧ ∀ r row y, (r, row) ∈ seen → row.kin = some (y, true) → y ∈ seen.map (·.1)) ∨ (S2 = S ∧ (leaksV 6 v || H'.any leaksRow) = false)) :
    Back T S w L h more S2 w' (locBack L L1' (seen.map (·.1) ++ names)) (hsBack h H' (seen.map (·.1) ++ names) (seen.map fun p => outK (seen.map (·.1)) p.2.kin) fun i => (seen.map (·.1) ++ names).getD i 0) (renV 6 (fun i => (seen.map (·.1) ++ names).getD i 0) v) u := by
  generalize hsd : seen.map (·.1) = sd at *
  generalize hout : (seen.map fun p => outK sd p.2.kin) = outs at *
  have hnd : sd.Nodup := by rw [← hsd]; exact hrc.nd
  have hrowof : ∀ r ∈ sd, ∃ row, (r, row) ∈ seen ∧ h r = some row := by
    intro r hr
    rw [← hsd] at hr
    simp at hr
    obtain ⟨row, hm⟩ := hr
    exact ⟨row, hm, hrc.rows _ hm⟩
  obtain ⟨hmore, hfresh, hnn, hnames⟩ := hst.many
  have hsdL : ∀ r ∈ sd, ∃ x, L r = some x := fun r hr => by
    obtain ⟨row, _, hx⟩ := hrowof r hr
    exact hst.live hx
  have hnd' : (sd ++ names).Nodup := by
    rw [List.nodup_append]
    refine ⟨hnd, hnn, fun a ha b hb => ?_⟩
    rintro rfl
    obtain ⟨x, hx⟩ := hsdL a ha
    rw [hnames a hb] at hx; cases hx
  have hS12 : ∀ b q, S b q → S2 b q := by
    rcases hS2 with ⟨rfl, rfl, _⟩ | ⟨rfl, _⟩
    · exact hext.sub
    · exact fun _ _ h => h
  have hS2' : ∀ b q, S2 b q → S' b q := by
    rcases hS2 with ⟨rfl, rfl, _⟩ | ⟨rfl, _⟩
    · exact fun _ _ h => h
    · exact fun b q h => hext.sub b q (hS1 b q h)
  have hstay : Stays S w w' := fun b q hb => hext.stays b q (hS1 b q hb)
  have hle1 : ∀ i x, locBy L sd i = some x → L1' i = some x := hext.le
  have hle : L.le (locBack L L1' (sd ++ names)) := by
    intro r x hr
    by_cases hm : r ∈ sd ++ names
    · have hi := getElem_idxOf hm
      rw [locBack_at hnd' hi]
      rw [List.mem_append] at hm
      rcases hm with hm | hm
      · refine hle1 _ _ ?_
        have hix : (sd ++ names).idxOf r = sd.idxOf r := by rw [List.idxOf_append, if_pos hm]
        rw [hix]
        unfold locBy
        rw [getElem_idxOf hm]
        exact hr
      · rw [hnames r hm] at hr; cases hr
    · unfold locBack; rw [if_neg hm]; exact hr
  have hown : ∀ {b : Nat}, ownOf (locBy L sd) b → ∃ r ∈ sd, ∃ p, L r = some (some p) ∧ p.b = b := by
    rintro b ⟨i, p, hi, hb⟩
    obtain ⟨r, h1, h2⟩ := locBy_some hi
    exact ⟨r, List.mem_of_getElem? h1, p, h2, hb⟩
  -- a row that is not handed on, in the memory of one that is
  have hshare : ∀ r row p, r ∉ sd → h r = some row → L r = some (some p) → ownOf (locBy L sd) p.b → ∃ z rowz pz, (z, rowz) ∈ seen ∧ L z = some (some pz) ∧ pz.b = p.b ∧ rowz.kin = some (r, true) ∧ row.kin = some (z, false) ∧ p.w ≤ pz.w := by
    intro r row p hr hrow hl ho
    obtain ⟨z, hz, pz, h1, h2⟩ := hown ho
    obtain ⟨rowz, hm, hzr⟩ := hrowof z hz
    rcases hst.inv.disj r z row rowz p pz hrow hzr hl h1 h2.symm with h3 | ⟨h3, h4, h5⟩ | ⟨h3, h4, h5⟩
    · subst h3; exact absurd hz hr
    · have := hK z rowz r hm h4 hr
      rw [hrow] at this; cases this
    · exact ⟨z, rowz, pz, hm, h1, h2, h3, h4, h5⟩
  have hlt : ∀ i x, L1' i = some x → i < (sd ++ names).length := by
    intro i x hi
    rcases Nat.lt_or_ge i (sd ++ names).length with h | h
    · exact h
    · have := hst'.fresh i (.inr ⟨_, rfl, by rw [hlen]; exact h⟩)
      rw [hi] at this; cases this
  have hgetD : ∀ i, i < (sd ++ names).length → (sd ++ names)[i]? = some ((sd ++ names).getD i 0) := by
    intro i hi
    rw [List.getElem?_eq_getElem hi, List.getD_eq_getElem?_getD, List.getElem?_eq_getElem hi]; rfl
  have hback : ∀ l : List Nat, RenOK (fun i => (sd ++ names).getD i 0) L1' (locBack L L1' (sd ++ names)) l := by
    intro l i _ x hx
    show locBack L L1' (sd ++ names) ((sd ++ names).getD i 0) = some x
    rw [locBack_at hnd' (hgetD i (hlt i x hx))]
    exact hx
  have hrowat : ∀ r row2, hsBack h H' (sd ++ names) outs (fun i => (sd ++ names).getD i 0) r = some row2 → r ∉ lostRows outs H' ∧
      ((r ∈ sd ++ names ∧ ∃ row', look H' ((sd ++ names).idxOf r) = some row' ∧ row2 = backRow (fun i => (sd ++ names).getD i 0) (outs.getD ((sd ++ names).idxOf r) none) row') ∨ (r ∉ sd ++ names ∧ h r = some row2)) := by
    intro r row2 hr
    unfold hsBack at hr
    by_cases hlo : r ∈ lostRows outs H'
    · rw [if_pos hlo] at hr; cases hr
    · rw [if_neg hlo] at hr
      refine ⟨hlo, ?_⟩
      by_cases hm : r ∈ sd ++ names
      · rw [if_pos hm] at hr
        cases hx : look H' ((sd ++ names).idxOf r) with
        | none => rw [hx] at hr; cases hr
        | some row' => rw [hx] at hr; simp at hr; exact .inl ⟨hm, row', rfl, hr.symm⟩
      · rw [if_neg hm] at hr; exact .inr ⟨hm, hr⟩
  have hoff : ∀ r, r ∉ sd ++ names → locBack L L1' (sd ++ names) r = L r := fun r hm => by unfold locBack; rw [if_neg hm]
  -- the place of a row that was handed on
  have hidx : ∀ z rowz, (z, rowz) ∈ seen → ∃ k, (sd ++ names)[k]? = some z ∧ outs[k]? = some (outK sd rowz.kin) ∧ locBy L sd k = L z := by
    intro z rowz hm
    obtain ⟨k, hk⟩ := List.mem_iff_getElem?.1 hm
    have h1 : sd[k]? = some z := by rw [← hsd, List.getElem?_map, hk]; rfl
    refine ⟨k, ?_, ?_, ?_⟩
    · rw [List.getElem?_append_left (lt_of_get h1)]; exact h1
    · rw [← hout, List.getElem?_map, hk]; rfl
    · unfold locBy; rw [h1]; rfl
  refine ⟨⟨⟨fun r row2 hr => ?_, fun r1 r2 x1 x2 p1 p2 h1 h2 h3 h4 h5 => ?_, fun b q hq => hst'.inv.stab b q (hS2' b q hq)⟩, hmore, fun j hj => ?_, fun r hr => ?_, hst.glob.mono hS12 hstay⟩, ?_, ?_⟩
  · obtain ⟨_, ⟨hm, row', hx, rfl⟩ | ⟨hm, hx⟩⟩ := hrowat r row2 hr
    · rw [locBack_at hnd' (getElem_idxOf hm)]
      rcases hst'.inv.rows _ row' hx with ⟨e1, e2⟩ | ⟨p, e1, e2⟩
      · exact .inl ⟨e1, e2.back⟩
      · refine .inr ⟨p, e1, ?_⟩
        have h0 : RowOK T.P S2 w' L1' row' p := by
          rcases hS2 with ⟨rfl, _⟩ | ⟨rfl, hk⟩
          · exact e2
          · simp only [Bool.or_eq_false_iff] at hk
            refine e2.flat ?_ fun q hq => e2.st q (hS2' _ _ hq)
            rw [look_some] at hx
            have := hk.2
            rw [List.any_eq_false] at this
            have h3 := this _ (List.mem_of_getElem? hx)
            simpa using h3
        exact h0.back (hback _)
    · rw [hoff r hm]
      have hms : r ∉ sd := fun h => hm (List.mem_append_left _ h)
      rcases hst.inv.rows r row2 hx with ⟨e1, e2⟩ | ⟨p, e1, e2⟩
      · exact .inl ⟨e1, e2⟩
      · refine .inr ⟨p, e1, ?_⟩
        by_cases ho : ownOf (locBy L sd) p.b
        · obtain ⟨z, rowz, pz, g1, g2, g3, g4, g5, g6⟩ := hshare r row2 p hms hx e1 ho
          rcases hS2 with ⟨rfl, rfl, hno⟩ | ⟨rfl, _⟩
          · exact absurd (hno z rowz r g1 g4) hms
          · obtain ⟨arr, bt, hb, hs, hc⟩ := e2.blk
            obtain ⟨arr', hb', hs'⟩ := hext.shape _ _ _ hb
            refine ⟨⟨arr', bt, hb', by rw [hs', hs], hc.mono (fun _ _ h => h) hstay _ (lOf_le hle) fun q hq => ?_⟩, e2.size, e2.le, e2.lay, e2.zz, e2.vr, e2.st, e2.zp⟩
            rw [Nat.zero_add]
            have := hext.stays p.b q (hC z rowz r p q g1 g4 hms e1 (by rw [← e2.size]; exact hq))
            rw [cell_of_row w' _ q arr' bt (0, 0) hb', cell_of_row w _ q arr bt (0, 0) hb] at this
            exact this
        · refine e2.world hS12 hstay hle (hext.blocks _ e2.lt ho) fun q hq => ?_
          rcases hS2 with ⟨rfl, rfl, _⟩ | ⟨rfl, _⟩
          · rcases hext.Snew _ _ hq with h6 | h6 | h6
            · exact e2.st q h6
            · exact absurd e2.lt (by omega)
            · exact absurd h6 ho
          · exact e2.st q hq
  · have mixed : ∀ r1 r2 x1 x2 p1 p2, hsBack h H' (sd ++ names) outs (fun i => (sd ++ names).getD i 0) r1 = some x1 → r1 ∈ sd ++ names → r2 ∉ sd ++ names → r2 ∉ lostRows outs H' → h r2 = some x2 → locBack L L1' (sd ++ names) r1 = some (some p1) → L r2 = some (some p2) → p1.b = p2.b → KinOK x1 x2 r1 r2 p1 p2 := by
      intro r1 r2 x1 x2 p1 p2 hx1 hm1 hm2 hlo hrow h3 h4 h5
      obtain ⟨_, ⟨_, row1, hy1, rfl⟩ | ⟨hm, _⟩⟩ := hrowat r1 x1 hx1
      · rw [locBack_at hnd' (getElem_idxOf hm1)] at h3
        have hms : r2 ∉ sd := fun h => hm2 (List.mem_append_left _ h)
        rcases hext.Lnew _ _ h3 with h6 | h6
        · rw [h5] at h6
          obtain ⟨z, rowz, pz, g1, g2, g3, g4, g5, g6⟩ := hshare r2 x2 p2 hms hrow h4 h6
          obtain ⟨k, k1, k2, k3⟩ := hidx z rowz g1
          rw [outK_some g4 hms] at k2
          have hnl : ∃ row : Row, H'[k]? = some (some row) ∧ row.kin = none := by
            rw [mem_lostRows] at hlo
            rcases Classical.em (∃ row : Row, H'[k]? = some (some row) ∧ row.kin = none) with h | h
            · exact h
            · exact absurd ⟨k, k2, h⟩ hlo
          obtain ⟨rowk, hk1, hk2⟩ := hnl
          have hLk : L1' k = some (some pz) := hle1 _ _ (by rw [k3]; exact g2)
          have hik : (sd ++ names).idxOf r1 = k := by
            rcases hst'.inv.disj _ k row1 rowk p1 pz hy1 (look_some.2 hk1) h3 hLk (by rw [h5, g3]) with h7 | ⟨_, h7, _⟩ | ⟨h7, _⟩
            · exact h7
            · rw [hk2] at h7; cases h7
            · rw [hk2] at h7; cases h7
          have hrz : r1 = z := by
            have := getElem_idxOf hm1
            rw [hik, k1] at this
            injection this with this
            exact this.symm
          subst hrz
          rw [hik] at hy1 h3 ⊢
          rw [hLk] at h3
          cases h3
          have hrk : row1 = rowk := by
            have := look_some.2 hk1
            rw [hy1] at this
            injection this
          subst hrk
          refine ⟨?_, g5, g6⟩
          have hg : outs.getD k none = some (r2, true) := by rw [List.getD_eq_getElem?_getD, k2]; rfl
          rw [hg]
          unfold backRow
          rw [hk2]
        · have := (hst.row hrow h4).lt
          omega
      · exact absurd hm1 hm
    obtain ⟨l1, h1'⟩ := hrowat r1 x1 h1
    obtain ⟨l2, h2'⟩ := hrowat r2 x2 h2
    rcases h1' with ⟨a1, y1, b1, c1⟩ | ⟨a1, b1⟩ <;> rcases h2' with ⟨a2, y2, b2, c2⟩ | ⟨a2, b2⟩
    · have g1 := getElem_idxOf a1
      have g2 := getElem_idxOf a2
      rw [locBack_at hnd' g1] at h3
      rw [locBack_at hnd' g2] at h4
      have bk : ∀ r, (sd ++ names)[(sd ++ names).idxOf r]? = some r → (sd ++ names).getD ((sd ++ names).idxOf r) 0 = r := by
        intro r hr
        rw [List.getD_eq_getElem?_getD, hr]; rfl
      rcases hst'.inv.disj _ _ y1 y2 p1 p2 b1 b2 h3 h4 h5 with h6 | ⟨h6, h7, h8⟩ | ⟨h6, h7, h8⟩
      · rw [h6] at g1
        rw [g1] at g2
        exact .inl (by simpa using g2)
      · refine .inr (.inl ⟨?_, ?_, h8⟩)
        · rw [c1, backRow_some h6]; simp only [bk r2 g2]
        · rw [c2, backRow_some h7]; simp only [bk r1 g1]
      · refine .inr (.inr ⟨?_, ?_, h8⟩)
        · rw [c2, backRow_some h6]; simp only [bk r1 g1]
        · rw [c1, backRow_some h7]; simp only [bk r2 g2]
    · rw [hoff r2 a2] at h4
      exact .inr (.inl (mixed r1 r2 x1 x2 p1 p2 h1 a1 a2 l2 b2 h3 h4 h5))
    · rw [hoff r1 a1] at h3
      exact .inr (.inr (mixed r2 r1 x2 x1 p2 p1 h2 a2 a1 l1 b1 h4 h3 h5.symm))
    · rw [hoff r1 a1] at h3
      rw [hoff r2 a2] at h4
      exact hst.inv.disj r1 r2 x1 x2 p1 p2 b1 b2 h3 h4 h5
  · obtain ⟨h1, h2⟩ := hfresh j hj
    rw [hoff j, h2]
    rw [List.mem_append]
    rintro (h3 | h3)
    · obtain ⟨x, hx⟩ := hsdL j h3
      rw [h2] at hx; cases hx
    · exact h1 h3
  · unfold hsBack
    by_cases hlo : r ∈ lostRows outs H'
    · rw [if_pos hlo]
    · rw [if_neg hlo]
      by_cases hm : r ∈ sd ++ names
      · rw [if_pos hm]
        rw [locBack_at hnd' (getElem_idxOf hm)] at hr
        rw [hst'.dom _ hr]; rfl
      · rw [if_neg hm]
        rw [hoff r hm] at hr
        exact hst.dom r hr
  · refine ⟨hS12, hstay, hle, fun b q hb => ?_, fun b hb hn => ?_, hext.size, hext.os, hext.tape, hext.output, fun r p hr => ?_, hext.frz, hext.shape⟩
    · rcases hS2 with ⟨rfl, rfl, _⟩ | ⟨rfl, _⟩
      · rcases hext.Snew b q hb with h1 | h1 | h1
        · exact .inl h1
        · exact .inr (.inl h1)
        · obtain ⟨r, _, p, h2, h3⟩ := hown h1
          exact .inr (.inr ⟨r, p, h2, h3⟩)
      · exact .inl hb
    · refine hext.blocks b hb fun ho => hn ?_
      obtain ⟨r, _, p, h2, h3⟩ := hown ho
      exact ⟨r, p, h2, h3⟩
    · by_cases hm : r ∈ sd ++ names
      · rw [locBack_at hnd' (getElem_idxOf hm)] at hr
        rcases hext.Lnew _ _ hr with h1 | h1
        · obtain ⟨r2, _, p2, h2, h3⟩ := hown h1
          exact .inl ⟨r2, p2, h2, h3⟩
        · exact .inr h1
      · rw [hoff r hm] at hr
        exact .inl ⟨r, p, hr, rfl⟩
  · refine Rel.ren (hback _) ?_
    rcases hS2 with ⟨rfl, _⟩ | ⟨rfl, hk⟩
    · exact hv
    · simp only [Bool.or_eq_false_iff] at hk
      exact hv.flat hk.1
end
end Go.Ev
namespace Go.Ev
open Go
set_option linter.unusedVariables false
set_option linter.unusedSimpArgs false
section
variable {T : Tab} {S : Stab} {w : World} {L : Loc} {h : Hs} {ids : List Nat}
theorem eqL_eq {α : Type} {f : α → α → Bool} : ∀ {x y : List α}, (∀ a ∈ x, ∀ b, f a b = true → a = b) → eqL f x y = true → x = y
  | [], [], _, _ => rfl
  | a :: l, b :: l', hf, h => by
    simp only [eqL] at h
    cases hab : f a b with
    | false => rw [hab] at h; cases h
    | true =>
      rw [hab] at h
      rw [hf a (by simp) b hab, eqL_eq (fun x hx => hf x (by simp [hx])) h]
  | [], _ :: _, _, h => by cases h
  | _ :: _, [], _, h => by cases h
theorem eqT_eq {q : ET} {a b : q.T} (h : eqT q a b = true) : a = b := by
  cases q with
  | int k => exact of_decide_eq_true h
  | bool => exact eq_of_beq h
  | str =>
    have h := of_decide_eq_true h
    cases a; cases b
    simp only at h
    rw [h]
  | pair k =>
    simp only [eqT] at h
    cases h1 : decide (a.1 = b.1) with
    | false => rw [h1] at h; cases h
    | true =>
      rw [h1] at h
      exact Prod.ext (of_decide_eq_true h1) (of_decide_eq_true h)
  | ilist k => exact eqL_eq (fun x _ y hxy => of_decide_eq_true hxy) h
theorem castL_run {q q' : ET} {l : List q.T} {l' : List q'.T} {x : List q.T} (hc : castL q q' l' = some x) (h : eqL (eqT q) l x = true) : AV.run q l = AV.run q' l' ∧ ∀ t, AV.sl q l t = AV.sl q' l' t := by
  have hl := eqL_eq (fun a _ b hab => eqT_eq hab) h
  subst hl
  cases q with
  | int k =>
    cases q' with
    | int k' =>
      by_cases hk : k = k'
      · subst hk; simp [castL] at hc; subst hc; exact ⟨rfl, fun _ => rfl⟩
      · simp [castL, hk] at hc
    | _ => simp [castL] at hc
  | bool => cases q' <;> simp [castL] at hc; subst hc; exact ⟨rfl, fun _ => rfl⟩
  | str => cases q' <;> simp [castL] at hc; subst hc; exact ⟨rfl, fun _ => rfl⟩
  | pair k =>
    cases q' with
    | pair k' =>
      by_cases hk : k = k'
      · subst hk; simp [castL] at hc; subst hc; exact ⟨rfl, fun _ => rfl⟩
      · simp [castL, hk] at hc
    | _ => simp [castL] at hc
  | ilist k =>
    cases q' with
    | ilist k' =>
      by_cases hk : k = k'
      · subst hk; simp [castL] at hc; subst hc; exact ⟨rfl, fun _ => rfl⟩
      · simp [castL, hk] at hc
    | _ => simp [castL] at hc
theorem sameA_eq : ∀ {n : Nat} {a b : AV}, sameA n a b = true → a = b
  | 0, _, _, h => by cases h
  | n + 1, a, b, h => by
    simp only [sameA] at h
    split at h
    · rw [sameV_eq h]
    · split at h
      · rename_i hc
        exact (castL_run hc h).1
      · cases h
    · rename_i q0 l0 t q1 l1 t'
      split at h
      · rename_i hc
        cases ht : t == t' with
        | false => rw [ht] at h; cases h
        | true =>
          rw [ht] at h
          rw [← eq_of_beq ht]
          exact (castL_run hc h).2 _
      · cases h
    · simp only [Bool.and_eq_true, Nat.beq_eq, beq_iff_eq] at h
      obtain ⟨⟨⟨⟨⟨⟨rfl, rfl⟩, rfl⟩, rfl⟩, rfl⟩, rfl⟩, rfl⟩ := h
      rfl
    · simp only [Bool.and_eq_true, Nat.beq_eq] at h
      obtain ⟨⟨⟨rfl, rfl⟩, rfl⟩, rfl⟩ := h
      rfl
    · rename_i c l c' l'
      cases ht : l == l' with
      | false => rw [ht] at h; cases h
      | true =>
        rw [ht] at h
        rw [eq_of_beq ht, eqL_eq (fun x _ y hxy => sameA_eq hxy) h]
    · rename_i c l c' l'
      cases ht : l == l' with
      | false => rw [ht] at h; cases h
      | true =>
        rw [ht] at h
        rw [eq_of_beq ht, eqL_eq (fun x _ y hxy => sameA_eq hxy) h]
    · rfl
    · cases h
theorem sameKin_eq {a b : Option (Nat × Bool)} (h : sameKin a b = true) : a = b := by
  unfold sameKin at h
  split at h
  · rfl
  · simp only [Bool.and_eq_true, Nat.beq_eq, beq_iff_eq] at h
    rw [Prod.ext h.1 h.2]
  · cases h
theorem sameRow_eq {a b : Row} (h : sameRow a b = true) : a = b := by
  unfold sameRow at h
  split at h
  · rename_i h1
    simp only [Bool.and_eq_true, Nat.beq_eq, beq_iff_eq] at h1
    obtain ⟨⟨⟨⟨h1, h2⟩, h3⟩, h4⟩, h5⟩ := h1
    have h7 := sameKin_eq h5
    have h6 := eqL_eq (fun x _ y hxy => sameA_eq hxy) h
    clear h h5
    cases a; cases b
    simp only at h1 h2 h3 h4 h6 h7
    subst h1 h2 h3 h4 h6 h7
    rfl
  · cases h
theorem wrAll_cons {α : Type} {il : Bool} {q : Nat × Option Row} {l : List (Nat × Option Row)} {p : HP α} {Q : α → Hs → List Nat → Prop} {h : Hs} (hp : (wrAll il (q :: l) p).post h ids Q) :
    (∃ old, h q.1 = some old) ∧ (wrAll il l p).post (upd h q.1 q.2) ids Q := by
  simp only [wrAll] at hp
  split at hp
  · rename_i row hq
    simp only [HP.post] at hp
    obtain ⟨old, ho, hp⟩ := hp
    split at hp
    · rename_i hs
      have := sameRow_eq hs
      subst this
      refine ⟨⟨_, ho⟩, ?_⟩
      have : upd h q.1 q.2 = h := by
        funext r
        by_cases hr : r = q.1
        · rw [hr, upd_same, hq, ho]
        · rw [upd_ne _ _ hr]
      rw [this]
      exact hp
    · simp only [HP.post] at hp
      rw [hq]
      exact ⟨⟨_, ho⟩, hp.2⟩
  · simp only [HP.post] at hp
    exact hp
theorem post_wrAll {α : Type} {il : Bool} {p : HP α} {Q : α → Hs → List Nat → Prop} : ∀ (l : List (Nat × Option Row)) {h : Hs}, (l.map (·.1)).Nodup → (wrAll il l p).post h ids Q →
    ∃ h2, p.post h2 ids Q ∧ (∀ q ∈ l, h2 q.1 = q.2) ∧ ∀ r, r ∉ l.map (·.1) → h2 r = h r
  | [], h, _, hp => ⟨h, hp, by simp, fun _ _ => rfl⟩
  | q :: l, h, hn, hp => by
    have hp := wrAll_cons hp
    rw [List.map_cons, List.nodup_cons] at hn
    obtain ⟨h2, h3, h4, h5⟩ := post_wrAll l hn.2 hp.2
    refine ⟨h2, h3, fun p hp => ?_, fun r hr => ?_⟩
    · rw [List.mem_cons] at hp
      rcases hp with rfl | hp
      · rw [h5 _ hn.1, upd_same]
      · exact h4 p hp
    · rw [List.map_cons, List.mem_cons] at hr
      rw [h5 r (fun h => hr (.inr h)), upd_ne _ _ (fun h => hr (.inl h))]
theorem post_newsH {α : Type} : ∀ (n : Nat) {k : List Nat → HP α} {h : Hs} {ids : List Nat} {Q : α → Hs → List Nat → Prop}, (newsH n k).post h ids Q →
    ∃ names more h1, ids = names ++ more ∧ names.length = n ∧ (k names).post h1 more Q ∧ ∀ r, r ∉ names → h1 r = h r
  | 0, k, h, ids, Q, hp => ⟨[], ids, h, rfl, rfl, hp, fun _ _ => rfl⟩
  | n + 1, k, h, ids, Q, hp => by
    simp only [newsH, HP.post] at hp
    cases ids with
    | nil => exact hp.elim
    | cons i rest =>
      obtain ⟨names, more, h1, e1, e2, e3, e4⟩ := post_newsH n hp
      refine ⟨i :: names, more, h1, by rw [e1]; rfl, by simp [e2], e3, fun r hr => ?_⟩
      rw [List.mem_cons] at hr
      rw [e4 r (fun h => hr (.inr h)), upd_ne _ _ (fun h => hr (.inl h))]
theorem zip_nth {α β : Type} {l : List α} {l' : List β} {i : Nat} {a : α} {b : β} (h1 : l[i]? = some a) (h2 : l'[i]? = some b) : (a, b) ∈ l.zip l' := by
  refine List.mem_of_getElem? (i := i) ?_
  rw [List.getElem?_zip_eq_some]
  exact ⟨h1, h2⟩
theorem wrAll_old {α : Type} {il : Bool} {p : HP α} {Q : α → Hs → List Nat → Prop} : ∀ (l : List (Nat × Option Row)) {h : Hs}, (l.map (·.1)).Nodup → (wrAll il l p).post h ids Q → ∀ q ∈ l, ∃ old, h q.1 = some old
  | [], h, _, _ => by simp
  | q :: l, h, hn, hp => by
    have hp := wrAll_cons hp
    rw [List.map_cons, List.nodup_cons] at hn
    intro x hx
    rw [List.mem_cons] at hx
    rcases hx with rfl | hx
    · exact hp.1
    · obtain ⟨old, ho⟩ := wrAll_old l hn.2 hp.2 x hx
      have hne : x.1 ≠ q.1 := by
        intro he
        exact hn.1 (by rw [← he]; exact List.mem_map_of_mem hx)
      rw [upd_ne _ _ hne] at ho
      exact ⟨old, ho⟩
def killedAll (h : Hs) (rs : List Nat) : Hs := fun r => if r ∈ rs then none else h r
theorem post_killAll {α : Type} {p : HP α} {Q : α → Hs → List Nat → Prop} : ∀ (rs : List Nat) {h : Hs}, (killAll rs p).post h ids Q → p.post (killedAll h rs) ids Q
  | [], h, hp => by
    have : killedAll h [] = h := by funext r; simp [killedAll]
    rw [this]; exact hp
  | x :: rs, h, hp => by
    simp only [killAll, HP.post] at hp
    have := post_killAll rs hp
    have e : killedAll (upd h x none) rs = killedAll h (x :: rs) := by
      funext r
      unfold killedAll
      by_cases h1 : r ∈ rs
      · simp [h1]
      · by_cases h2 : r = x
        · subst h2; simp [upd_same]
        · simp [h1, h2, upd_ne]
    rw [← e]; exact this
theorem St.dropAll (hst : St T S w L h ids) : ∀ (rs : List Nat), St T S w L (killedAll h rs) ids
  | [] => by
    have : killedAll h [] = h := by funext r; simp [killedAll]
    rw [this]; exact hst
  | x :: rs => by
    have := (hst.dropAll rs).drop (r := x)
    have e : upd (killedAll h rs) x none = killedAll h (x :: rs) := by
      funext r
      unfold killedAll
      by_cases h2 : r = x
      · subst h2; simp [upd_same]
      · simp [h2, upd_ne]
    rw [← e]; exact this
theorem post_rdAll {α : Type} {p : HP α} {Q : α → Hs → List Nat → Prop} : ∀ (rs : List Nat) {h : Hs}, (rdAll rs p).post h ids Q → p.post h ids Q ∧ ∀ r ∈ rs, ∃ row, h r = some row
  | [], h, hp => ⟨hp, by simp⟩
  | x :: rs, h, hp => by
    simp only [rdAll, HP.post] at hp
    obtain ⟨row, hx, hp⟩ := hp
    obtain ⟨h1, h2⟩ := post_rdAll rs hp
    refine ⟨h1, fun r hr => ?_⟩
    rw [List.mem_cons] at hr
    rcases hr with rfl | hr
    · exact ⟨row, hx⟩
    · exact h2 r hr
theorem mem_outsOf {b : Bool} {y : Nat} : ∀ {outs : List (Option (Nat × Bool))}, y ∈ outsOf b outs ↔ some (y, b) ∈ outs
  | [] => by simp [outsOf]
  | o :: outs => by
    cases o with
    | none => simp [outsOf, mem_outsOf]
    | some q =>
      obtain ⟨z, c⟩ := q
      cases b <;> cases c <;> simp [outsOf, mem_outsOf]
theorem backRows_get {f : Nat → Nat} : ∀ (outs : List (Option (Nat × Bool))) (H : Hp) (i : Nat), (backRows f outs H)[i]? = (H[i]?).map fun o => o.map (backRow f (outs.getD i none))
  | _, [], i => by simp [backRows]
  | [], o :: H, i => by
    cases i with
    | zero => simp [backRows]
    | succ i => simpa [backRows] using backRows_get [] H i
  | out :: outs, o :: H, i => by
    cases i with
    | zero => simp [backRows]
    | succ i => simpa [backRows] using backRows_get outs H i
theorem backRows_len {f : Nat → Nat} : ∀ (outs : List (Option (Nat × Bool))) (H : Hp), (backRows f outs H).length = H.length
  | _, [] => rfl
  | [], o :: H => by simp [backRows, backRows_len [] H]
  | out :: outs, o :: H => by simp [backRows, backRows_len outs H]
theorem post_mergeH {il : Bool} {sd : List Nat} {outs : List (Option (Nat × Bool))} {q : AV × Hp} {Q : AV → Hs → List Nat → Prop} (hnd : sd.Nodup) (hst : St T S w L h ids) (hsd : ∀ r ∈ sd, ∃ x, L r = some x) (hle : sd.length ≤ q.2.length)
    (hp : (mergeH il sd outs q).post h ids Q) : ∃ names more, ids = names ++ more ∧ q.2.length = (sd ++ names).length ∧
      Q (renV 6 (fun i => (sd ++ names).getD i 0) q.1) (hsBack h q.2 (sd ++ names) outs fun i => (sd ++ names).getD i 0) more ∧ ∀ r ∈ sd, ∃ old, h r = some old := by
  unfold mergeH at hp
  obtain ⟨names, more, h1, rfl, e2, hp, e4⟩ := post_newsH _ hp
  obtain ⟨_, _, hnn, hnames⟩ := hst.many
  have hlen : q.2.length = (sd ++ names).length := by simp [e2]; omega
  have hdis : ∀ r ∈ sd, r ∉ names := by
    intro r hr hn
    obtain ⟨x, hx⟩ := hsd r hr
    rw [hnames r hn] at hx; cases hx
  have hnd' : (sd ++ names).Nodup := by
    rw [List.nodup_append]
    refine ⟨hnd, hnn, fun a ha b hb => ?_⟩
    rintro rfl
    exact hdis a ha hb
  have hz : ((sd ++ names).zip (backRows (fun i => (sd ++ names).getD i 0) outs q.2)).map (·.1) = sd ++ names := by
    rw [List.map_fst_zip]
    rw [backRows_len]
    omega
  have hold := wrAll_old _ (by rw [hz]; exact hnd') hp
  obtain ⟨h2, h3, h5, h6⟩ := post_wrAll _ (by rw [hz]; exact hnd') hp
  have h3 := post_killAll _ h3
  refine ⟨names, more, rfl, hlen, ?_, fun r hr => ?_⟩
  · have : killedAll h2 (lostRows outs q.2) = hsBack h q.2 (sd ++ names) outs fun i => (sd ++ names).getD i 0 := by
      funext r
      unfold killedAll hsBack
      by_cases hlo : r ∈ lostRows outs q.2
      · rw [if_pos hlo, if_pos hlo]
      · rw [if_neg hlo, if_neg hlo]
        by_cases hm : r ∈ sd ++ names
        · rw [if_pos hm]
          have g := getElem_idxOf hm
          have hi := lt_of_get g
          have hq : ∃ o, q.2[(sd ++ names).idxOf r]? = some o := ⟨_, List.getElem?_eq_getElem (by omega)⟩
          obtain ⟨o, ho⟩ := hq
          have := h5 _ (zip_nth (l' := backRows (fun i => (sd ++ names).getD i 0) outs q.2) g (by rw [backRows_get, ho]; rfl))
          simp only at this
          rw [this]
          unfold look
          rw [ho]; rfl
        · rw [if_neg hm, h6 r (by rw [hz]; exact hm), e4 r (fun h => hm (List.mem_append_right _ h))]
    rw [← this]
    exact h3
  · have hm : r ∈ sd ++ names := List.mem_append_left _ hr
    have g := getElem_idxOf hm
    have hi := lt_of_get g
    have hq : ∃ o, q.2[(sd ++ names).idxOf r]? = some o := ⟨_, List.getElem?_eq_getElem (by omega)⟩
    obtain ⟨o, ho⟩ := hq
    obtain ⟨old, ho⟩ := hold _ (zip_nth (l' := backRows (fun i => (sd ++ names).getD i 0) outs q.2) g (by rw [backRows_get, ho]; rfl))
    rw [e4 r (hdis r hr)] at ho
    exact ⟨old, ho⟩
theorem post_freezeR_off {α : Type} {p : HP α} : ∀ (rs : List Nat) {h : Hs} {Q : α → Hs → List Nat → Prop}, ((freezeR rs).bind fun _ => p).post h ids Q →
    (freezeR rs).post h ids fun _ h' ids' => p.post h' ids' Q ∧ ∀ r, r ∉ rs → h' r = h r ∨ h' r = none
  | [], h, Q, hp => ⟨hp, fun _ _ => .inl rfl⟩
  | r :: rs, h, Q, hp => by
    simp only [freezeR, HP.bind, HP.post] at hp ⊢
    obtain ⟨row, hrow, hp⟩ := hp
    refine ⟨row, hrow, ?_⟩
    have key : ∀ h1 : Hs, (∀ x, h1 x = h x ∨ h1 x = none) → (HP.wr r (some { row with fz := true, kin := none }) ((freezeR rs).bind fun _ => p)).post h1 ids Q →
        (HP.wr r (some { row with fz := true, kin := none }) (freezeR rs)).post h1 ids fun _ h' ids' => p.post h' ids' Q ∧ ∀ x, x ∉ r :: rs → h' x = h x ∨ h' x = none := by
      intro h1 hh hp
      simp only [HP.post] at hp ⊢
      refine ⟨hp.1, HP.post_mono _ (fun _ h' ids' hq => ⟨hq.1, fun x hx => ?_⟩) (post_freezeR_off rs hp.2)⟩
      rw [List.mem_cons] at hx
      rcases hq.2 x (fun h => hx (.inr h)) with h2 | h2
      · rw [upd_ne _ _ (fun h => hx (.inl h))] at h2
        rcases hh x with h3 | h3
        · exact .inl (by rw [h2, h3])
        · exact .inr (by rw [h2, h3])
      · exact .inr h2
    unfold killKin at hp ⊢
    cases hk : row.kin with
    | none =>
      rw [hk] at hp
      exact key h (fun _ => .inl rfl) hp
    | some q =>
      rw [hk] at hp
      simp only [HP.bind, HP.post] at hp ⊢
      refine key (upd h q.1 none) (fun x => ?_) hp
      by_cases e : x = q.1
      · subst e; exact .inr (upd_same _ _ _)
      · exact .inl (upd_ne _ _ e)
def CallsOK (T : Tab) : Prop := ∀ f args H v H', (T.callR f args H).val = some (v, H') → CallOK T f args H v H'
theorem post_callH {f : FuncId} {args : List AV} {us : List Value} {Q : AV → Hs → List Nat → Prop} (hT : CallsOK T) (hst0 : St T S w L h ids) (hr : RelL T.P S w args L us) (hp : (callH T f args).post h ids Q) :
    FnIn T.P f ∧ Calls T.P f us.toArray w fun e w' => ∃ u v h' ids' S' L', e = .returned u ∧ Q v h' ids' ∧ Rel T.P S' w' v L' u ∧ St T S' w' L' h' ids' ∧ Ext w S L w' S' L' := by
  unfold callH at hp
  rw [HP.post_bind] at hp
  obtain ⟨ps, hp, hlent0, hrel⟩ := post_prepH hst0 args 0 us _ hr hp
  rw [HP.post_bind] at hp
  obtain ⟨seen, hp, hrc0⟩ := post_reachH (ids := ids) 200 _ [] (roots := (ps.map fun p => idsOf 6 p.1).flatten) (by simp) (by simp) (fun x hx => .inr hx) (by simp) hp
  simp only at hp
  split at hp
  · exact hp.elim
  · rename_i hmeet
    generalize hout : (seen.map fun p => outK (seen.map (·.1)) p.2.kin) = outs at *
    obtain ⟨hp, houtT⟩ := post_rdAll _ hp
    have hp := post_killAll _ hp
    have hmeet' : ∀ r ∈ (ps.map (·.2)).flatten ++ outsOf true outs, r ∉ seen.map (·.1) ∧ r ∉ outsOf false outs := by
      intro r hr
      unfold meets at hmeet
      rw [List.any_eq_false] at hmeet
      have := hmeet r hr
      simp only [List.contains_iff_mem, List.mem_append, not_or] at this
      exact this
    -- partners that are not handed on
    have hpartner : ∀ r row y b, (r, row) ∈ seen → row.kin = some (y, b) → y ∉ seen.map (·.1) → y ∈ outsOf b outs := by
      intro r row y b hm hk hy
      rw [mem_outsOf, ← hout]
      exact List.mem_map.2 ⟨(r, row), hm, outK_some hk hy⟩
    have houtside : ∀ y b, y ∈ outsOf b outs → y ∉ seen.map (·.1) := by
      intro y b hy
      rw [mem_outsOf, ← hout] at hy
      obtain ⟨p, hm, hk⟩ := List.mem_map.1 hy
      unfold outK at hk
      split at hk
      · cases hk
      · split at hk
        · cases hk
        · rename_i hc
          injection hk with hk
          subst hk
          intro hm
          have : (seen.map (·.1)).contains y = true := by simpa using hm
          rw [this] at hc; cases hc
    have hst := hst0.dropAll (outsOf false outs)
    have hkeep : ∀ r, r ∉ outsOf false outs → killedAll h (outsOf false outs) r = h r := fun r hr => by unfold killedAll; rw [if_neg hr]
    have hgone : ∀ r, r ∈ outsOf false outs → killedAll h (outsOf false outs) r = none := fun r hr => by unfold killedAll; rw [if_pos hr]
    generalize killedAll h (outsOf false outs) = h0 at *
    have hrc : Reached h0 ((ps.map fun p => idsOf 6 p.1).flatten) seen :=
      ⟨fun p hp => by rw [hkeep p.1 (fun hm => houtside _ _ hm (List.mem_map_of_mem hp))]; exact hrc0.rows p hp, hrc0.nd, hrc0.all, hrc0.shut⟩
    have hlent : ∀ r ∈ (ps.map (·.2)).flatten ++ outsOf true outs, ∃ row, h0 r = some row := by
      intro r hr
      rw [hkeep r (hmeet' r hr).2]
      rw [List.mem_append] at hr
      rcases hr with hr | hr
      · exact hlent0 r hr
      · exact houtT r hr
    simp only [HP.post] at hp
    obtain ⟨q, hq, hp⟩ := hp
    have hok := hT f _ _ q.1 q.2 hq
    have hlen : (seen.map fun p => some (passRow (seen.map (·.1)) p.2)).length = seen.length := by simp
    have hle := hok.len
    rw [hlen] at hle
    have hargs : ∀ {S1 : Stab}, (∀ b q, plus S (cellsOf L (ps.map (·.2)).flatten) b q → S1 b q) → RelL T.P S1 w (ps.map fun p => renV 6 (renBy (seen.map (·.1))) p.1) (locBy L (seen.map (·.1))) us := by
      intro S1 h1
      have h2 := RelL.mono h1 (fun _ _ _ => rfl) _ (Loc.le_refl _) hrel
      have h3 := RelL.ren (n := 6) (f := renBy (seen.map (·.1))) (L' := locBy L (seen.map (·.1))) (renOK_by (sd := seen.map (·.1)) fun r hr => hrc.all r (by rw [List.map_map] at hr; exact hr)) h2
      rw [List.map_map] at h3
      exact h3
    have hsdL : ∀ r ∈ seen.map (·.1), ∃ x, L r = some x := by
      intro r hr
      simp at hr
      obtain ⟨row, hm⟩ := hr
      exact hst.live (hrc.rows _ hm)
    refine ⟨hok.fn, ?_⟩
    split at hp
    · rename_i hleak
      split at hp
      · rename_i houts
        obtain ⟨h1, S1, ⟨hp, hoff⟩, hst1, hext1, hS1⟩ := post_freezeR _ hst (post_freezeR_off _ hp)
        have hno : ∀ r row y, (r, row) ∈ seen → row.kin = some (y, true) → y ∈ seen.map (·.1) := by
          intro r row y hm hk
          rcases Classical.em (y ∈ seen.map (·.1)) with h | h
          · exact h
          · have := hpartner r row y true hm hk h
            rw [houts] at this
            cases this
        have hold : ∀ r ∈ seen.map (·.1), ∃ old, h1 r = some old := by
          obtain ⟨_, _, _, _, _, ho⟩ := post_mergeH hrc.nd hst1 hsdL (by simpa using hle) hp
          exact ho
        have hrc1 : Reached h1 ((ps.map fun p => idsOf 6 p.1).flatten) seen := by
          refine ⟨fun p hp => ?_, hrc.nd, hrc.all, hrc.shut⟩
          have hm : p.1 ∈ seen.map (·.1) := List.mem_map_of_mem hp
          rcases hoff p.1 (fun hl => (hmeet' _ hl).1 hm) with h2 | h2
          · rw [h2]; exact hrc.rows p hp
          · obtain ⟨old, ho⟩ := hold p.1 hm
            rw [h2] at ho; cases ho
        have hin := hst1.handed (S1 := S1) hrc1 (fun _ _ h => h) hst1.inv.stab fun r row p hm hl q hq => by
          have := (hst1.row (hrc1.rows _ hm) hl).st q hq
          refine ⟨?_, this.2⟩
          unfold passRow
          split
          · rw [renRow_fz]; exact this.1
          · rename_i o _
            obtain ⟨o1, o2⟩ := o
            cases o2
            · exact this.1
            · rfl
        refine (hok.run S1 w _ us (by rw [hlen]; exact hin) (hargs fun b q hb => hS1 b q (cellsOf_mono (fun r hr => List.mem_append_left _ hr) b q hb))).mono ?_
        rintro e w' ⟨u, S', L', rfl, hv, hst', hext⟩
        obtain ⟨names, more, rfl, e1, hq, _⟩ := post_mergeH hrc.nd hst1 hsdL (by simpa using hle) hp
        have hb := hst1.back (S1 := S1) (S2 := S') hrc1 (fun r row y hm hk hy => by
          have hyo := hpartner r row y false hm hk hy
          rcases hoff y (fun hl => (hmeet' _ hl).2 hyo) with h2 | h2
          · rw [h2]; exact hgone y hyo
          · exact h2) (fun r row y p q hm hk hy => absurd (hno r row y hm hk) hy) e1 (fun _ _ h => h) hst' hext hv (.inl ⟨rfl, rfl, hno⟩)
        rw [hout] at hb
        exact ⟨u, _, _, _, _, _, rfl, hq, hb.rel, hb.st, hext1.trans hb.ext⟩
      · exact hp.elim
    · rename_i hleak
      have hin := hst.handed (S1 := plus S (cellsOf L ((ps.map (·.2)).flatten ++ outsOf true outs))) hrc (plus_le _) (fun b q hb => by
          rcases hb with hb | ⟨r, hr, p, h3, h4, h5⟩
          · exact hst.inv.stab b q hb
          · obtain ⟨row, hrow⟩ := hlent r hr
            rw [← h4]; exact (hst.row hrow h3).lt) fun r row p hm hl q hq => by
          have hrr := hrc.rows _ hm
          simp only at hrr
          rcases hq with hq | ⟨r2, hr2, p2, h3, h4, h5⟩
          · have := (hst.row hrr hl).st q hq
            refine ⟨?_, this.2⟩
            unfold passRow
            split
            · rw [renRow_fz]; exact this.1
            · rename_i o _
              obtain ⟨o1, o2⟩ := o
              cases o2
              · exact this.1
              · rfl
          · obtain ⟨row2, hrow2⟩ := hlent r2 hr2
            have hm2 := (hmeet' r2 hr2).1
            rcases hst.inv.disj r r2 row row2 p p2 hrr hrow2 hl h3 h4.symm with h6 | ⟨h6, h7, h8⟩ | ⟨h6, h7, h8⟩
            · subst h6
              exact absurd (List.mem_map_of_mem (f := (·.1)) hm) hm2
            · refine ⟨?_, by omega⟩
              unfold passRow
              rw [outK_some h6 hm2]
            · exact absurd (hpartner r row r2 false hm h7 hm2) (hmeet' r2 hr2).2
      refine (hok.run _ w _ us (by rw [hlen]; exact hin) (hargs (cellsOf_mono fun r hr => List.mem_append_left _ hr))).mono ?_
      rintro e w' ⟨u, S', L', rfl, hv, hst', hext⟩
      obtain ⟨names, more, rfl, e1, hq, _⟩ := post_mergeH hrc.nd hst hsdL (by simpa using hle) hp
      have hb := hst.back (S1 := plus S (cellsOf L ((ps.map (·.2)).flatten ++ outsOf true outs))) (S2 := S) hrc (fun r row y hm hk hy => hgone y (hpartner r row y false hm hk hy))
        (fun r row y p q hm hk hy hl hq => .inr ⟨y, List.mem_append_right _ (hpartner r row y true hm hk hy), p, hl, rfl, hq⟩) e1 (plus_le _) hst' hext hv (.inr ⟨rfl, by simpa using hleak⟩)
      rw [hout] at hb
      have hext0 : Ext w S L _ S _ := hb.ext
      exact ⟨u, _, _, _, _, _, rfl, hq, hb.rel, hb.st, hb.ext⟩
def OpWp (T : Tab) (o : Oper) (a : Act) (w : World) (S : Stab) (L : Loc) (Q : AV → Hs → List Nat → Prop) : Prop :=
  ∀ (next : Act → World → Prop) (Qx : Exit → Act → World → Prop),
    (∀ v h' ids' S' L' w' u, Q v h' ids' → Rel T.P S' w' v L' u → St T S' w' L' h' ids' → Ext w S L w' S' L' → next (a.put o.dst u) w') → o.wp T.P a w next Qx
theorem relL_append {P : Program} : ∀ {vs vs' : List AV} {us us' : List Value}, RelL P S w vs L us → RelL P S w vs' L us' → RelL P S w (vs ++ vs') L (us ++ us')
  | [], vs', us, us', h, h' => by simp only [RelL] at h; subst h; simpa using h'
  | v :: vs, vs', us, us', h, h' => by
    simp only [RelL, List.cons_append] at h ⊢
    obtain ⟨u, rest, rfl, h1, h2⟩ := h
    exact ⟨u, rest ++ us', rfl, h1, relL_append h2 h'⟩
theorem op_any {o : Oper} {a : Act} {fr : Fr} {Q : AV → Hs → List Nat → Prop} (hT : CallsOK T) (hst : St T S w L h ids) (hx : ∀ x ∈ o.op.operands, Rel T.P S w (opv T fr x) L (a.eval x))
    (hp : (evOp T o fr).post h ids Q) : OpWp T o a w S L Q := by
  intro next Qx hnext
  cases hc : isCall o with
  | false =>
    obtain ⟨v, h', ids', S', L', w', n, x, hq, hrun, hn, hv, hst', hext⟩ := op_sound hst hx hc hp
    unfold Oper.wp
    rw [hrun]
    rcases hn with rfl | ⟨rfl, rfl⟩
    · exact hnext v h' ids' S' L' w' x hq hv hst' hext
    · exact hnext v h' ids' S' L' w' undef hq hv hst' hext
  | true =>
    unfold isCall at hc
    split at hc
    · rename_i c ho
      split at hc
      · cases hc
      · rename_i hnb
        unfold evOp at hp
        rw [ho] at hp
        simp only at hp
        have hp2 : (match callee T fr c with | some (f, args) => callH T f args | none => .fail).post h ids Q := by
          cases hcal : c.callee with
          | builtin b => exact absurd hcal (hnb b)
          | value f => exact hp
          | invoke r m => exact hp
        clear hp
        split at hp2
        · rename_i f args hcal
          unfold callee at hcal
          split at hcal
          · rename_i x hcx
            split at hcal
            · rename_i g first caps hfn
              simp only [Option.some.injEq, Prod.mk.injEq] at hcal
              obtain ⟨rfl, rfl⟩ := hcal
              have h0 := hx x (by rw [ho]; simp [Op.operands, Call.operands, hcx])
              rw [hfn] at h0
              simp only [Rel] at h0
              obtain ⟨fa, ca, hu, h1, h2⟩ := h0
              have h3 : RelL T.P S w (argsNil T c.argTypes.toList (c.args.toList.map (opv T fr))) L ((c.args.map a.eval).toList) := relL_argsNil _ (relL_args fun y hy => hx y (by
                rw [ho]; simp only [Op.operands, Call.operands, hcx]; simp; exact .inr (by simpa using hy)))
              obtain ⟨⟨fn, cc, hf1, hf2, hf3⟩, hcalls⟩ := post_callH hT hst (relL_append (relL_append h1 h3) h2) hp2
              unfold Oper.wp
              have hrun : (execOp a.eval o).run T.P w = .ok (.enter g (fa ++ c.args.map a.eval ++ ca)) w := by
                simp only [execOp, ho, resolve, hcx, hu, Deferred.ofValue]
                have hcf : ∀ args : Array Value, (callFunc g args).run T.P w = .ok (.enter g args) w := by
                  intro args
                  simp only [callFunc, Sem.run_bind, program, Sem.run, Result.andThen_ok, hf1, hf3, hf2]
                  rfl
                simpa [invoke] using hcf _
              rw [hrun]
              simp only [Oper.upon]
              have e : (fa.toList ++ (c.args.map a.eval).toList ++ ca.toList).toArray = fa ++ c.args.map a.eval ++ ca := by
                apply Array.ext'; simp
              rw [e] at hcalls
              refine hcalls.mono ?_
              rintro en w' ⟨u, v, h', ids', S', L', rfl, hq, hv, hst', hext⟩
              exact hnext v h' ids' S' L' w' u hq hv hst' hext
            · cases hcal
          · cases hcal
        · exact hp2.elim
    · cases hc
end
end Go.Ev
namespace Go.Ev
open Go
set_option linter.unusedVariables false
set_option linter.unusedSimpArgs false
def Lst {X : Type} (W : Nat → Prop) (out : Nat → X) (v0 : X) (done : Nat → Prop) (x : X) : Prop :=
  (∃ i, W i ∧ done i ∧ (∀ k, W k → done k → k ≤ i) ∧ x = out i) ∨ ((∀ i, W i → ¬ done i) ∧ x = v0)
theorem hist {X : Type} {W : Nat → Prop} {out : Nat → X} {val : Nat → X} : ∀ (j : Nat), (∀ i, i < j → W i → val (i + 1) = out i) → (∀ i, i < j → ¬ W i → val (i + 1) = val i) →
    (∃ i, i < j ∧ W i ∧ (∀ k, k < j → W k → k ≤ i) ∧ val j = out i) ∨ ((∀ i, i < j → ¬ W i) ∧ val j = val 0)
  | 0, _, _ => .inr ⟨fun i hi => by omega, rfl⟩
  | j + 1, h1, h2 => by
    by_cases hw : W j
    · exact .inl ⟨j, by omega, hw, fun k hk _ => by omega, h1 j (by omega) hw⟩
    · rcases hist j (fun i hi => h1 i (by omega)) (fun i hi => h2 i (by omega)) with ⟨i, a, b, c, d⟩ | ⟨a, b⟩
      · refine .inl ⟨i, by omega, b, fun k hk hwk => ?_, by rw [h2 j (by omega) hw]; exact d⟩
        by_cases e : k = j
        · subst e; exact absurd hwk hw
        · exact c k (by omega) hwk
      · refine .inr ⟨fun i hi hwi => ?_, by rw [h2 j (by omega) hw]; exact b⟩
        by_cases e : i = j
        · subst e; exact hw hwi
        · exact a i (by omega) hwi
theorem Lst.at {X : Type} {W : Nat → Prop} {out : Nat → X} {v0 x : X} {done : Nat → Prop} {val : Nat → X} {j : Nat} (h : Lst W out v0 done x) (h0 : val 0 = v0)
    (h1 : ∀ i, i < j → W i → val (i + 1) = out i) (h2 : ∀ i, i < j → ¬ W i → val (i + 1) = val i) (h3 : ∀ i, i < j → W i → done i) (h4 : ∀ k, j ≤ k → W k → ¬ done k) : x = val j := by
  rcases h with ⟨i, a, b, c, d⟩ | ⟨a, d⟩ <;> rcases hist j h1 h2 with ⟨i', a', b', c', d'⟩ | ⟨a', d'⟩
  · have hij : i < j := by
      rcases Nat.lt_or_ge i j with h | h
      · exact h
      · exact absurd b (h4 i h a)
    have e1 := c i' b' (h3 i' a' b')
    have e2 := c' i hij a
    have : i = i' := by omega
    rw [d, d', this]
  · have hij : i < j := by
      rcases Nat.lt_or_ge i j with h | h
      · exact h
      · exact absurd b (h4 i h a)
    exact absurd a (a' i hij)
  · exact absurd (h3 i' a' b') (a i' b')
  · rw [d, d', h0]
def orAt (done : Nat → Prop) (j : Nat) : Nat → Prop := fun i => done i ∨ i = j
theorem Lst.here {X : Type} {W : Nat → Prop} {out : Nat → X} {v0 : X} {done : Nat → Prop} {j : Nat} (hw : W j) (h : ∀ k, j < k → W k → ¬ done k) : Lst W out v0 (orAt done j) (out j) :=
  .inl ⟨j, hw, .inr rfl, fun k hk hd => by
    rcases hd with hd | rfl
    · rcases Nat.lt_or_ge j k with h' | h'
      · exact absurd hd (h k h' hk)
      · exact h'
    · exact Nat.le_refl _, rfl⟩
theorem Lst.off {X : Type} {W : Nat → Prop} {out : Nat → X} {v0 x : X} {done : Nat → Prop} {j : Nat} (hw : ¬ W j) (h : Lst W out v0 done x) : Lst W out v0 (orAt done j) x := by
  rcases h with ⟨i, a, b, c, d⟩ | ⟨a, d⟩
  · refine .inl ⟨i, a, .inl b, fun k hk hd => ?_, d⟩
    rcases hd with hd | rfl
    · exact c k hk hd
    · exact absurd hk hw
  · refine .inr ⟨fun i hi hd => ?_, d⟩
    rcases hd with hd | rfl
    · exact a i hi hd
    · exact hw hi
def names (n m : Nat) : List Nat := (List.range m).map (· + n)
theorem mem_names {n m x : Nat} : x ∈ names n m ↔ n ≤ x ∧ x < n + m := by
  unfold names
  simp only [List.mem_map, List.mem_range]
  constructor
  · rintro ⟨k, hk, rfl⟩; omega
  · rintro ⟨h1, h2⟩; exact ⟨x - n, by omega, by omega⟩
theorem names_nodup (n m : Nat) : (names n m).Nodup := by
  unfold names
  rw [List.nodup_iff_pairwise_ne, List.pairwise_map]
  have := List.nodup_range (n := m)
  rw [List.nodup_iff_pairwise_ne] at this
  exact this.imp fun h => by omega
structure Rec where
  o : Oper
  fr : Fr
  H : Hp
  v : AV
  H' : Hp
  rs : List Nat
  ws : List Nat
def RecQ (rc : Rec) (h : Hs) (more : List Nat) : AV → Hs → List Nat → Prop :=
  fun v' h' ids' => v' = rc.v ∧ ids' = more ∧ (∀ r ∈ rc.ws, h' r = look rc.H' r) ∧ ∀ r, r ∉ rc.ws → h' r = h r
def RecRun (T : Tab) (rc : Rec) : Prop := ∀ (a : Act) (w : World) (S : Stab) (L : Loc) (h : Hs) (more : List Nat), St T S w L h (names rc.H.length (rc.H'.length - rc.H.length) ++ more) →
  (∀ r ∈ rc.rs ++ rc.ws, r < rc.H.length → h r = look rc.H r) → (T.lay = true → ∀ r, r < rc.H.length → L r ≠ none → (h r).map rowTy = (look rc.H r).map rowTy) → (∀ x ∈ rc.o.op.operands, Rel T.P S w (opv T rc.fr x) L (a.eval x)) → OpWp T rc.o a w S L (RecQ rc h more)
structure RecFrame (T : Tab) (rc : Rec) : Prop where
  lay : T.lay = true → ∀ r, r < rc.H.length → (look rc.H' r).map rowTy = (look rc.H r).map rowTy
  len : rc.H.length ≤ rc.H'.length
  off : ∀ r, r ∉ rc.ws → look rc.H' r = look rc.H r
  new : ∀ r, rc.H.length ≤ r → r < rc.H'.length → r ∈ rc.ws
  lt : ∀ r ∈ rc.ws, r < rc.H'.length
def RecOK (T : Tab) (ops : List Oper) (rc : Rec) : Prop := match rc.o.guard with
  | none => RecRun T rc
  | some (j, want) => ∃ g u, (ops[j]?).bind (·.dst) = some g ∧ get rc.fr g = .sc u ∧ (u = .bool want → RecRun T rc) ∧ (u ≠ .bool want → rc.v = .sc (.tuple #[]) ∧ rc.rs = [] ∧ rc.ws = [] ∧ rc.H' = rc.H)
section
variable {T : Tab}
theorem get_put (fr : Fr) (d : Option Nat) (v : AV) (t : Nat) : get (put fr d v) t = if d = some t then v else get fr t := by
  cases d with
  | none => simp [put]
  | some d =>
    simp only [put, get]
    by_cases h : d = t
    · subst h
      have : Nat.beq d d = true := by simp
      rw [this]; simp
    · have h1 : Nat.beq d t = false := by
        cases hb : Nat.beq d t with
        | false => rfl
        | true => exact absurd (Nat.eq_of_beq_eq_true hb) h
      rw [h1]
      have : ¬ (some d = some t) := by simpa using h
      simp [this]
theorem get_known (fr : Fr) {c : Nat} {v : AV} (h : get fr c = v) (t : Nat) : get ((c, v) :: fr) t = get fr t := by
  have := get_put fr (some c) v t
  simp only [put] at this
  rw [this]
  by_cases e : c = t
  · subst e; simp [h]
  · simp [e]
theorem eqTy_spec {a b : Option TypeId} (h : eqTy a b = true) : a = b := by
  unfold eqTy at h
  split at h
  · rw [Nat.eq_of_beq_eq_true h]
  · rfl
  · cases h
theorem layOK_spec {H H' : Hp} : ∀ {ws : List Nat}, layOK H H' ws = true → ∀ r, r ∈ ws → r < H.length → (look H' r).map rowTy = (look H r).map rowTy
  | [], _, r, hr, _ => by simp at hr
  | x :: ws, h, r, hr, hlt => by
    unfold layOK at h
    split at h
    · rename_i a ha
      split at h
      · rename_i b hb
        simp only [Bool.and_eq_true] at h
        rcases List.mem_cons.1 hr with rfl | hr
        · rw [look_some.2 ha, look_some.2 hb]
          show some _ = some _
          rw [eqTy_spec h.1]
        · exact layOK_spec h.2 r hr hlt
      · cases h
    · cases h
    · rename_i hn
      rcases List.mem_cons.1 hr with rfl | hr
      · rw [List.getElem?_eq_none_iff] at hn
        omega
      · exact layOK_spec h r hr hlt
theorem layB_spec {H H' : Hp} {ws : List Nat} (h : layB true H H' ws = true) (hoff : ∀ r, r ∉ ws → look H' r = look H r) (r : Nat) (hr : r < H.length) : (look H' r).map rowTy = (look H r).map rowTy := by
  by_cases hm : r ∈ ws
  · exact layOK_spec h r hm hr
  · rw [hoff r hm]
theorem keepR_ne {l : Bool} {o : Op} (h : ¬ ∀ rs, keepR l o rs = rs) : l = true ∧ ∃ t x f, o = .fieldAddr t x f := by
  cases l with
  | false => exact absurd (fun _ => rfl) h
  | true =>
    refine ⟨rfl, ?_⟩
    cases o with
    | fieldAddr t x f => exact ⟨t, x, f, rfl⟩
    | _ => exact absurd (fun _ => rfl) h
theorem field_lay {t : TypeId} {x : AV} {f : Nat} {R : Type} {K : AV → Hp → List Nat → List Nat → Option R} {H : Hp} {z : R} (hx : (fieldAddr T t x f).run K H [] [] = some z) :
    ∃ v rs, K v H rs [] = some z ∧ ∀ (h : Hs) (ids : List Nat) (Q : AV → Hs → List Nat → Prop), (∀ r row, (∃ s, x = .ps r s 0 0) → look H r = some row → ∃ row', h r = some row' ∧ rowTy row' = rowTy row) → Q v h ids → (fieldAddr T t x f).post h ids Q := by
  unfold fieldAddr at hx ⊢
  split at hx
  · rename_i fs hd
    split at hx
    · rename_i g hg
      simp only at hx
      split at hx
      · rename_i hc
        split at hx
        · rename_i r s
          simp only [HP.run] at hx
          split at hx
          · rename_i row hrow
            split at hx
            · rename_i hw
              refine ⟨_, _, hx, fun h ids Q hh hq => ?_⟩
              obtain ⟨row', e1, e2⟩ := hh r row ⟨s, rfl⟩ (look_some.2 hrow)
              simp only [hc, HP.post]
              refine ⟨row', e1, ?_⟩
              rw [e2, hw]
              exact hq
            · simp [HP.run] at hx
          · cases hx
        · rename_i c ty s
          split at hx
          · rename_i hw
            refine ⟨_, _, hx, fun h ids Q hh hq => ?_⟩
            simp only [hc, hw, HP.post]
            exact hq
          · simp [HP.run] at hx
        · simp [HP.run] at hx
      · simp [HP.run] at hx
    · simp [HP.run] at hx
  · simp [HP.run] at hx
theorem evDo_spec {R : Type} {o : Oper} {k : Fr → Hp → List Nat → List Nat → Option R} {fr : Fr} {H : Hp} {x : R} (hT : CallsOK T) (hx : evDo T o k fr H [] [] = some x) :
    ∃ fr' v H' rs ws, k fr' H' rs ws = some x ∧ (∀ t, get fr' t = if o.dst = some t then v else get fr t) ∧ RecFrame T ⟨o, fr, H, v, H', rs, ws⟩ ∧ RecRun T ⟨o, fr, H, v, H', rs, ws⟩ := by
  have plain : (evOp T o fr).run (fun v H' rs ws => match layB T.lay H H' ws with
    | true => k (put fr o.dst v) H' (keepR T.lay o.op rs) ws
    | false => none) H [] [] = some x →
      ∃ fr' v H' rs ws, k fr' H' rs ws = some x ∧ (∀ t, get fr' t = if o.dst = some t then v else get fr t) ∧ RecFrame T ⟨o, fr, H, v, H', rs, ws⟩ ∧ RecRun T ⟨o, fr, H, v, H', rs, ws⟩ := by
    intro hx
    by_cases hk : ∀ rs, keepR T.lay o.op rs = rs
    · obtain ⟨v, H', rs, ws, news, h1, h2, h3, h4, h5, h6⟩ := run_acc _ hx
      simp only [List.append_nil, hk] at h1
      split at h1
      · rename_i hlay
        refine ⟨_, v, H', rs, ws, h1, get_put fr o.dst v, ⟨fun hT r hr => layB_spec (by rw [hT] at hlay; exact hlay) h3 r hr, by simp only; omega, h3, h4, h5⟩, fun a w S L h more hst hag hly hops => ?_⟩
        simp only at hst hag hops ⊢
        have he : H'.length - H.length = news := by omega
        rw [he] at hst
        refine op_any hT hst hops ?_
        exact h6 h more hag
      · cases h1
    · obtain ⟨hl, t, y, f, ho⟩ := keepR_ne hk
      have hev : evOp T o fr = fieldAddr T t (opv T fr y) f := by simp only [evOp, ho]
      rw [hev] at hx
      obtain ⟨v, rs, h1, h2⟩ := field_lay hx
      simp only [hl, layB, layOK, keepR, ho] at h1
      refine ⟨_, v, H, [], [], h1, get_put fr o.dst v, ⟨fun _ _ _ => rfl, Nat.le_refl _, fun _ _ => rfl, fun r h1 h2 => by simp only at h1 h2; omega, by simp⟩, fun a w S L h more hst hag hly hops => ?_⟩
      simp only at hst hag hly hops ⊢
      have he : H.length - H.length = 0 := by omega
      rw [he] at hst
      refine op_any hT hst hops ?_
      rw [hev]
      refine h2 h _ _ (fun r row hps hrow => ?_) ⟨rfl, rfl, by simp, fun _ _ => rfl⟩
      obtain ⟨s, hps⟩ := hps
      have hr := hops y (by simp [ho, Op.operands])
      rw [hps] at hr
      simp only [Rel] at hr
      obtain ⟨p, hL, _⟩ := psR_some hr
      have hlt : r < H.length := by
        rcases Nat.lt_or_ge r H.length with c | c
        · exact c
        · have := look_some.1 hrow
          rw [List.getElem?_eq_none c] at this
          cases this
      have hm := hly hl r hlt (by rw [hL]; simp)
      rw [hrow] at hm
      cases hh : h r with
      | none => rw [hh] at hm; cases hm
      | some row' =>
        rw [hh] at hm
        exact ⟨row', rfl, by simpa using hm⟩
  unfold evDo at hx
  split at hx
  · rename_i c p q ho
    split at hx
    · rename_i t hc
      have fin : ∀ (y : Operand), (y = if t then p else q) → k (put ((c, vb t) :: fr) o.dst (opv T fr y)) H [] [] = some x →
          ∃ fr' v H' rs ws, k fr' H' rs ws = some x ∧ (∀ t, get fr' t = if o.dst = some t then v else get fr t) ∧ RecFrame T ⟨o, fr, H, v, H', rs, ws⟩ ∧ RecRun T ⟨o, fr, H, v, H', rs, ws⟩ := by
        intro y hy hk
        refine ⟨_, opv T fr y, H, [], [], hk, fun t' => ?_, ⟨fun _ _ _ => rfl, Nat.le_refl _, fun _ _ => rfl, fun r h1 h2 => by simp only at h1 h2; omega, by simp⟩, fun a w S L h more hst hag hly hops => ?_⟩
        · rw [get_put, get_known fr hc]
        · simp only at hst hag hops ⊢
          intro next Qx hnext
          have hcv := hops (.tmp c) (by simp [ho, Op.operands])
          simp only [opv] at hcv
          rw [hc] at hcv
          simp only [Rel] at hcv
          have hyv : Rel T.P S w (opv T fr y) L (a.eval y) := hops y (by rw [hy]; cases t <;> simp [ho, Op.operands])
          unfold Oper.wp
          have hrun : (execOp a.eval o).run T.P w = .ok (.value (a.eval y)) w := by
            rw [hy]
            cases t <;> simp [execOp, ho, hcv, asBool]
          rw [hrun]
          have e : H.length - H.length = 0 := by omega
          rw [e] at hst
          exact hnext (opv T fr y) h more S L w _ ⟨rfl, rfl, by simp, fun _ _ => rfl⟩ hyv hst (Ext.refl _ _ _)
      cases t with
      | true => exact fin p rfl hx
      | false => exact fin q rfl hx
    · cases hx
  · exact plain hx
def RecStep (fr : Fr) (H : Hp) (rc : Rec) (fr' : Fr) : Prop := (∀ t, get rc.fr t = get fr t) ∧ rc.H = H ∧ ∀ t, get fr' t = if rc.o.dst = some t then rc.v else get fr t
def Tr (T : Tab) (ops : List Oper) : List Rec → Fr → Hp → Fr → Hp → Prop
  | [], fr, H, frE, HE => (∀ t, get frE t = get fr t) ∧ HE = H
  | rc :: rcs, fr, H, frE, HE => RecFrame T rc ∧ RecOK T ops rc ∧ ∃ fr', RecStep fr H rc fr' ∧ Tr T ops rcs fr' rc.H' frE HE
theorem evOps_spec {R : Type} {ops : List Oper} {k : Fr → Hp → List (List Nat × List Nat) → Option R} {x : R} (hT : CallsOK T) : ∀ (rest : List Oper) (acc : List (List Nat × List Nat)) (fr : Fr) (H : Hp), evOps T ops k rest acc fr H = some x →
    ∃ recs frE HE, recs.map (·.o) = rest ∧ Tr T ops recs fr H frE HE ∧ k frE HE (acc ++ recs.map fun rc => (rc.rs, rc.ws)) = some x
  | [], acc, fr, H, hx => ⟨[], fr, H, rfl, ⟨fun _ => rfl, rfl⟩, by simpa [evOps] using hx⟩
  | o :: rest, acc, fr, H, hx => by
    have next : ∀ (fr' : Fr) (H' : Hp) (rc : Rec), rc.o = o → RecFrame T rc → RecOK T ops rc → RecStep fr H rc fr' → rc.H' = H' → evOps T ops k rest (acc ++ [(rc.rs, rc.ws)]) fr' H' = some x →
        ∃ recs frE HE, recs.map (·.o) = o :: rest ∧ Tr T ops recs fr H frE HE ∧ k frE HE (acc ++ recs.map fun rc => (rc.rs, rc.ws)) = some x := by
      intro fr' H' rc h1 h2 h3 h4 h5 h6
      subst h5
      obtain ⟨recs, frE, HE, e1, e2, e3⟩ := evOps_spec hT rest _ fr' rc.H' h6
      exact ⟨rc :: recs, frE, HE, by simp [h1, e1], ⟨h2, h3, fr', h4, e2⟩, by simpa using e3⟩
    simp only [evOps] at hx
    split at hx
    · rename_i hg
      obtain ⟨fr', v, H', rs, ws, h1, h2, h3, h4⟩ := evDo_spec hT hx
      exact next fr' H' ⟨o, fr, H, v, H', rs, ws⟩ rfl h3 (by unfold RecOK; simp only [hg]; exact h4) ⟨fun _ => rfl, rfl, h2⟩ rfl h1
    · rename_i j want hg
      split at hx
      · cases hx
      · rename_i g hdst
        split at hx
        · rename_i b hb
          have yes : evDo T o (fun fr H rs ws => evOps T ops k rest (acc ++ [(rs, ws)]) fr H) ((g, vb b) :: fr) H [] [] = some x → b = want →
              ∃ recs frE HE, recs.map (·.o) = o :: rest ∧ Tr T ops recs fr H frE HE ∧ k frE HE (acc ++ recs.map fun rc => (rc.rs, rc.ws)) = some x := by
            intro hx hw
            obtain ⟨fr', v, H', rs, ws, h1, h2, h3, h4⟩ := evDo_spec hT hx
            have hk := get_known fr hb
            exact next fr' H' ⟨o, (g, vb b) :: fr, H, v, H', rs, ws⟩ rfl h3 (by
              unfold RecOK; simp only [hg]
              exact ⟨g, .bool b, hdst, by rw [hk]; exact hb, fun _ => h4, fun hne => absurd (by rw [hw]) hne⟩) ⟨hk, rfl, fun t => by simp only; rw [h2 t, hk t]⟩ rfl h1
          have no : evOps T ops k rest (acc ++ [([], [])]) (put ((g, vb b) :: fr) o.dst (.sc (.tuple #[]))) H = some x → b ≠ want →
              ∃ recs frE HE, recs.map (·.o) = o :: rest ∧ Tr T ops recs fr H frE HE ∧ k frE HE (acc ++ recs.map fun rc => (rc.rs, rc.ws)) = some x := by
            intro hx hw
            have hk := get_known fr hb
            exact next _ H ⟨o, (g, vb b) :: fr, H, .sc (.tuple #[]), H, [], []⟩ rfl ⟨fun _ _ _ => rfl, Nat.le_refl _, fun _ _ => rfl, fun r h1 h2 => by simp only at h1 h2; omega, by simp⟩ (by
              unfold RecOK; simp only [hg]
              exact ⟨g, .bool b, hdst, by rw [hk]; exact hb, fun he => absurd (by injection he) hw, fun _ => by simp⟩) ⟨hk, rfl, fun t => by simp only; rw [get_put, hk t]⟩ rfl hx
          cases b with
          | true =>
            simp only [cond_true] at hx
            cases want with
            | true => exact yes hx rfl
            | false => exact no hx (by simp)
          | false =>
            simp only [cond_false] at hx
            cases want with
            | true => exact no hx (by simp)
            | false => exact yes hx rfl
        · rename_i u hu
          exact next _ H ⟨o, fr, H, .sc (.tuple #[]), H, [], []⟩ rfl ⟨fun _ _ _ => rfl, Nat.le_refl _, fun _ _ => rfl, fun r h1 h2 => by simp only at h1 h2; omega, by simp⟩ (by
            unfold RecOK; simp only [hg]
            exact ⟨g, .tuple u, hdst, hu, fun he => (by cases he), fun _ => by simp⟩) ⟨fun _ => rfl, rfl, fun t => by simp only; rw [get_put]⟩ rfl hx
        · cases hx
def frAt (recs : List Rec) (frE : Fr) (i : Nat) : Fr := ((recs[i]?).map (·.fr)).getD frE
def hAt (recs : List Rec) (HE : Hp) (i : Nat) : Hp := ((recs[i]?).map (·.H)).getD HE
theorem Tr.zero {ops : List Oper} : ∀ {recs : List Rec} {fr : Fr} {H : Hp} {frE : Fr} {HE : Hp}, Tr T ops recs fr H frE HE → (∀ t, get (frAt recs frE 0) t = get fr t) ∧ hAt recs HE 0 = H
  | [], fr, H, frE, HE, h => ⟨h.1, h.2⟩
  | rc :: rcs, fr, H, frE, HE, h => by
    obtain ⟨_, _, fr', h1, _⟩ := h
    exact ⟨h1.1, h1.2.1⟩
theorem Tr.at {ops : List Oper} : ∀ {recs : List Rec} {fr : Fr} {H : Hp} {frE : Fr} {HE : Hp}, Tr T ops recs fr H frE HE → ∀ {i : Nat} {rc : Rec}, recs[i]? = some rc →
    RecFrame T rc ∧ RecOK T ops rc ∧ (∀ t, get (frAt recs frE (i + 1)) t = if rc.o.dst = some t then rc.v else get (frAt recs frE i) t) ∧ hAt recs HE (i + 1) = rc.H' ∧ frAt recs frE i = rc.fr ∧ hAt recs HE i = rc.H
  | [], fr, H, frE, HE, h, i, rc, hi => by simp at hi
  | r0 :: rcs, fr, H, frE, HE, h, i, rc, hi => by
    obtain ⟨h1, h2, fr', h3, h4⟩ := h
    cases i with
    | zero =>
      simp at hi
      subst hi
      obtain ⟨e1, e2⟩ := h4.zero
      refine ⟨h1, h2, fun t => ?_, ?_, rfl, rfl⟩
      · have a1 : frAt (r0 :: rcs) frE (0 + 1) = frAt rcs frE 0 := by unfold frAt; simp
        have a2 : frAt (r0 :: rcs) frE 0 = r0.fr := rfl
        rw [a1, a2, e1, h3.2.2 t, h3.1 t]
      · have a1 : hAt (r0 :: rcs) HE (0 + 1) = hAt rcs HE 0 := by unfold hAt; simp
        rw [a1, e2]
    | succ i =>
      simp at hi
      obtain ⟨e1, e2, e3, e4, e5, e6⟩ := h4.at hi
      have a1 : ∀ j, frAt (r0 :: rcs) frE (j + 1) = frAt rcs frE j := fun j => by unfold frAt; simp
      have a2 : ∀ j, hAt (r0 :: rcs) HE (j + 1) = hAt rcs HE j := fun j => by unfold hAt; simp
      exact ⟨e1, e2, fun t => by rw [a1, a1]; exact e3 t, by rw [a2]; exact e4, by rw [a1]; exact e5, by rw [a2]; exact e6⟩
end
end Go.Ev
namespace Go.Ev
open Go
set_option linter.unusedVariables false
set_option linter.unusedSimpArgs false
section
variable {T : Tab}
theorem St.perm {S : Stab} {w : World} {L : Loc} {h : Hs} {ids ids' : List Nat} (hst : St T S w L h ids) (hn : ids'.Nodup) (hm : ∀ x, x ∈ ids' ↔ x ∈ ids) (hl : ids'.getLast? = ids.getLast?) : St T S w L h ids' :=
  ⟨hst.inv, ⟨hn, fun b hb i hi => hst.nd.2 b (by rw [← hl]; exact hb) i ((hm i).1 hi)⟩, fun i hi => hst.fresh i (by
    rcases hi with hi | ⟨b, hb, hbi⟩
    · exact .inl ((hm i).1 hi)
    · exact .inr ⟨b, by rw [← hl]; exact hb, hbi⟩), hst.dom, hst.glob⟩
def boolOf : Value → Option Bool
  | .bool b => some b
  | _ => none
def wT (recs : List Rec) (t : Nat) (i : Nat) : Prop := ∃ rc, recs[i]? = some rc ∧ rc.o.dst = some t
def oT (recs : List Rec) (i : Nat) : AV := ((recs[i]?).map (·.v)).getD .dead
def wR (recs : List Rec) (r : Nat) (i : Nat) : Prop := ∃ rc, recs[i]? = some rc ∧ r ∈ rc.ws
def oR (recs : List Rec) (r : Nat) (i : Nat) : Option Row := ((recs[i]?).map fun rc => look rc.H' r).getD none
theorem oT_at {recs : List Rec} {i : Nat} {rc : Rec} (h : recs[i]? = some rc) : oT recs i = rc.v := by unfold oT; rw [h]; rfl
theorem oR_at {recs : List Rec} {i : Nat} {rc : Rec} (r : Nat) (h : recs[i]? = some rc) : oR recs r i = look rc.H' r := by unfold oR; rw [h]; rfl
structure RI (T : Tab) (recs : List Rec) (fr0 : Fr) (H0 HE : Hp) (n : Nat) (w0 : World) (S0 : Stab) (L0 : Loc) (done : Nat → Prop) (a : Act) (w : World) (S : Stab) (L : Loc) (h : Hs) (ids : List Nat) : Prop where
  st : St T S w L h ids
  mem : ∀ x, x ∈ ids ↔ x = HE.length ∨ ∃ i rc, recs[i]? = some rc ∧ ¬ done i ∧ rc.H.length ≤ x ∧ x < rc.H'.length
  last : ids.getLast? = some HE.length
  tm : ∀ t, ∃ x, Lst (wT recs t) (oT recs) (get fr0 t) done x ∧ Rel T.P S w x L (a.tmps.getD t undef)
  hp : ∀ r, Lst (wR recs r) (oR recs r) (look H0 r) done (h r)
  size : a.tmps.size = n
  dfr : a.defers = []
  ext : Ext w0 S0 L0 w S L
theorem filter_last {l : List Nat} {p : Nat → Bool} {e : Nat} (hl : l.getLast? = some e) (hp : p e = true) : (l.filter p).getLast? = some e := by
  obtain ⟨l', rfl⟩ : ∃ l', l = l' ++ [e] := by
    rw [List.getLast?_eq_some_iff] at hl
    obtain ⟨ys, h⟩ := hl
    exact ⟨ys, h⟩
  rw [List.filter_append]
  simp [hp]
theorem getD_put {a : Act} {d : Option Nat} {u : Value} {t n : Nat} (hs : a.tmps.size = n) (hd : ∀ x, d = some x → x < n) : (a.put d u).tmps.getD t undef = if d = some t then u else a.tmps.getD t undef := by
  cases d with
  | none => simp [Act.put]
  | some d =>
    have := hd d rfl
    simp only [Act.put]
    by_cases e : d = t
    · subst e
      simp [Array.getD_eq_getD_getElem?, hs, this]
    · have : ¬ (some d = some t) := by simpa using e
      simp [Array.getD_eq_getD_getElem?, Array.getElem?_setIfInBounds_ne e, this, e]
theorem size_put {a : Act} {d : Option Nat} {u : Value} : (a.put d u).tmps.size = a.tmps.size := by cases d <;> simp [Act.put]
theorem dfr_put {a : Act} {d : Option Nat} {u : Value} : (a.put d u).defers = a.defers := by cases d <;> simp [Act.put]
theorem hAt_le {ops : List Oper} {recs : List Rec} {fr0 frE : Fr} {H0 HE : Hp} (htr : Tr T ops recs fr0 H0 frE HE) : ∀ (k i : Nat), i + k ≤ recs.length → (hAt recs HE i).length ≤ (hAt recs HE (i + k)).length
  | 0, i, _ => Nat.le_refl _
  | k + 1, i, hk => by
    have h1 := hAt_le htr k i (by omega)
    have hi : i + k < recs.length := by omega
    obtain ⟨hf, _, _, h4, _, h6⟩ := htr.at (List.getElem?_eq_getElem hi)
    have := hf.len
    rw [← Nat.add_assoc, h4]
    rw [← h6] at this
    omega
theorem hAt_end {recs : List Rec} {HE : Hp} {i : Nat} (h : recs.length ≤ i) : hAt recs HE i = HE := by
  unfold hAt
  rw [List.getElem?_eq_none h]; rfl
theorem frAt_end {recs : List Rec} {frE : Fr} {i : Nat} (h : recs.length ≤ i) : frAt recs frE i = frE := by
  unfold frAt
  rw [List.getElem?_eq_none h]; rfl
section step
variable {ops : List Oper} {recs : List Rec} {fr0 frE : Fr} {H0 HE : Hp} {n : Nat} {w0 : World} {S0 : Stab} {L0 : Loc} {done : Nat → Prop}
theorem RI.slot (htr : Tr T ops recs fr0 H0 frE HE) {t j : Nat} {x : AV} (hx : Lst (wT recs t) (oT recs) (get fr0 t) done x) (hj : j ≤ recs.length)
    (h3 : ∀ i, i < j → wT recs t i → done i) (h4 : ∀ k, j ≤ k → wT recs t k → ¬ done k) : x = get (frAt recs frE j) t := by
  refine hx.at (val := fun i => get (frAt recs frE i) t) (htr.zero.1 t) (fun i hi hw => ?_) (fun i hi hw => ?_) h3 h4
  · obtain ⟨rc, h1, h2⟩ := hw
    obtain ⟨_, _, h5, _⟩ := htr.at h1
    simp only [h5 t, h2, if_true, oT_at h1]
  · have hi' : i < recs.length := by omega
    have h1 := List.getElem?_eq_getElem hi'
    obtain ⟨_, _, h5, _⟩ := htr.at h1
    have : ¬ (recs[i].o.dst = some t) := fun h => hw ⟨_, h1, h⟩
    simp only [h5 t, this, if_false]
theorem RI.cell (htr : Tr T ops recs fr0 H0 frE HE) {r j : Nat} {x : Option Row} (hx : Lst (wR recs r) (oR recs r) (look H0 r) done x) (hj : j ≤ recs.length)
    (h3 : ∀ i, i < j → wR recs r i → done i) (h4 : ∀ k, j ≤ k → wR recs r k → ¬ done k) : x = look (hAt recs HE j) r := by
  refine hx.at (val := fun i => look (hAt recs HE i) r) (by simp only [htr.zero.2]) (fun i hi hw => ?_) (fun i hi hw => ?_) h3 h4
  · obtain ⟨rc, h1, h2⟩ := hw
    obtain ⟨_, _, _, h5, _⟩ := htr.at h1
    simp only [h5, oR_at r h1]
  · have hi' : i < recs.length := by omega
    have h1 := List.getElem?_eq_getElem hi'
    obtain ⟨hf, _, _, h5, _, h6⟩ := htr.at h1
    have : r ∉ recs[i].ws := fun h => hw ⟨_, h1, h⟩
    simp only [h5, h6]
    exact hf.off r this
theorem ri_step (htr : Tr T ops recs fr0 H0 frE HE) (hops : ops = recs.map (·.o)) {aops : Array Oper} (ha : aops.toList = ops) {j : Nat} {rc : Rec} (hj : recs[j]? = some rc) (hnd : ¬ done j)
    (hd : ∀ o ∈ ops, ∀ d, o.dst = some d → d < n)
    (t1 : ∀ t, t ∈ looks ops rc.o → (∀ i, i < j → wT recs t i → done i) ∧ ∀ k, j < k → wT recs t k → ¬ done k)
    (t2 : ∀ t, rc.o.dst = some t → ∀ k, j < k → wT recs t k → ¬ done k)
    (r1 : ∀ r, r ∈ rc.rs ++ rc.ws → (∀ i, i < j → wR recs r i → done i) ∧ ∀ k, j < k → wR recs r k → ¬ done k)
    {a : Act} {w : World} {S : Stab} {L : Loc} {h : Hs} {ids : List Nat} (hri : RI T recs fr0 H0 HE n w0 S0 L0 done a w S L h ids)
    {Q : Exit → Act → World → Prop} {K : Act → World → Prop} (hK : ∀ a' w' S' L' h' ids', RI T recs fr0 H0 HE n w0 S0 L0 (orAt done j) a' w' S' L' h' ids' → K a' w') : wpOp T.P aops Q j K a w := by
  have hjl := lt_of_get hj
  obtain ⟨hfr, hok, hst1, hst2, e5, e6⟩ := htr.at hj
  have hao : aops[j]? = some rc.o := by
    rw [← Array.getElem?_toList, ha, hops, List.getElem?_map, hj]; rfl
  have hdst : ∀ d, rc.o.dst = some d → d < n := fun d hdd => hd rc.o (by rw [hops]; exact List.mem_map_of_mem (List.mem_of_getElem? hj)) d hdd
  -- slots that are looked at
  have hlook : ∀ t, t ∈ looks ops rc.o → Rel T.P S w (get rc.fr t) L (a.tmps.getD t undef) := by
    intro t ht
    obtain ⟨x, hx, hr⟩ := hri.tm t
    obtain ⟨h3, h4⟩ := t1 t ht
    have := RI.slot htr hx (by omega) h3 (fun k hk hw => by
      rcases Nat.lt_or_ge j k with h' | h'
      · exact h4 k h' hw
      · have : k = j := by omega
        subst this; exact hnd)
    rw [e5] at this
    rw [this] at hr
    exact hr
  have hcell : ∀ r, r ∈ rc.rs ++ rc.ws → h r = look rc.H r := by
    intro r hr
    obtain ⟨h3, h4⟩ := r1 r hr
    have := RI.cell htr (hri.hp r) (by omega) h3 (fun k hk hw => by
      rcases Nat.lt_or_ge j k with h' | h'
      · exact h4 k h' hw
      · have : k = j := by omega
        subst this; exact hnd)
    rw [e6] at this
    exact this
  have hlay : T.lay = true → ∀ r, r < rc.H.length → L r ≠ none → (h r).map rowTy = (look rc.H r).map rowTy := by
    intro hl r hr hL
    have keep : ∀ (k i : Nat), i + k ≤ recs.length → r < (hAt recs HE i).length → (look (hAt recs HE (i + k)) r).map rowTy = (look (hAt recs HE i) r).map rowTy := by
      intro k
      induction k with
      | zero => intro i _ _; rfl
      | succ k ih =>
        intro i hk hri'
        have hle := hAt_le htr k i (by omega)
        have hi : i + k < recs.length := by omega
        obtain ⟨hf, _, _, h4, _, h6⟩ := htr.at (List.getElem?_eq_getElem hi)
        rw [← Nat.add_assoc, h4, hf.lay hl r (by rw [← h6]; omega), ← h6]
        exact ih i (by omega) hri'
    have keep' : ∀ i i' : Nat, i ≤ i' → i' ≤ recs.length → r < (hAt recs HE i).length → (look (hAt recs HE i') r).map rowTy = (look (hAt recs HE i) r).map rowTy := by
      intro i i' h1 h2 h3
      have := keep (i' - i) i (by omega) h3
      rwa [show i + (i' - i) = i' by omega] at this
    rw [← e6]
    have hrj : r < (hAt recs HE j).length := by rw [e6]; exact hr
    rcases hri.hp r with ⟨i, hw, _, _, hx⟩ | ⟨hno, hx⟩
    · obtain ⟨rci, hi, hrw⟩ := hw
      obtain ⟨hf, _, _, h4, _, _⟩ := htr.at hi
      have hil := lt_of_get hi
      rw [hx, oR_at r hi, ← h4]
      have hlt : r < (hAt recs HE (i + 1)).length := by rw [h4]; exact hf.lt r hrw
      rcases Nat.le_total (i + 1) j with c | c
      · exact (keep' (i + 1) j c (by omega) hlt).symm
      · exact keep' j (i + 1) c (by omega) hrj
    · rw [hx]
      by_cases h0 : r < H0.length
      · have hz := htr.zero.2
        have := keep' 0 j (by omega) (by omega) (by rw [hz]; exact h0)
        rw [hz] at this
        exact this.symm
      · exfalso
        have hz := htr.zero.2
        have find : ∀ k, k ≤ j → r < (hAt recs HE k).length → ∃ (m : Nat) (rcm : Rec), recs[m]? = some rcm ∧ rcm.H.length ≤ r ∧ r < rcm.H'.length := by
          intro k
          induction k with
          | zero => intro _ hk; rw [hz] at hk; exact absurd hk h0
          | succ k ih =>
            intro hk hkr
            by_cases c : r < (hAt recs HE k).length
            · exact ih (by omega) c
            · have hi : k < recs.length := by omega
              obtain ⟨hf, _, _, h4, _, h6⟩ := htr.at (List.getElem?_eq_getElem hi)
              exact ⟨k, _, List.getElem?_eq_getElem hi, by rw [← h6]; omega, by rw [← h4]; exact hkr⟩
        obtain ⟨m, rcm, hm, b1, b2⟩ := find j (Nat.le_refl _) hrj
        obtain ⟨hf, _⟩ := htr.at hm
        have hwm := hf.new r b1 b2
        have hnd' := hno m ⟨rcm, hm, hwm⟩
        exact hL (hri.st.fresh r (.inl ((hri.mem r).2 (.inr ⟨m, rcm, hm, hnd', b1, b2⟩))))
  -- names
  have hHE : ∀ (i : Nat) (rc : Rec), recs[i]? = some rc → rc.H'.length ≤ HE.length := by
    intro i rc hi
    have hl := lt_of_get hi
    obtain ⟨_, _, _, h4, _⟩ := htr.at hi
    have := hAt_le htr (recs.length - (i + 1)) (i + 1) (by omega)
    rw [h4] at this
    have e : i + 1 + (recs.length - (i + 1)) = recs.length := by omega
    rw [e, hAt_end (Nat.le_refl _)] at this
    exact this
  have hapart : ∀ (i : Nat) (rci : Rec) (x : Nat), recs[i]? = some rci → i ≠ j → rci.H.length ≤ x → x < rci.H'.length → rc.H.length ≤ x → x < rc.H'.length → False := by
    intro i rci x hi hne a1 a2 a3 a4
    have hl := lt_of_get hi
    obtain ⟨_, _, _, b1, _, b2⟩ := htr.at hi
    rcases Nat.lt_or_ge i j with hij | hij
    · have := hAt_le htr (j - (i + 1)) (i + 1) (by omega)
      rw [b1] at this
      have e : i + 1 + (j - (i + 1)) = j := by omega
      rw [e, e6] at this
      omega
    · have := hAt_le htr (i - (j + 1)) (j + 1) (by omega)
      rw [hst2] at this
      have e : j + 1 + (i - (j + 1)) = i := by omega
      rw [e, b2] at this
      omega
  let nm := names rc.H.length (rc.H'.length - rc.H.length)
  let more := ids.filter fun x => !nm.contains x
  have hnm : ∀ x, x ∈ nm ↔ rc.H.length ≤ x ∧ x < rc.H'.length := by
    intro x
    have := hfr.len
    show x ∈ names _ _ ↔ _
    rw [mem_names]; omega
  have hmore : ∀ x, x ∈ more ↔ x ∈ ids ∧ x ∉ nm := by
    intro x
    show x ∈ List.filter _ _ ↔ _
    simp [List.mem_filter]
  have hsub : ∀ x, x ∈ nm → x ∈ ids := fun x hx => (hri.mem x).2 (.inr ⟨j, rc, hj, hnd, ((hnm x).1 hx).1, ((hnm x).1 hx).2⟩)
  have hEn : HE.length ∉ nm := fun hx => by
    have := ((hnm _).1 hx).2
    have := hHE j rc hj
    omega
  have hlastm : more.getLast? = some HE.length := filter_last hri.last (by simpa using hEn)
  have hst' : St T S w L h (nm ++ more) := by
    refine hri.st.perm ?_ (fun x => ?_) ?_
    · rw [List.nodup_append]
      refine ⟨names_nodup _ _, hri.st.nd.1.filter _, fun x hx y hy => ?_⟩
      rintro rfl
      exact ((hmore x).1 hy).2 hx
    · rw [List.mem_append, hmore]
      constructor
      · rintro (hx | hx)
        · exact hsub x hx
        · exact hx.1
      · intro hx
        by_cases hm : x ∈ nm
        · exact .inl hm
        · exact .inr ⟨hx, hm⟩
    · rw [List.getLast?_append, hlastm, hri.last]; rfl
  have hmem' : ∀ x, x ∈ more ↔ x = HE.length ∨ ∃ (i : Nat) (rc : Rec), recs[i]? = some rc ∧ ¬ orAt done j i ∧ rc.H.length ≤ x ∧ x < rc.H'.length := by
    intro x
    rw [hmore, hri.mem]
    constructor
    · rintro ⟨hx | ⟨i, rci, hi, hdi, b1, b2⟩, hn⟩
      · exact .inl hx
      · refine .inr ⟨i, rci, hi, ?_, b1, b2⟩
        rintro (h' | rfl)
        · exact hdi h'
        · rw [hj] at hi
          cases hi
          exact hn ((hnm x).2 ⟨b1, b2⟩)
    · rintro (rfl | ⟨i, rci, hi, hdi, b1, b2⟩)
      · exact ⟨.inl rfl, hEn⟩
      · have hne : i ≠ j := fun e => hdi (.inr e)
        refine ⟨.inr ⟨i, rci, hi, fun h' => hdi (.inl h'), b1, b2⟩, fun hx => ?_⟩
        exact hapart i rci x hi hne b1 b2 ((hnm x).1 hx).1 ((hnm x).1 hx).2
  -- what is behind it
  have behind : ∀ (v : AV) (h' : Hs) (S' : Stab) (L' : Loc) (w' : World) (u : Value), v = rc.v → (∀ r ∈ rc.ws, h' r = look rc.H' r) → (∀ r, r ∉ rc.ws → h' r = h r) →
      Rel T.P S' w' v L' u → St T S' w' L' h' more → Ext w S L w' S' L' → K (a.put rc.o.dst u) w' := by
    intro v h' S' L' w' u hv b1 b2 hr hs he
    subst hv
    refine hK _ _ S' L' h' more ⟨hs, hmem', hlastm, fun t => ?_, fun r => ?_, by rw [size_put]; exact hri.size, by rw [dfr_put]; exact hri.dfr, hri.ext.trans he⟩
    · rw [getD_put hri.size hdst]
      by_cases e : rc.o.dst = some t
      · rw [if_pos e]
        refine ⟨rc.v, ?_, hr⟩
        rw [← oT_at hj]
        exact Lst.here ⟨rc, hj, e⟩ (t2 t e)
      · rw [if_neg e]
        obtain ⟨x, hx, hxr⟩ := hri.tm t
        refine ⟨x, hx.off ?_, hxr.mono he.sub he.stays _ he.le⟩
        rintro ⟨rc', hj', e'⟩
        rw [hj] at hj'
        cases hj'
        exact e e'
    · by_cases e : r ∈ rc.ws
      · rw [b1 r e, ← oR_at r hj]
        exact Lst.here ⟨rc, hj, e⟩ (r1 r (List.mem_append_right _ e)).2
      · rw [b2 r e]
        refine (hri.hp r).off ?_
        rintro ⟨rc', hj', e'⟩
        rw [hj] at hj'
        cases hj'
        exact e e'
  have run : RecRun T rc → rc.o.wp T.P a w K Q := by
    intro hrun
    refine hrun a w S L h more hst' (fun r hr _ => hcell r hr) (fun hl r hr hL => hlay hl r hr hL) (fun x hx => ?_) K Q ?_
    · refine rel_opv hri.st.glob fun t ht => hlook t ?_
      subst ht
      unfold looks
      exact List.mem_append_left _ (List.mem_filterMap.2 ⟨.tmp t, by simpa using hx, rfl⟩)
    · rintro v h' ids' S' L' w' u ⟨rfl, rfl, b1, b2⟩ hr hs he
      exact behind _ h' S' L' w' u rfl b1 b2 hr hs he
  unfold wpOp
  rw [hao]
  simp only
  unfold RecOK at hok
  cases hg : rc.o.guard with
  | none =>
    rw [hg] at hok
    have : Region.wanted rc.o (yielded aops a.tmps) = true := by unfold Region.wanted; rw [hg]
    rw [if_pos this]
    exact .inl (run hok)
  | some p =>
    obtain ⟨g0, want⟩ := p
    rw [hg] at hok
    obtain ⟨g, u, c1, c2, c3, c4⟩ := hok
    have hgl : g ∈ looks ops rc.o := by
      unfold looks
      rw [hg]
      refine List.mem_append_right _ ?_
      simp only [c1]; simp
    have hgv := hlook g hgl
    rw [c2] at hgv
    simp only [Rel] at hgv
    have c1' : (aops[g0]?).bind (·.dst) = some g := by rw [← Array.getElem?_toList, ha]; exact c1
    have hy : u ≠ undef → yielded aops a.tmps g0 = boolOf u := by
      intro hne
      unfold yielded
      rw [c1']
      have : a.tmps[g]? = some u := by
        cases hx : a.tmps[g]? with
        | none => simp [Array.getD_eq_getD_getElem?, hx] at hgv; exact absurd hgv.symm hne
        | some y => simp [Array.getD_eq_getD_getElem?, hx] at hgv; rw [hgv]
      simp only [Option.bind_some, this]
      cases u <;> rfl
    by_cases hbw : u = .bool want
    · have : Region.wanted rc.o (yielded aops a.tmps) = true := by
        unfold Region.wanted; rw [hg]
        have h1 := hy (by rw [hbw]; simp [undef])
        simp only [h1, hbw, boolOf]
        simp
      rw [if_pos this]
      exact .inl (run (c3 hbw))
    · have : ¬ (Region.wanted rc.o (yielded aops a.tmps) = true) := by
        unfold Region.wanted; rw [hg]
        by_cases hun : u = undef
        · have hz : yielded aops a.tmps g0 = none := by
            unfold yielded
            rw [c1']
            simp only [Option.bind_some]
            cases hx : a.tmps[g]? with
            | none => rfl
            | some y =>
              simp [Array.getD_eq_getD_getElem?, hx] at hgv
              rw [hgv, hun]; rfl
          simp [hz]
        · have h1 := hy hun
          simp only [h1]
          cases u with
          | bool b => simp [boolOf] at hbw ⊢; exact hbw
          | _ => simp [boolOf]
      rw [if_neg this]
      obtain ⟨k1, k2, k3, k4⟩ := c4 hbw
      have hnil : nm = [] := by
        show names _ _ = []
        rw [k4]; simp [names]
      have hst0 : St T S w L h more := by rw [hnil] at hst'; simpa using hst'
      exact behind (.sc (.tuple #[])) h S L w undef k1.symm (by rw [k3]; simp) (fun _ _ => rfl) (by simp only [Rel]; rfl) hst0 (Ext.refl _ _ _)
end step
end
end Go.Ev
namespace Go.Ev
open Go
set_option linter.unusedVariables false
set_option linter.unusedSimpArgs false
theorem allFrom_spec {α : Type} {f : Nat → α → Bool} : ∀ {n : Nat} {l : List α}, allFrom f n l = true → ∀ i x, l[i]? = some x → f (n + i) x = true
  | n, [], _, i, x, hi => by simp at hi
  | n, a :: l, h, i, x, hi => by
    simp only [allFrom, Bool.and_eq_true] at h
    cases i with
    | zero => simp at hi; subst hi; exact h.1
    | succ i =>
      have := allFrom_spec h.2 i x (by simpa using hi)
      rwa [Nat.add_assoc, Nat.add_comm 1 i] at this
def depOf (o : Oper) (acc : List Nat) : Nat := o.after.toList.foldl (fun m e => match Region.binds .any e with
      | true => Nat.lor m (Nat.lor (2 ^ e.on) (acc.getD e.on 0))
      | false => m) 0
theorem depsOf_old : ∀ (rest : List Oper) (acc : List Nat) (k : Nat), k < acc.length → (depsOf rest acc).getD k 0 = acc.getD k 0
  | [], acc, k, _ => rfl
  | o :: rest, acc, k, hk => by
    simp only [depsOf]
    rw [depsOf_old rest _ k (by simp; omega)]
    simp [List.getD_eq_getElem?_getD, List.getElem?_append_left hk]
theorem depsOf_at : ∀ (rest : List Oper) (acc : List Nat) (j : Nat) (o : Oper), rest[j]? = some o → ∃ acc', (depsOf rest acc).getD (acc.length + j) 0 = depOf o acc' ∧ acc'.length = acc.length + j ∧ ∀ k, k < acc'.length → acc'.getD k 0 = (depsOf rest acc).getD k 0
  | [], acc, j, o, h => by simp at h
  | x :: rest, acc, j, o, h => by
    cases j with
    | zero =>
      simp at h
      subst h
      refine ⟨acc, ?_, rfl, fun k hk => (depsOf_old (x :: rest) acc k hk).symm⟩
      simp only [Nat.add_zero]
      have e : depsOf (x :: rest) acc = depsOf rest (acc ++ [depOf x acc]) := rfl
      rw [e, depsOf_old rest _ _ (by simp)]
      simp [List.getD_eq_getElem?_getD]
    | succ j =>
      obtain ⟨acc', h1, h2, h3⟩ := depsOf_at rest (acc ++ [depOf x acc]) j o (by simpa using h)
      refine ⟨acc', ?_, by rw [h2]; simp; omega, h3⟩
      rw [← h1]
      simp only [depsOf, List.length_append, List.length_singleton]
      have e : acc.length + (j + 1) = acc.length + 1 + j := by omega
      rw [e]; rfl
theorem foldl_bits {f : Edge → Nat} {p : Edge → Bool} {i : Nat} : ∀ (l : List Edge) (m : Nat), Nat.testBit (l.foldl (fun m e => match p e with | true => Nat.lor m (f e) | false => m) m) i = true → Nat.testBit m i = true ∨ ∃ e ∈ l, p e = true ∧ Nat.testBit (f e) i = true
  | [], m, h => .inl h
  | e :: l, m, h => by
    simp only [List.foldl_cons] at h
    rcases foldl_bits l _ h with h1 | ⟨e', h1, h2⟩
    · split at h1
      · rename_i hp
        have h1 : Nat.testBit (m ||| f e) i = true := h1
        rw [Nat.testBit_or, Bool.or_eq_true] at h1
        rcases h1 with h1 | h1
        · exact .inl h1
        · exact .inr ⟨e, by simp, hp, h1⟩
      · exact .inl h1
    · exact .inr ⟨e', by simp [h1], h2⟩
theorem deps_spec {ops : List Oper} {j i : Nat} {o : Oper} (hj : ops[j]? = some o) (h : Nat.testBit ((depsOf ops []).getD j 0) i = true) :
    ∃ e ∈ o.after, Region.binds .any e = true ∧ (i = e.on ∨ Nat.testBit ((depsOf ops []).getD e.on 0) i = true) := by
  obtain ⟨acc', h1, h2, h3⟩ := depsOf_at ops [] j o hj
  simp only [List.length_nil, Nat.zero_add] at h1 h2
  rw [h1] at h
  unfold depOf at h
  rcases foldl_bits (f := fun e => Nat.lor (2 ^ e.on) (acc'.getD e.on 0)) (p := fun e => Region.binds .any e) _ _ h with h4 | ⟨e, h4, h5, h6⟩
  · simp at h4
  · refine ⟨e, by simpa using h4, h5, ?_⟩
    have h6 : Nat.testBit (2 ^ e.on ||| acc'.getD e.on 0) i = true := h6
    rw [Nat.testBit_or, Bool.or_eq_true] at h6
    rcases h6 with h6 | h6
    · rw [Nat.testBit_two_pow] at h6; exact .inl (of_decide_eq_true h6).symm
    · right
      rcases Nat.lt_or_ge e.on acc'.length with hl | hl
      · rw [h3 _ hl] at h6; exact h6
      · rw [List.getD_eq_getElem?_getD, List.getElem?_eq_none hl] at h6
        simp at h6
def falses : List Bool → Nat
  | [] => 0
  | b :: l => (match b with | true => 0 | false => 1) + falses l
theorem falses_set : ∀ {l : List Bool} {i : Nat}, l[i]? = some false → falses (l.set i true) + 1 = falses l
  | [], i, h => by simp at h
  | b :: l, i, h => by
    cases i with
    | zero => simp at h; subst h; simp [falses]; omega
    | succ i =>
      have := falses_set (l := l) (i := i) (by simpa using h)
      simp only [List.set_cons_succ, falses]; omega
theorem falses_zero : ∀ {l : List Bool}, falses l = 0 → ∀ b ∈ l, b = true
  | [], _, b, hb => by simp at hb
  | x :: l, h, b, hb => by
    simp only [falses] at h
    rw [List.mem_cons] at hb
    rcases hb with rfl | hb
    · cases b with
      | true => rfl
      | false => simp at h
    · exact falses_zero (by omega) b hb
section
variable {T : Tab}
structure CS (T : Tab) (n : Nat) (w0 : World) (S0 : Stab) (L0 : Loc) (fr : Fr) (H : Hp) (a : Act) (w : World) (S : Stab) (L : Loc) : Prop where
  st : St T S w L (look H) [H.length]
  fr : ∀ t, Rel T.P S w (get fr t) L (a.tmps.getD t undef)
  size : a.tmps.size = n
  dfr : a.defers = []
  ext : Ext w0 S0 L0 w S L
theorem meets_false {a b : List Nat} (h : meets a b = false) {x : Nat} (ha : x ∈ a) (hb : x ∈ b) : False := by
  unfold meets at h
  rw [List.any_eq_false] at h
  exact h x ha (by simpa using hb)
section step
variable {ops : List Oper} {recs : List Rec} {fr0 frE : Fr} {H0 HE : Hp} {n : Nat} {w0 : World} {S0 : Stab} {L0 : Loc}
theorem RI.done (htr : Tr T ops recs fr0 H0 frE HE) {done : Nat → Prop} (hall : ∀ i, i < recs.length → done i) {a : Act} {w : World} {S : Stab} {L : Loc} {h : Hs} {ids : List Nat}
    (hri : RI T recs fr0 H0 HE n w0 S0 L0 done a w S L h ids) : CS T n w0 S0 L0 frE HE a w S L := by
  have hh : h = look HE := by
    funext r
    have := RI.cell htr (hri.hp r) (Nat.le_refl _) (fun i hi _ => hall i hi) (fun k hk hw => by
      obtain ⟨rc, h1, _⟩ := hw
      have := lt_of_get h1
      omega)
    rw [hAt_end (Nat.le_refl _)] at this
    exact this
  have hids : ∀ x, x ∈ ids ↔ x = HE.length := by
    intro x
    rw [hri.mem]
    constructor
    · rintro (h1 | ⟨i, rc, h1, h2, _⟩)
      · exact h1
      · exact absurd (hall i (lt_of_get h1)) h2
    · exact .inl
  refine ⟨?_, fun t => ?_, hri.size, hri.dfr, hri.ext⟩
  · rw [← hh]
    refine hri.st.perm (by simp) (fun x => by rw [hids]; simp) ?_
    rw [hri.last]; rfl
  · obtain ⟨x, h1, h2⟩ := hri.tm t
    have := RI.slot htr h1 (Nat.le_refl _) (fun i hi _ => hall i hi) (fun k hk hw => by
      obtain ⟨rc, h1, _⟩ := hw
      have := lt_of_get h1
      omega)
    rw [frAt_end (Nat.le_refl _)] at this
    rw [← this]
    exact h2
theorem RI.start (htr : Tr T ops recs fr0 H0 frE HE) {a : Act} {w : World} {S : Stab} {L : Loc} (hcs : CS T n w0 S0 L0 fr0 H0 a w S L) {done : Nat → Prop} (hno : ∀ i, ¬ done i) :
    RI T recs fr0 H0 HE n w0 S0 L0 done a w S L (look H0) (names H0.length (HE.length - H0.length) ++ [HE.length]) := by
  have h0 : (hAt recs HE 0).length = H0.length := by rw [htr.zero.2]
  have hle : H0.length ≤ HE.length := by
    have := hAt_le htr recs.length 0 (by omega)
    rw [h0, Nat.zero_add, hAt_end (Nat.le_refl _)] at this
    exact this
  have hpart : ∀ m, m ≤ recs.length → ∀ x, H0.length ≤ x → x < (hAt recs HE m).length → ∃ (i : Nat) (rc : Rec), recs[i]? = some rc ∧ rc.H.length ≤ x ∧ x < rc.H'.length := by
    intro m
    induction m with
    | zero => intro _ x h1 h2; omega
    | succ m ih =>
      intro hm x h1 h2
      have hi : m < recs.length := by omega
      obtain ⟨_, _, _, b1, _, b2⟩ := htr.at (List.getElem?_eq_getElem hi)
      rcases Nat.lt_or_ge x (hAt recs HE m).length with hx | hx
      · exact ih (by omega) x h1 hx
      · exact ⟨m, _, List.getElem?_eq_getElem hi, by rw [← b2]; exact hx, by rw [← b1]; exact h2⟩
  have hin : ∀ (i : Nat) (rc : Rec), recs[i]? = some rc → H0.length ≤ rc.H.length ∧ rc.H'.length ≤ HE.length := by
    intro i rc hi
    have hl := lt_of_get hi
    obtain ⟨_, _, _, b1, _, b2⟩ := htr.at hi
    refine ⟨?_, ?_⟩
    · have := hAt_le htr i 0 (by omega)
      rw [h0, Nat.zero_add, b2] at this
      exact this
    · have := hAt_le htr (recs.length - (i + 1)) (i + 1) (by omega)
      have e : i + 1 + (recs.length - (i + 1)) = recs.length := by omega
      rw [b1, e, hAt_end (Nat.le_refl _)] at this
      exact this
  refine ⟨⟨hcs.st.inv, ⟨?_, ?_⟩, ?_, hcs.st.dom, hcs.st.glob⟩, fun x => ?_, by simp, fun t => ⟨_, .inr ⟨fun i _ => hno i, rfl⟩, hcs.fr t⟩, fun r => .inr ⟨fun i _ => hno i, rfl⟩, hcs.size, hcs.dfr, hcs.ext⟩
  · rw [List.nodup_append]
    refine ⟨names_nodup _ _, by simp, fun x hx y hy => ?_⟩
    simp at hy
    rw [mem_names] at hx
    omega
  · intro b hb i hi
    simp at hb
    subst hb
    simp [mem_names] at hi
    omega
  · intro i hi
    refine hcs.st.fresh i (.inr ⟨H0.length, rfl, ?_⟩)
    rcases hi with hi | ⟨b, hb, hbi⟩
    · simp [mem_names] at hi
      omega
    · simp at hb
      omega
  · simp only [List.mem_append, List.mem_singleton, mem_names]
    constructor
    · rintro (h1 | h1)
      · obtain ⟨i, rc, h2, h3, h4⟩ := hpart recs.length (Nat.le_refl _) x h1.1 (by rw [hAt_end (Nat.le_refl _)]; omega)
        exact .inr ⟨i, rc, h2, hno i, h3, h4⟩
      · exact .inl h1
    · rintro (h1 | ⟨i, rc, h2, _, h3, h4⟩)
      · exact .inr h1
      · have := hin i rc h2
        exact .inl (by omega)
theorem ri_seq (htr : Tr T ops recs fr0 H0 frE HE) (hops : ops = recs.map (·.o)) {aops : Array Oper} (ha : aops.toList = ops) (hd : ∀ o ∈ ops, ∀ d, o.dst = some d → d < n) {Q : Exit → Act → World → Prop}
    (hQ : ∀ a w S L, CS T n w0 S0 L0 frE HE a w S L → Q .normal a w) : ∀ (m j : Nat) (a : Act) (w : World) (S : Stab) (L : Loc) (h : Hs) (ids : List Nat), j + m = recs.length →
      RI T recs fr0 H0 HE n w0 S0 L0 (fun i => i < j) a w S L h ids → wpOps T.P aops Q (List.range' j m) a w
  | 0, j, a, w, S, L, h, ids, hj, hri => hQ a w S L (hri.done htr fun i hi => by omega)
  | m + 1, j, a, w, S, L, h, ids, hj, hri => by
    have hjl : j < recs.length := by omega
    rw [List.range'_succ, wpOps_cons]
    refine ri_step htr hops ha (List.getElem?_eq_getElem hjl) (by omega) hd (fun t _ => ⟨fun i hi _ => hi, fun k hk _ => by omega⟩) (fun t _ k hk _ => by omega) (fun r _ => ⟨fun i hi _ => hi, fun k hk _ => by omega⟩) hri ?_
    intro a' w' S' L' h' ids' hri'
    have e : orAt (fun i => i < j) j = fun i => i < j + 1 := by
      funext i
      unfold orAt
      exact propext ⟨fun h => by omega, fun h => by omega⟩
    rw [e] at hri'
    exact ri_seq htr hops ha hd hQ m (j + 1) a' w' S' L' h' ids' (by omega) hri'
theorem ri_any (htr : Tr T ops recs fr0 H0 frE HE) (hops : ops = recs.map (·.o)) {aops : Array Oper} (ha : aops.toList = ops) (hd : ∀ o ∈ ops, ∀ d, o.dst = some d → d < n)
    (hord : ordered ops (recs.map fun rc => (rc.rs, rc.ws)) = true) {Q : Exit → Act → World → Prop}
    (hQ : ∀ a w S L, CS T n w0 S0 L0 frE HE a w S L → Q .normal a w) : ∀ (fuel : Nat) (listed : Array Bool) (a : Act) (w : World) (S : Stab) (L : Loc) (h : Hs) (ids : List Nat),
      listed.size = recs.length → falses listed.toList ≤ fuel →
      (∀ k i, listed.getD k false = true → Nat.testBit ((depsOf ops []).getD k 0) i = true → listed.getD i false = true) →
      RI T recs fr0 H0 HE n w0 S0 L0 (fun i => listed.getD i false = true) a w S L h ids → wpAny T.P .any aops Q fuel listed a w := by
  simp only [ordered, Bool.and_eq_true] at hord
  obtain ⟨⟨he, ht⟩, hr⟩ := hord
  have hlen : ops.length = recs.length := by rw [hops]; simp
  have hedge : ∀ (j : Nat) (o : Oper), ops[j]? = some o → ∀ e ∈ o.after, Region.binds .any e = true → e.on < j := by
    intro j o hj e hem hb
    have := allFrom_spec he j o hj
    rw [List.all_eq_true] at this
    have := this e (by simpa using hem)
    rw [hb] at this
    simp only [Nat.zero_add] at this
    rw [Nat.blt_eq] at this; exact this
  have hao : ∀ j, aops[j]? = ops[j]? := fun j => by rw [← Array.getElem?_toList, ha]
  have hconf : ∀ (i j : Nat) (x y : Oper), ops[i]? = some x → ops[j]? = some y → i < j → ¬ Nat.testBit ((depsOf ops []).getD j 0) i = true →
      meets x.dst.toList (looks ops y) = false ∧ meets x.dst.toList y.dst.toList = false ∧ meets (looks ops x) y.dst.toList = false := by
    intro i j x y hi hj hij hno
    have h1 := allFrom_spec ht j y hj
    simp only [Nat.zero_add] at h1
    have h2 := allFrom_spec h1 i x hi
    simp only [Nat.zero_add, Bool.or_eq_true] at h2
    rcases h2 with (h2 | h2) | h2
    · exact absurd h2 hno
    · rw [Nat.ble_eq] at h2; omega
    · have h2 : (meets x.dst.toList (looks ops y) || meets x.dst.toList y.dst.toList || meets (looks ops x) y.dst.toList) = false := by simpa using h2
      simp only [Bool.or_eq_false_iff] at h2
      exact ⟨h2.1.1, h2.1.2, h2.2⟩
  have hconfR : ∀ (i j : Nat) (x y : Rec), recs[i]? = some x → recs[j]? = some y → i < j → ¬ Nat.testBit ((depsOf ops []).getD j 0) i = true →
      meets x.ws y.rs = false ∧ meets x.ws y.ws = false ∧ meets x.rs y.ws = false := by
    intro i j x y hi hj hij hno
    have h1 := allFrom_spec hr j (y.rs, y.ws) (by rw [List.getElem?_map, hj]; rfl)
    simp only [Nat.zero_add] at h1
    have h2 := allFrom_spec h1 i (x.rs, x.ws) (by rw [List.getElem?_map, hi]; rfl)
    simp only [Nat.zero_add, Bool.or_eq_true] at h2
    rcases h2 with (h2 | h2) | h2
    · have h2 : (meets x.ws y.rs || meets x.ws y.ws || meets x.rs y.ws) = false := by simpa using h2
      simp only [Bool.or_eq_false_iff] at h2
      exact ⟨h2.1.1, h2.1.2, h2.2⟩
    · rw [Nat.ble_eq] at h2; omega
    · exact absurd h2 hno
  intro fuel
  induction fuel with
  | zero =>
    intro listed a w S L h ids hs hf hcl hri
    have hz := falses_zero (Nat.le_zero.1 hf)
    have hall : ∀ i, i < recs.length → listed.getD i false = true := by
      intro i hi
      have : listed[i]? = some listed[i] := Array.getElem?_eq_getElem (by omega)
      have hm : listed[i] ∈ listed.toList := by simp
      simp [Array.getD_eq_getD_getElem?, this, hz _ hm]
    refine ⟨?_, hQ a w S L (hri.done htr hall)⟩
    cases hrd : Region.ready .any aops listed with
    | nil => rfl
    | cons j l =>
      have hm : j ∈ Region.ready .any aops listed := by rw [hrd]; simp
      obtain ⟨h1, o, ho, _⟩ := mem_ready.1 hm
      have hj : j < recs.length := by rw [hao] at ho; have := lt_of_get ho; omega
      have := hall j hj
      simp [Array.getD_eq_getD_getElem?] at this h1
      rw [Array.getElem?_eq_getElem (by omega)] at this h1
      simp at this h1
      rw [this] at h1; cases h1
  | succ fuel ih =>
    intro listed a w S L h ids hs hf hcl hri
    refine ⟨fun hnil => ?_, fun j hj => ?_⟩
    · refine hQ a w S L (hri.done htr ?_)
      intro i
      induction i using Nat.strongRecOn with
      | _ i ihi =>
        intro hi
        cases hl : listed.getD i false with
        | true => rfl
        | false =>
          have ho : aops[i]? = some recs[i].o := by rw [hao, hops, List.getElem?_map, List.getElem?_eq_getElem hi]; rfl
          have : i ∈ Region.ready .any aops listed := by
            refine mem_ready.2 ⟨?_, _, ho, fun e hem hb => ?_⟩
            · simp [Array.getD_eq_getD_getElem?, Array.getElem?_eq_getElem (show i < listed.size by omega)] at hl ⊢
              exact hl
            · have := hedge i _ (by rw [← hao]; exact ho) e hem hb
              exact ihi e.on this (by omega)
          rw [hnil] at this
          cases this
    · obtain ⟨hun, o, ho, hready⟩ := mem_ready.1 hj
      rw [hao] at ho
      have hjl : j < recs.length := by have := lt_of_get ho; omega
      have hrj := List.getElem?_eq_getElem hjl
      have hro : recs[j].o = o := by
        rw [hops, List.getElem?_map, hrj] at ho
        simpa using ho
      have hjf : listed[j]? = some false := by
        simp [Array.getD_eq_getD_getElem?, Array.getElem?_eq_getElem (show j < listed.size by omega)] at hun ⊢
        exact hun
      have hnd : ¬ (listed.getD j false = true) := by simp [Array.getD_eq_getD_getElem?, hjf]
      have hdep : ∀ i, Nat.testBit ((depsOf ops []).getD j 0) i = true → listed.getD i false = true := by
        intro i hi
        obtain ⟨e, he1, he2, he3⟩ := deps_spec ho hi
        have h1 := hready e he1 he2
        rcases he3 with rfl | he3
        · exact h1
        · exact hcl _ _ h1 he3
      have opsof : ∀ (i : Nat) (rc : Rec), recs[i]? = some rc → ops[i]? = some rc.o := fun i rc hi => by rw [hops, List.getElem?_map, hi]; rfl
      have hsize : listed.size = recs.length := hs
      have hset : (fun i => (listed.setIfInBounds j true).getD i false = true) = orAt (fun i => listed.getD i false = true) j := by
        funext i
        unfold orAt
        refine propext ?_
        by_cases e : j = i
        · subst e
          simp [Array.getD_eq_getD_getElem?, show j < listed.size by omega]
        · rw [getD_set_ne false e]
          exact ⟨.inl, fun h => h.resolve_right (fun h => e h.symm)⟩
      refine ri_step htr hops ha hrj hnd hd (fun t htl => ⟨fun i hi hw => ?_, fun k hk hw hdk => ?_⟩) (fun t htd k hk hw hdk => ?_) (fun r hrr => ⟨fun i hi hw => ?_, fun k hk hw hdk => ?_⟩) hri ?_
      · obtain ⟨rc, e1, e2⟩ := hw
        cases hb : Nat.testBit ((depsOf ops []).getD j 0) i with
        | true => exact hdep i hb
        | false =>
          have := (hconf i j rc.o o (opsof i rc e1) ho hi (by rw [hb]; simp)).1
          exact (meets_false this (x := t) (by simp [e2]) (by rw [← hro]; exact htl)).elim
      · obtain ⟨rc, e1, e2⟩ := hw
        cases hb : Nat.testBit ((depsOf ops []).getD k 0) j with
        | true => exact hnd (hcl k j hdk hb)
        | false =>
          have := (hconf j k o rc.o ho (opsof k rc e1) hk (by rw [hb]; simp)).2.2
          exact (meets_false this (x := t) (by rw [← hro]; exact htl) (by simp [e2])).elim
      · obtain ⟨rc, e1, e2⟩ := hw
        cases hb : Nat.testBit ((depsOf ops []).getD k 0) j with
        | true => exact hnd (hcl k j hdk hb)
        | false =>
          have := (hconf j k o rc.o ho (opsof k rc e1) hk (by rw [hb]; simp)).2.1
          exact (meets_false this (x := t) (by rw [← hro]; simp [htd]) (by simp [e2])).elim
      · obtain ⟨rc, e1, e2⟩ := hw
        cases hb : Nat.testBit ((depsOf ops []).getD j 0) i with
        | true => exact hdep i hb
        | false =>
          have := hconfR i j rc _ e1 hrj hi (by rw [hb]; simp)
          rw [List.mem_append] at hrr
          rcases hrr with hrr | hrr
          · exact (meets_false this.1 e2 hrr).elim
          · exact (meets_false this.2.1 e2 hrr).elim
      · obtain ⟨rc, e1, e2⟩ := hw
        cases hb : Nat.testBit ((depsOf ops []).getD k 0) j with
        | true => exact hnd (hcl k j hdk hb)
        | false =>
          have := hconfR j k _ rc hrj e1 hk (by rw [hb]; simp)
          rw [List.mem_append] at hrr
          rcases hrr with hrr | hrr
          · exact (meets_false this.2.2 hrr e2).elim
          · exact (meets_false this.2.1 hrr e2).elim
      · intro a' w' S' L' h' ids' hri'
        rw [← hset] at hri'
        refine ih _ a' w' S' L' h' ids' (by simp [hs]) ?_ (fun k i hk hb => ?_) hri'
        · have := falses_set (l := listed.toList) (i := j) (by rw [Array.getElem?_toList]; exact hjf)
          rw [Array.toList_setIfInBounds]
          omega
        · by_cases e : j = k
          · subst e
            exact getD_set_true (hdep i hb)
          · rw [getD_set_ne false e] at hk
            exact getD_set_true (hcl k i hk hb)
end step
theorem falses_replicate (n : Nat) : falses (List.replicate n false) = n := by
  induction n with
  | zero => rfl
  | succ n ih => rw [List.replicate_succ]; simp only [falses, ih]; omega
theorem CS.world {n : Nat} {w0 : World} {S0 : Stab} {L0 : Loc} {fr : Fr} {H : Hp} {a : Act} {w w' : World} {S : Stab} {L : Loc} (h : CS T n w0 S0 L0 fr H a w S L) (hh : w'.heap = w.heap) (h1 : w'.os = w.os) (h2 : w'.tape = w.tape) (h3 : w'.output = w.output) :
    CS T n w0 S0 L0 fr H a w' S L := by
  have hstay : Stays S w w' := fun b o _ => by unfold World.cell?; rw [hh]
  refine ⟨⟨⟨fun r row hr => ?_, h.st.inv.disj, fun b o hb => by rw [hh]; exact h.st.inv.stab b o hb⟩, h.st.nd, h.st.fresh, h.st.dom, h.st.glob.mono (fun _ _ h => h) hstay⟩, fun t => (h.fr t).mono (fun _ _ h => h) hstay _ (Loc.le_refl _), h.size, h.dfr, ?_⟩
  · rcases h.st.inv.rows r row hr with e | ⟨p, e1, e2⟩
    · exact .inl e
    · exact .inr ⟨p, e1, e2.world (fun _ _ h => h) hstay (Loc.le_refl _) (by rw [hh]) e2.st⟩
  · exact h.ext.trans ⟨fun _ _ h => h, hstay, Loc.le_refl _, fun _ _ h => .inl h, fun b _ _ => by rw [hh], by rw [hh]; exact Nat.le_refl _, h1, h2, h3, fun r p h => .inl ⟨r, p, h, rfl⟩, fun a _ => by unfold World.frozen?; rw [hh], fun b arr bt hb => ⟨arr, by rw [hh]; exact hb, rfl⟩⟩
theorem Tr.len {ops : List Oper} : ∀ {recs : List Rec} {fr : Fr} {H : Hp} {frE : Fr} {HE : Hp}, Tr T ops recs fr H frE HE → H.length ≤ HE.length
  | [], fr, H, frE, HE, h => by rw [h.2]; exact Nat.le_refl _
  | rc :: rcs, fr, H, frE, HE, h => by
    obtain ⟨h1, _, fr', h3, h4⟩ := h
    have := h4.len
    have := h1.len
    rw [h3.2.1] at this
    omega
theorem region_sound {R : Type} {n : Nat} {w0 : World} {S0 : Stab} {L0 : Loc} {fr : Fr} {H : Hp} {a : Act} {w : World} {S : Stab} {L : Loc} {id : Nat} {ops : Array Oper} {draw : Bool} {k : Fr → Hp → Option R} {x : R} {Q : Exit → Act → World → Prop}
    (hT : CallsOK T) (hm : T.P.follows .mixedOrders = true) (hd : ∀ o ∈ ops.toList, ∀ d, o.dst = some d → d < n) (hcs : CS T n w0 S0 L0 fr H a w S L)
    (hx : (match draw with
      | false => evOps T ops.toList (fun fr H _ => k fr H) ops.toList [] fr H
      | true => evOps T ops.toList (fun fr H acc => match ordered ops.toList acc with
        | true => k fr H
        | false => none) ops.toList [] fr H) = some x)
    (hQ : ∀ frE HE, k frE HE = some x → H.length ≤ HE.length → ∀ a w S L, CS T n w0 S0 L0 frE HE a w S L → Q .normal a w) : (Code.region id ops draw).wp T.P Q a w := by
  cases draw with
  | false =>
    obtain ⟨recs, frE, HE, h1, h2, h3⟩ := evOps_spec hT _ _ _ _ hx
    have hs : recs.length = ops.size := by
      have := congrArg List.length h1
      simpa using this
    refine wp_region ?_
    rw [List.range_eq_range']
    exact ri_seq h2 h1.symm rfl hd (hQ frE HE h3 h2.len) ops.size 0 a w S L _ _ (by omega) (RI.start h2 hcs fun i h => by omega)
  | true =>
    obtain ⟨recs, frE, HE, h1, h2, h3⟩ := evOps_spec hT _ _ _ _ hx
    have hs : recs.length = ops.size := by
      have := congrArg List.length h1
      simpa using this
    split at h3
    · rename_i hord
      simp only [List.nil_append] at hord
      refine wp_region_any hm ?_
      have hcs' := hcs.world (w' := { w with drawn := w.drawn + 1 }) rfl rfl rfl rfl
      have hno : ∀ i, ¬ ((Array.replicate ops.size false).getD i false = true) := by
        intro i
        simp [Array.getD_eq_getD_getElem?, Array.getElem?_replicate]
        split <;> simp
      exact ri_any h2 h1.symm rfl hd hord (hQ frE HE h3 h2.len) ops.size _ a _ S L _ _ (by simp [hs]) (by simp [falses_replicate]) (fun k i hk => absurd hk (hno k)) (RI.start h2 hcs' hno)
    · cases h3
end
end Go.Ev
namespace Go.Ev
open Go
set_option linter.unusedVariables false
set_option linter.unusedSimpArgs false
theorem reach_spec {H : Hp} : ∀ (n : Nat) (todo seen : List Nat) {out : List Nat}, reach H n todo seen = some out → ∀ {base : Nat} {roots : List Nat}, seen.Nodup →
    (∀ x ∈ roots, x ∈ seen ∨ x ∈ todo) → (∀ r ∈ seen, base ≤ r → ∀ x ∈ rowIds H r, x ∈ seen ∨ x ∈ todo) →
    (∃ more, out = seen ++ more) ∧ out.Nodup ∧ (∀ x ∈ roots, x ∈ out) ∧ (∀ r ∈ out, base ≤ r → ∀ x ∈ rowIds H r, x ∈ out) := by
  intro n
  induction n with
  | zero =>
    intro todo seen out h base roots h1 h2 h3
    cases todo with
    | nil =>
      simp only [reach, Option.some.injEq] at h
      subst h
      exact ⟨⟨[], by simp⟩, h1, fun x hx => (h2 x hx).resolve_right (by simp), fun r hr hb x hx => (h3 r hr hb x hx).resolve_right (by simp)⟩
    | cons r todo => simp [reach] at h
  | succ n ih =>
    intro todo seen out h base roots h1 h2 h3
    cases todo with
    | nil =>
      simp only [reach, Option.some.injEq] at h
      subst h
      exact ⟨⟨[], by simp⟩, h1, fun x hx => (h2 x hx).resolve_right (by simp), fun r hr hb x hx => (h3 r hr hb x hx).resolve_right (by simp)⟩
    | cons r todo =>
      simp only [reach] at h
      split at h
      · rename_i hc
        have hc : r ∈ seen := by simpa using hc
        have step : ∀ x, (x ∈ seen ∨ x ∈ r :: todo) → x ∈ seen ∨ x ∈ todo := by
          intro x hx
          rcases hx with hx | hx
          · exact .inl hx
          · rw [List.mem_cons] at hx
            rcases hx with rfl | hx
            · exact .inl hc
            · exact .inr hx
        exact ih todo seen h h1 (fun x hx => step x (h2 x hx)) (fun r hr hb x hx => step x (h3 r hr hb x hx))
      · rename_i hc
        have hc : r ∉ seen := by
          intro hm
          have : seen.contains r = true := by simpa using hm
          rw [this] at hc; cases hc
        have step : ∀ x, (x ∈ seen ∨ x ∈ r :: todo) → x ∈ seen ++ [r] ∨ x ∈ todo ++ rowIds H r := by
          intro x hx
          rcases hx with hx | hx
          · exact .inl (List.mem_append_left _ hx)
          · rw [List.mem_cons] at hx
            rcases hx with rfl | hx
            · exact .inl (by simp)
            · exact .inr (List.mem_append_left _ hx)
        obtain ⟨⟨more, e1⟩, e2, e3, e4⟩ := ih _ _ h (base := base) (roots := roots) (by
            rw [List.nodup_append]
            refine ⟨h1, by simp, fun a ha b hb => ?_⟩
            simp at hb
            subst hb
            rintro rfl
            exact hc ha) (fun x hx => step x (h2 x hx)) (fun r' hr' hb x hx => by
            rw [List.mem_append] at hr'
            rcases hr' with hr' | hr'
            · exact step x (h3 r' hr' hb x hx)
            · simp at hr'
              subst hr'
              exact .inr (List.mem_append_right _ hx))
        exact ⟨⟨r :: more, by rw [e1]; simp⟩, e2, e3, e4⟩
structure Seen (base : Nat) (vs : List AV) (H : Hp) (seen : List Nat) : Prop where
  pre : ∃ more, seen = List.range base ++ more
  nd : seen.Nodup
  vals : ∀ x ∈ (vs.map (idsOf 6)).flatten, x ∈ seen
  shut : ∀ r ∈ seen, ∀ x ∈ rowIds H r, x ∈ seen
theorem seenFrom_spec {base : Nat} {vs : List AV} {H : Hp} {seen : List Nat} (h : seenFrom base vs H = some seen) : Seen base vs H seen := by
  unfold seenFrom at h
  obtain ⟨h1, h2, h3, h4⟩ := reach_spec 200 _ _ h (base := base) (roots := (vs.map (idsOf 6)).flatten ++ ((List.range base).map (rowIds H)).flatten) List.nodup_range (fun x hx => .inr hx) (fun r hr hb => by
    rw [List.mem_range] at hr; omega)
  refine ⟨h1, h2, fun x hx => h3 x (List.mem_append_left _ hx), fun r hr x hx => ?_⟩
  rcases Nat.lt_or_ge r base with hb | hb
  · exact h3 x (List.mem_append_right _ (List.mem_flatten.2 ⟨_, List.mem_map.2 ⟨r, List.mem_range.2 hb, rfl⟩, hx⟩))
  · exact h4 r hr hb x hx
theorem Seen.base {base : Nat} {vs : List AV} {H : Hp} {seen : List Nat} (h : Seen base vs H seen) : base ≤ seen.length ∧ ∀ r, r < base → seen[r]? = some r := by
  obtain ⟨more, rfl⟩ := h.pre
  refine ⟨by simp, fun r hr => ?_⟩
  rw [List.getElem?_append_left (by simpa using hr)]
  simp [hr]
theorem rowIds_some {H : Hp} {r : Nat} {row : Row} (h : look H r = some row) : rowIds H r = idsRow row := by
  unfold rowIds idsRow
  rw [look_some.1 h]
section
variable {T : Tab} {S : Stab} {w : World} {L : Loc} {H : Hp} {ids : List Nat}
theorem St.gc {base : Nat} {vs : List AV} {seen : List Nat} (hst : St T S w L (look H) ids) (hs : Seen base vs H seen) : St T S w (locBy L seen) (look (renH seen H)) [seen.length] := by
  have key : ∀ i row', look (renH seen H) i = some row' → ∃ r row, seen[i]? = some r ∧ look H r = some row ∧ row' = gcRow seen row ∧ locBy L seen i = L r := by
    intro i row' hi
    rw [look_some] at hi
    unfold renH at hi
    rw [List.getElem?_map] at hi
    cases hr : seen[i]? with
    | none => rw [hr] at hi; cases hi
    | some r =>
      rw [hr] at hi
      simp only [Option.map_some, Option.some.injEq] at hi
      split at hi
      · rename_i row hrow
        simp at hi
        exact ⟨r, row, rfl, look_some.2 hrow, hi.symm, by unfold locBy; rw [hr]; rfl⟩
      · cases hi
  refine ⟨⟨fun i row' hi => ?_, fun i j rowi rowj p p' h1 h2 h3 h4 h5 => ?_, hst.inv.stab⟩, ⟨by simp, fun b hb => by simp at hb; subst hb; simp⟩, fun i hi => ?_, fun i hi => ?_, hst.glob⟩
  · obtain ⟨r, row, hr, hrow, rfl, hl⟩ := key i row' hi
    rw [hl]
    rcases hst.inv.rows r row hrow with ⟨e1, e2⟩ | ⟨p, e1, e2⟩
    · exact .inl ⟨e1, e2.ren _⟩
    · refine .inr ⟨p, e1, (e2.ren (renOK_by fun x hx => hs.shut r (List.mem_of_getElem? hr) x ?_)).kin _⟩
      rw [rowIds_some hrow]; exact hx
  · obtain ⟨r1, row1, e1, e2, rfl, e3⟩ := key i rowi h1
    obtain ⟨r2, row2, e4, e5, rfl, e6⟩ := key j rowj h2
    rw [e3] at h3
    rw [e6] at h4
    have k1 := idxOf_getElem hs.nd e1
    have k2 := idxOf_getElem hs.nd e4
    have kin : ∀ (row : Row) (x : Nat) (b : Bool) (n : Nat), row.kin = some (x, b) → seen[n]? = some x → (gcRow seen row).kin = some (n, b) := by
      intro row x b n hk hx
      have hc : seen.contains x = true := by simpa using List.mem_of_getElem? hx
      simp only [gcRow, keepKin, hk, hc, renBy, idxOf_getElem hs.nd hx]
    rcases hst.inv.disj r1 r2 row1 row2 p p' e2 e5 h3 h4 h5 with h6 | ⟨h6, h7, h8⟩ | ⟨h6, h7, h8⟩
    · subst h6
      exact .inl (by rw [← k1, ← k2])
    · exact .inr (.inl ⟨kin _ _ _ _ h6 e4, kin _ _ _ _ h7 e1, h8⟩)
    · exact .inr (.inr ⟨kin _ _ _ _ h6 e1, kin _ _ _ _ h7 e4, h8⟩)
  · have hi : seen.length ≤ i := by simp at hi; omega
    unfold locBy
    rw [List.getElem?_eq_none hi]; rfl
  · cases hx : look (renH seen H) i with
    | none => rfl
    | some row' =>
      obtain ⟨r, row, e1, e2, _, e3⟩ := key i row' hx
      rw [e3] at hi
      rw [hst.dom r hi] at e2
      cases e2
theorem Ext.gc {w0 : World} {S0 : Stab} {L0 : Loc} {base : Nat} {vs : List AV} {seen : List Nat} (he : Ext w0 S0 L0 w S L) (hs : Seen base vs H seen) (hL : ∀ r, base ≤ r → L0 r = none) : Ext w0 S0 L0 w S (locBy L seen) := by
  refine ⟨he.sub, he.stays, fun r x hx => ?_, he.Snew, he.blocks, he.size, he.os, he.tape, he.output, fun i p hp => ?_, he.frz, he.shape⟩
  · have hr : r < base := by
      rcases Nat.lt_or_ge r base with h | h
      · exact h
      · rw [hL r h] at hx; cases hx
    unfold locBy
    rw [hs.base.2 r hr]
    exact he.le r x hx
  · obtain ⟨r, _, h2⟩ := locBy_some hp
    exact he.Lnew r p h2
theorem get_mkFr {P : Program} {L' : Loc} {fr : Fr} {f : AV → AV} {us : Nat → Value} (hr : ∀ t, Rel P S w (f (get fr t)) L' (us t)) : ∀ (keep : List Nat) (t : Nat), Rel P S w (get (mkFr keep ((keep.map (get fr)).map f)) t) L' (us t)
  | [], t => by simp only [List.map_nil, mkFr, get, Rel]
  | k :: keep, t => by
    simp only [List.map_cons, mkFr, get]
    split
    · rename_i hb
      have := Nat.eq_of_beq_eq_true hb
      subst this
      exact hr k
    · exact get_mkFr hr keep t
theorem get_mkFr_mem {fr : Fr} {f : AV → AV} : ∀ (keep : List Nat) (t : Nat), get (mkFr keep ((keep.map (get fr)).map f)) t = .dead ∨ (t ∈ keep ∧ get (mkFr keep ((keep.map (get fr)).map f)) t = f (get fr t))
  | [], t => .inl rfl
  | k :: keep, t => by
    simp only [List.map_cons, mkFr, get]
    split
    · rename_i hb
      have := Nat.eq_of_beq_eq_true hb
      subst this
      exact .inr ⟨by simp, rfl⟩
    · rcases get_mkFr_mem keep t with h | ⟨h1, h2⟩
      · exact .inl h
      · exact .inr ⟨by simp [h1], h2⟩
theorem CS.gc {n : Nat} {w0 : World} {S0 : Stab} {L0 : Loc} {fr : Fr} {a : Act} {base : Nat} {keep seen : List Nat} (hcs : CS T n w0 S0 L0 fr H a w S L) (hs : Seen base (keep.map (get fr)) H seen) (hL : ∀ r, base ≤ r → L0 r = none) :
    CS T n w0 S0 L0 (mkFr keep ((keep.map (get fr)).map (renV 6 (renBy seen)))) (renH seen H) a w S (locBy L seen) := by
  refine ⟨?_, fun t => ?_, hcs.size, hcs.dfr, hcs.ext.gc hs hL⟩
  · have := hcs.st.gc hs
    have e : (renH seen H).length = seen.length := by unfold renH; simp
    rw [e]
    exact this
  · rcases get_mkFr_mem (fr := fr) (f := renV 6 (renBy seen)) keep t with h | ⟨h1, h2⟩
    · rw [h]; simp only [Rel]
    · rw [h2]
      refine Rel.ren (renOK_by fun r hr => hs.vals r ?_) (hcs.fr t)
      exact List.mem_flatten.2 ⟨_, List.mem_map.2 ⟨_, List.mem_map.2 ⟨t, h1, rfl⟩, rfl⟩, hr⟩
theorem St.unkin {r : Nat} (hst : St T S w L (look H) ids) : St T S w L (look (unkin r H)) ids := by
  unfold Ev.unkin
  split
  · rename_i row hr
    split
    · rename_i q hk
      split
      · rename_i rowq hq
        split
        · rename_i r' b hkq
          split
          · rename_i hb
            have := Nat.eq_of_beq_eq_true hb
            subst this
            have h1 := hst.drop (r := r')
            have hrl : r' < H.length := lt_of_get hr
            have hql : q < H.length := lt_of_get hq
            have e1 : look (H.set r' none) = upd (look H) r' none := by
              funext x
              by_cases e : x = r'
              · subst e; rw [upd_same]; unfold look; simp [List.getElem?_set_self hrl]
              · rw [upd_ne _ _ e]; unfold look; rw [List.getElem?_set_ne (Ne.symm e)]
            rw [← e1] at h1
            have e2 : ∀ X, look ((H.set r' none).set q (some X)) = upd (look (H.set r' none)) q (some X) := by
              intro X
              funext x
              by_cases e : x = q
              · subst e; rw [upd_same]; unfold look; simp [List.getElem?_set_self, hql]
              · rw [upd_ne _ _ e]; unfold look; rw [List.getElem?_set_ne (Ne.symm e)]
            rw [e2]
            by_cases hqr : q = r'
            · subst hqr
              rw [hr] at hq
              injection hq with hq
              injection hq with hq
              subst hq
              refine ⟨⟨fun x rx hx => ?_, fun r1 r2 x1 x2 p1 p2 g1 g2 g3 g4 g5 => ?_, h1.inv.stab⟩, h1.nd, h1.fresh, fun x hx => ?_, h1.glob⟩
              · by_cases e : x = q
                · subst e
                  rw [upd_same] at hx
                  injection hx with hx
                  subst hx
                  rcases hst.inv.rows x row (look_some.2 hr) with ⟨k1, k2⟩ | ⟨p, k1, k2⟩
                  · exact .inl ⟨k1, k2⟩
                  · exact .inr ⟨p, k1, k2.kin _⟩
                · rw [upd_ne _ _ e] at hx
                  exact h1.inv.rows x rx hx
              · have sol : ∀ y ry py pq, y ≠ q → look (H.set q none) y = some ry → L y = some (some py) → L q = some (some pq) → py.b = pq.b → False := by
                  intro y ry py pq hne hy hly hlq hb
                  have hy' : look H y = some ry := by rw [e1, upd_ne _ _ hne] at hy; exact hy
                  rcases hst.inv.disj y q ry row py pq hy' (look_some.2 hr) hly hlq hb with e | ⟨_, e, _⟩ | ⟨e, _⟩
                  · exact hne e
                  · rw [hk] at e; injection e with e; injection e with e _; exact hne e.symm
                  · rw [hk] at e; injection e with e; injection e with _ e; cases e
                by_cases c1 : r1 = q
                · by_cases c2 : r2 = q
                  · exact .inl (by rw [c1, c2])
                  · subst c1
                    rw [upd_ne _ _ c2] at g2
                    exact (sol r2 x2 p2 p1 c2 g2 g4 g3 g5.symm).elim
                · rw [upd_ne _ _ c1] at g1
                  by_cases c2 : r2 = q
                  · subst c2
                    exact (sol r1 x1 p1 p2 c1 g1 g3 g4 g5).elim
                  · rw [upd_ne _ _ c2] at g2
                    exact h1.inv.disj r1 r2 x1 x2 p1 p2 g1 g2 g3 g4 g5
              · by_cases e : x = q
                · subst e
                  have := hst.dom x hx
                  rw [look_some.2 hr] at this; cases this
                · rw [upd_ne _ _ e]; exact h1.dom x hx
            · have hq1 : look (H.set r' none) q = some rowq := by rw [e1, upd_ne _ _ hqr]; exact look_some.2 hq
              refine h1.rekin hq1 (fun p hl y rowy py hy hly hbb => ?_) none
              have hyr : y ≠ r' := by
                rintro rfl
                rw [e1, upd_same] at hy; cases hy
              have hy' : look H y = some rowy := by rw [e1, upd_ne _ _ hyr] at hy; exact hy
              rcases hst.inv.disj q y rowq rowy p py (look_some.2 hq) hy' hl hly hbb.symm with e | ⟨e, _⟩ | ⟨_, e, _⟩
              · exact e.symm
              · rw [hkq] at e; injection e with e; injection e with e _; exact absurd e.symm hyr
              · rw [hkq] at e; injection e with e; injection e with e _; exact absurd e.symm hyr
          · exact hst
        · exact hst
      · exact hst
    · exact hst
  · exact hst
theorem unkin_len {r : Nat} : (Ev.unkin r H).length = H.length := by
  unfold Ev.unkin
  repeat' split
  all_goals simp
theorem St.unbase {seen : List Nat} : ∀ (l : List Nat) {H : Hp}, St T S w L (look H) ids → St T S w L (look (unbase seen l H)) ids
  | [], H, hst => hst
  | r :: l, H, hst => by
    unfold Ev.unbase
    split
    · exact St.unbase l hst
    · exact St.unbase l hst.unkin
theorem unbase_len {seen : List Nat} : ∀ (l : List Nat) {H : Hp}, (unbase seen l H).length = H.length
  | [], H => rfl
  | r :: l, H => by
    unfold Ev.unbase
    split
    · exact unbase_len l
    · rw [unbase_len l, unkin_len]
theorem CS.unbase {n : Nat} {w0 : World} {S0 : Stab} {L0 : Loc} {fr : Fr} {a : Act} {seen l : List Nat} (h : CS T n w0 S0 L0 fr H a w S L) : CS T n w0 S0 L0 fr (unbase seen l H) a w S L :=
  ⟨by rw [unbase_len]; exact h.st.unbase l, h.fr, h.size, h.dfr, h.ext⟩
end
end Go.Ev
