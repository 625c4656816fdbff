/- Operations that leave memory alone. -/
import Derived.Test.YtajhpbahjindkaaDoorEvA
import Derived.WalkKit
set_option linter.unusedVariables false
set_option linter.unusedSimpArgs false
namespace Go.Ev
open Go
set_option linter.unusedVariables false
set_option linter.unusedSimpArgs false
def Runs (T : Tab) (o : Oper) (a : Act) (w : World) (S : Stab) (L : Loc) (Q : AV → Hs → List Nat → Prop) : Prop :=
  ∃ v h ids S' L' w' n x, Q v h ids ∧ (execOp a.eval o).run T.P w = .ok n w' ∧ (n = .value x ∨ (n = .skip ∧ x = undef)) ∧
    Rel T.P S' w' v L' x ∧ St T S' w' L' h ids ∧ Ext w S L w' S' L'
section
variable {T : Tab} {S : Stab} {w : World} {L : Loc} {h : Hs} {ids : List Nat} {a : Act} {o : Oper}
theorem Runs.here {Q : AV → Hs → List Nat → Prop} {v : AV} {x : Value} (hst : St T S w L h ids) (hq : Q v h ids)
    (hr : (execOp a.eval o).run T.P w = .ok (.value x) w) (hv : Rel T.P S w v L x) : Runs T o a w S L Q :=
  ⟨v, h, ids, S, L, w, _, x, hq, hr, .inl rfl, hv, hst, Ext.refl _ _ _⟩
theorem St.nil {i : Nat} {rest : List Nat} (hst : St T S w L h (i :: rest)) {row : Row} (hn : NilOK row) :
    St T S w (setL L i none) (upd h i (some row)) rest ∧ L.le (setL L i none) ∧ Ext w S L w S (setL L i none) := by
  have hi : L i = none := hst.fresh i (.inl (by simp))
  have hle : L.le (setL L i none) := setL_le _ hi
  refine ⟨⟨⟨fun r row' hr => ?_, fun r r' row1 row2 p p' h1 h2 h3 h4 h5 => ?_, hst.inv.stab⟩, hst.tail.1, fun j hj => ?_, fun r hr => ?_, hst.glob⟩, hle, ?_⟩
  · by_cases e : r = i
    · subst e
      rw [upd_same] at hr
      injection hr with hr
      subst hr
      exact .inl ⟨setL_same _ _ _, hn⟩
    · rw [upd_ne _ _ e] at hr
      rcases hst.inv.rows r row' hr with ⟨h1, h2⟩ | ⟨p, h1, h2⟩
      · exact .inl ⟨by rw [setL_ne _ _ e]; exact h1, h2⟩
      · refine .inr ⟨p, by rw [setL_ne _ _ e]; exact h1, ?_⟩
        obtain ⟨arr, bt, hb, hs, hc⟩ := h2.blk
        exact ⟨⟨arr, bt, hb, hs, hc.mono (fun _ _ h => h) (fun _ _ _ => rfl) _ (lOf_le hle) (fun _ _ => rfl)⟩, h2.size, h2.le, h2.lay, h2.zz, h2.vr, h2.st, h2.zp⟩
  · have e1 : r ≠ i := by rintro rfl; rw [setL_same] at h3; cases h3
    have e2 : r' ≠ i := by rintro rfl; rw [setL_same] at h4; cases h4
    rw [setL_ne _ _ e1] at h3
    rw [setL_ne _ _ e2] at h4
    rw [upd_ne _ _ e1] at h1
    rw [upd_ne _ _ e2] at h2
    exact hst.inv.disj r r' row1 row2 p p' h1 h2 h3 h4 h5
  · have := hst.tail.2 j hj
    rw [setL_ne _ _ this.1]
    exact this.2
  · by_cases e : r = i
    · subst e; rw [setL_same] at hr; cases hr
    · rw [setL_ne _ _ e] at hr
      rw [upd_ne _ _ e]
      exact hst.dom r hr
  · refine ⟨fun _ _ h => h, fun _ _ _ => rfl, hle, fun _ _ h => .inl h, fun _ _ _ => rfl, Nat.le_refl _, rfl, rfl, rfl, fun r p hr => ?_, fun _ _ => rfl, fun b arr bt h => ⟨arr, h, rfl⟩⟩
    by_cases e : r = i
    · subst e; rw [setL_same] at hr; cases hr
    · rw [setL_ne _ _ e] at hr
      exact .inl ⟨r, p, hr, rfl⟩
theorem post_nilRow {v : AV} {u : Value} {Q : AV → Hs → List Nat → Prop} (hst : St T S w L h ids) (hv : Rel T.P S w v L u) (hp : (nilRow v).post h ids Q) :
    ∃ v' h' ids' L', Q v' h' ids' ∧ Rel T.P S w v' L' u ∧ St T S w L' h' ids' ∧ L.le L' ∧ Ext w S L w S L' := by
  have keep : ∀ v', Q v' h ids → Rel T.P S w v' L u → ∃ v' h' ids' L', Q v' h' ids' ∧ Rel T.P S w v' L' u ∧ St T S w L' h' ids' ∧ L.le L' ∧ Ext w S L w S L' :=
    fun v' hq hv => ⟨v', h, ids, L, hq, hv, hst, Loc.le_refl _, Ext.refl _ _ _⟩
  unfold nilRow at hp
  split at hp
  · rename_i e l tight
    split at hp
    · split at hp
      · cases ids with
        | nil => exact hp.elim
        | cons i rest =>
          simp only [HP.post] at hp
          obtain ⟨h1, h2, h3⟩ := hst.nil (row := { c := [.run e []], vr := false, ty := 0, fz := false, loose := false }) (.inr ⟨e, rfl⟩)
          refine ⟨_, _, _, _, hp, ?_, h1, h2, h3⟩
          simp only [Rel] at hv ⊢
          obtain ⟨a, cap, hu, hc, ht, _⟩ := hv
          unfold OsR
          rw [setL_same]
          have : cap = 0 := by simpa using ht (by trivial)
          subst this
          exact ⟨rfl, rfl, rfl, a, by simpa using hu⟩
      · exact keep _ hp hv
    · exact keep _ hp hv
  · rename_i vs tight
    split at hp
    · split at hp
      · cases ids with
        | nil => exact hp.elim
        | cons i rest =>
          simp only [HP.post] at hp
          obtain ⟨h1, h2, h3⟩ := hst.nil (row := { c := [], vr := false, ty := 0, fz := false, loose := false }) (.inl rfl)
          refine ⟨_, _, _, _, hp, ?_, h1, h2, h3⟩
          simp only [Rel] at hv ⊢
          obtain ⟨_, a, cap, hu, hc, ht, _⟩ := hv
          unfold OsR
          rw [setL_same]
          have : cap = 0 := by simpa using ht (by trivial)
          subst this
          exact ⟨rfl, rfl, rfl, a, by simpa using hu⟩
      · exact keep _ hp hv
    · exact keep _ hp hv
  · exact keep _ hp hv
theorem run_eqGuard_quiet {op : BinOp} {t : TypeId} {x y : Operand} {u v : Value} (h : (u = .nilIface ∧ v = .nilIface) → False) (h2 : ∀ c d, u = .agg c → v = .agg d → False) :
    (eqGuard op t x y u v).run T.P w = .ok () w := by
  unfold eqGuard
  cases u <;> cases v <;> simp_all
theorem run_binInt {op : BinOp} {t : TypeId} {x y : Operand} {k k' : IntKind} {m n : Int} {r : Value} (h : binV op (.int k m) (.int k' n) = some r) :
    (do eqGuard op t x y (.int k m) (.int k' n); binOp op t (.int k m) (.int k' n) : Sem Value).run T.P w = .ok r w := by
  have hg : (eqGuard op t x y (.int k m) (.int k' n)).run T.P w = .ok () w := run_eqGuard_quiet (by simp) (by simp)
  simp only [Sem.run_bind, hg, Result.andThen_ok]
  cases op <;> simp only [binV, binOp, Op.shift] at h ⊢
  case shl =>
    cases hb : decide (0 ≤ n) with
    | false => rw [hb] at h; simp at h
    | true => rw [hb] at h; have : ¬ n < 0 := by simpa using hb
              simp [this]; simpa using h
  case shr =>
    cases hb : decide (0 ≤ n) with
    | false => rw [hb] at h; simp at h
    | true => rw [hb] at h; have : ¬ n < 0 := by simpa using hb
              simp [this]; simpa using h
  all_goals
    by_cases hk : k = k'
    · subst hk
      simp only [decide_true, cond_true] at h
      simp [Op.intArith, Op.intDiv, Op.intBits, Op.intCmp] at h ⊢
      first
        | exact h
        | (by_cases h0 : n = 0 <;> simp_all)
    · simp [hk] at h
theorem desc_some {P : Program} {t : TypeId} {d : TypeDesc} (h : desc P t = d) (hd : d ≠ .invalid) : P.underlying t = some d := by
  unfold desc at h
  cases hu : P.underlying t with
  | none => rw [hu] at h; exact absurd h.symm hd
  | some x => rw [hu] at h; simpa using h
theorem szOf_some {P : Program} {t : TypeId} {n : Nat} (h : szOf P t = n) (hn : n ≠ 0) : ∃ i, P.info? t = some i ∧ i.size = n := by
  unfold szOf Program.cellsOf at h
  cases hi : P.info? t with
  | none => rw [hi] at h; simp at h; omega
  | some i => rw [hi] at h; exact ⟨i, rfl, by simpa using h⟩
theorem run_sizeOf {P : Program} {t : TypeId} {i : TypeInfo} (h : P.info? t = some i) {w : World} : (sizeOf t).run P w = .ok i.size w := by
  simp [sizeOf, typeInfo, h]
theorem relL_map {α : Type} {P : Program} {S : Stab} {w : World} {L : Loc} (f : α → AV) (g : α → Value) : ∀ (l : List α), (∀ x ∈ l, Rel P S w (f x) L (g x)) → RelL P S w (l.map f) L (l.map g)
  | [], _ => by simp [RelL]
  | x :: l, h => by
    simp only [List.map_cons, RelL]
    exact ⟨_, _, rfl, h x (by simp), relL_map f g l fun y hy => h y (by simp [hy])⟩
theorem relL_get {P : Program} {S : Stab} {w : World} {L : Loc} : ∀ (vs : List AV) (us : List Value) {n : Nat} {v : AV}, RelL P S w vs L us → vs[n]? = some v → ∃ u, us[n]? = some u ∧ Rel P S w v L u
  | [], _, n, v, _, hn => by simp at hn
  | x :: vs, us, n, v, h, hn => by
    simp only [RelL] at h
    obtain ⟨u, rest, rfl, h1, h2⟩ := h
    cases n with
    | zero => simp at hn; subst hn; exact ⟨u, by simp, h1⟩
    | succ n => simp at hn; obtain ⟨u', h3, h4⟩ := relL_get vs rest h2 hn; exact ⟨u', by simpa using h3, h4⟩
theorem run_unV {op : UnOp} {x r : Value} (h : unV op x = some r) : (Op.unary op x).run T.P w = .ok r w := by
  cases op <;> cases x <;> simp [unV] at h
  · subst h; simp [Op.unary, Op.intArith]
  · subst h; simp [Op.unary]
section ops
variable {fr : Fr} {Q : AV → Hs → List Nat → Prop}
theorem rel_slgNil {u : Value} (hv : Rel T.P S w (.sc (.slice none 0 0)) L u) : Rel T.P S w (.slg [] true) L u := by
  simp only [Rel] at hv ⊢
  exact ⟨by simp, none, 0, hv, Nat.le_refl _, fun _ => rfl, fun h => absurd rfl h⟩
theorem rel_slNil {v : AV} {u : Value} (hv : Rel T.P S w v L u) : Rel T.P S w (slNil v) L u := by
  unfold slNil
  split
  · exact rel_slgNil hv
  · exact hv
theorem rel_typeNil {t : TypeId} {v : AV} {u : Value} (hv : Rel T.P S w v L u) : Rel T.P S w (typeNil T t v) L u := by
  unfold typeNil
  split
  · split
    · exact hv
    · split
      · split
        · simp only [Rel] at hv ⊢
          exact ⟨none, 0, hv, Nat.le_refl _, fun _ => rfl, fun h => absurd rfl h⟩
        · exact rel_slgNil hv
      · exact hv
  · exact hv
theorem op_move {x : Operand} {v : AV} (ho : o.op = .move x ∨ o.op = .assign x) (hst : St T S w L h ids) (hx : Rel T.P S w v L (a.eval x))
    (hp : (nilRow v).post h ids Q) : Runs T o a w S L Q := by
  obtain ⟨v', h', ids', L', hq, hr, hs, hl, he⟩ := post_nilRow hst hx hp
  refine ⟨v', h', ids', S, L', w, _, a.eval x, hq, ?_, .inl rfl, hr, hs, he⟩
  rcases ho with ho | ho <;> simp [execOp, ho]
theorem op_un {op : UnOp} {t : TypeId} {x : Operand} (ho : o.op = .unOp op t x) (hst : St T S w L h ids) (hx : Rel T.P S w (opv T fr x) L (a.eval x))
    (hp : (evOp T o fr).post h ids Q) : Runs T o a w S L Q := by
  simp only [evOp, ho] at hp
  generalize opv T fr x = v at hx hp
  split at hp
  · rename_i v
    split at hp
    · rename_i u hu
      simp only [HP.post] at hp
      simp only [Rel] at hx
      refine Runs.here hst hp (x := u) ?_ (by simp only [Rel])
      simp [execOp, ho, hx, run_unV hu]
    · exact hp.elim
  · exact hp.elim
theorem op_nilCheck {x : Operand} (ho : o.op = .nilCheck x) (hst : St T S w L h ids) (hx : Rel T.P S w (opv T fr x) L (a.eval x))
    (hp : (evOp T o fr).post h ids Q) : Runs T o a w S L Q := by
  simp only [evOp, ho] at hp
  generalize hv : opv T fr x = v at hx hp
  split at hp
  · rename_i r s i j
    simp only [HP.post] at hp
    have hx' := hx
    simp only [Rel, PsR] at hx
    split at hx
    · refine Runs.here hst hp (x := a.eval x) ?_ hx'
      simp [execOp, ho, hx]
    · exact hx.elim
  · rename_i c ty s i j
    simp only [HP.post] at hp
    have hx' := hx
    simp only [Rel] at hx
    obtain ⟨b, off, hu, _⟩ := hx
    refine Runs.here hst hp (x := a.eval x) ?_ hx'
    simp [execOp, ho, hu]
  · rename_i f fa fb
    split at hp
    · rename_i g
      simp only [HP.post] at hp
      have hx' := hx
      simp only [Rel] at hx
      obtain ⟨fa', ca, hu, _, _⟩ := hx
      refine Runs.here hst hp (x := a.eval x) ?_ hx'
      simp [execOp, ho, hu]
    · exact hp.elim
  · exact hp.elim
theorem op_makeFunc {f : Fn} {first caps : Array Operand} (ho : o.op = .makeFunc f first caps) (hst : St T S w L h ids)
    (hx : ∀ x ∈ o.op.operands.toList, Rel T.P S w (opv T fr x) L (a.eval x))
    (hp : (evOp T o fr).post h ids Q) : Runs T o a w S L Q := by
  simp only [evOp, ho, HP.post] at hp
  refine Runs.here hst hp (x := .func f (first.map a.eval) (caps.map a.eval)) ?_ ?_
  · simp [execOp, ho, Instr.makeFunc]
  · simp only [Rel]
    refine ⟨_, _, rfl, ?_, ?_⟩
    · rw [Array.toList_map]
      exact relL_map _ _ _ fun x hm => hx x (by simp only [ho, Op.operands]; simp; exact .inl (by simpa using hm))
    · rw [Array.toList_map]
      exact relL_map _ _ _ fun x hm => hx x (by simp only [ho, Op.operands]; simp; exact .inr (by simpa using hm))
theorem op_extract {x : Operand} {n : Nat} (ho : o.op = .extract x n) (hst : St T S w L h ids) (hx : Rel T.P S w (opv T fr x) L (a.eval x))
    (hp : (evOp T o fr).post h ids Q) : Runs T o a w S L Q := by
  simp only [evOp, ho] at hp
  generalize opv T fr x = v at hx hp
  split at hp
  · rename_i vs
    split at hp
    · rename_i v hv
      simp only [HP.post] at hp
      simp only [Rel] at hx
      obtain ⟨arr, hu, hr⟩ := hx
      obtain ⟨u, h1, h2⟩ := relL_get _ _ hr hv
      refine Runs.here hst hp (x := u) ?_ h2
      simp at h1
      simp [execOp, ho, hu, Instr.extract, h1]
    · exact hp.elim
  · exact hp.elim
theorem slice_of_rel {v : AV} {u : Value} (hv : Rel T.P S w v L u) (hl : (∃ r s i len x y z, v = .os r s i len x y z) ∨ (∃ e l t, v = .sl e l t) ∨ ∃ vs t, v = .slg vs t) :
    ∃ b n c, u = .slice b n c ∧ n ≤ c ∧ (match v with | .os _ _ _ len _ t _ => n = len ∧ (t = true → c = n) | .sl _ l t => n = l.length ∧ (t = true → c = n) | .slg vs t => n = vs.length ∧ (t = true → c = n) | _ => True) := by
  rcases hl with ⟨r, s, i, len, x, y, z, rfl⟩ | ⟨e, l, t, rfl⟩ | ⟨vs, t, rfl⟩
  · simp only [Rel, OsR] at hv
    split at hv
    · exact hv.elim
    · obtain ⟨rfl, _, _, b, rfl⟩ := hv
      exact ⟨_, _, _, rfl, Nat.le_refl _, rfl, fun _ => rfl⟩
    · obtain ⟨b, cap, rfl, _, h1, h2, _⟩ := hv
      exact ⟨_, _, _, rfl, h1, rfl, h2⟩
  · simp only [Rel] at hv
    obtain ⟨b, cap, rfl, h1, h2, _⟩ := hv
    exact ⟨_, _, _, rfl, h1, rfl, h2⟩
  · simp only [Rel] at hv
    obtain ⟨_, b, cap, rfl, h1, h2, _⟩ := hv
    exact ⟨_, _, _, rfl, h1, rfl, h2⟩
theorem run_lenV {t ty : TypeId} {x : AV} {u : Value} (hx : Rel T.P S w x L u) (hp : (lenV T t x).post h ids Q) :
    ∃ n : Nat, Q (vi n) h ids ∧ (Builtin.len_ #[t] ty #[u]).run T.P w = .ok (.int .i64 n) w := by
  unfold lenV at hp
  split at hp
  · rename_i e r s i len x y z h1
    simp only [HP.post] at hp
    obtain ⟨b, n, c, rfl, _, h2⟩ := slice_of_rel hx (.inl ⟨_, _, _, _, _, _, _, rfl⟩)
    refine ⟨len, hp, ?_⟩
    simp [Builtin.len_, underlying, desc_some h1 (by simp), goInt, h2.1]
  · rename_i e q l y h1
    simp only [HP.post] at hp
    obtain ⟨b, n, c, rfl, _, h2⟩ := slice_of_rel hx (.inr (.inl ⟨_, _, _, rfl⟩))
    refine ⟨l.length, hp, ?_⟩
    simp [Builtin.len_, underlying, desc_some h1 (by simp), goInt, h2.1]
  · rename_i e vs y h1
    simp only [HP.post] at hp
    obtain ⟨b, n, c, rfl, _, h2⟩ := slice_of_rel hx (.inr (.inr ⟨_, _, rfl⟩))
    refine ⟨vs.length, hp, ?_⟩
    simp [Builtin.len_, underlying, desc_some h1 (by simp), goInt, h2.1]
  · rename_i s h1
    simp only [HP.post] at hp
    simp only [Rel] at hx
    subst hx
    refine ⟨s.size, hp, ?_⟩
    simp [Builtin.len_, underlying, desc_some h1 (by simp), goInt]
  · rename_i n e h1
    simp only [HP.post] at hp
    refine ⟨n, hp, ?_⟩
    simp [Builtin.len_, underlying, desc_some h1 (by simp), goInt]
  · exact hp.elim
end ops
end
end Go.Ev
namespace Go.Ev
open Go
set_option linter.unusedVariables false
set_option linter.unusedSimpArgs false
section
variable {T : Tab} {S : Stab} {w : World} {L : Loc} {h : Hs} {ids : List Nat} {a : Act} {o : Oper}
theorem cons_beq {α : Type} [BEq α] (x y : α) (xs ys : List α) : (x :: xs == y :: ys) = ((x == y) && (xs == ys)) := rfl
theorem run_equalIn_run {P : Program} {w : World} {d t e : Nat} {i : TypeInfo} {n : Nat} {xs ys : Array Value} {α : Type} [BEq α] [LawfulBEq α] (f : α → Value) (l l' : List α)
    (ht : P.underlying t = some (.array n e)) (hi : P.info? e = some i) (h1 : i.size = 1) (hagg : (isAgg e).run P w = .ok false w) (hl : l.length = n) (hl' : l'.length = n)
    (hx : ∀ (j : Nat) x, l[j]? = some x → xs[j]? = some (f x)) (hy : ∀ (j : Nat) x, l'[j]? = some x → ys[j]? = some (f x))
    (he : ∀ x y, (Op.equalIn d e (f x) (f y)).run P w = .ok (x == y) w) :
    (Op.equalIn (d + 1) t (.agg xs) (.agg ys)).run P w = .ok (l == l') w := by
  have key : ∀ (m s : Nat), s + m = n → ((forIn (List.range' s m) (⟨none, ()⟩ : Option Bool × PUnit) fun j r => (do
        if (!(← Op.equalIn d e (← Go.part e xs (j * i.size)) (← Go.part e ys (j * i.size)))) = true then pure (ForInStep.done ⟨some false, ()⟩) else do pure PUnit.unit; pure (ForInStep.yield ⟨none, ()⟩) : Sem (ForInStep (Option Bool × PUnit)))) : Sem (Option Bool × PUnit)).run P w
      = .ok (if (l.drop s == l'.drop s) then ⟨none, ()⟩ else ⟨some false, ()⟩) w := by
    intro m
    induction m with
    | zero =>
      intro s hs
      have e1 : l.drop s = [] := List.drop_eq_nil_of_le (by omega)
      have e2 : l'.drop s = [] := List.drop_eq_nil_of_le (by omega)
      simp [e1, e2]
    | succ m ih =>
      intro s hs
      have a1 : s < l.length := by omega
      have a2 : s < l'.length := by omega
      have b1 := hx s l[s] (List.getElem?_eq_getElem a1)
      have b2 := hy s l'[s] (List.getElem?_eq_getElem a2)
      have p1 : ∀ (zs : Array Value) (u : Value), zs[s]? = some u → (Go.part e zs (s * i.size)).run P w = .ok u w := by
        intro zs u hz
        simp [Go.part, hagg, h1, hz]
      rw [List.range'_succ, List.forIn_cons]
      simp only [Sem.run_bind, p1 _ _ b1, p1 _ _ b2, Result.andThen_ok, he]
      rw [List.drop_eq_getElem_cons a1, List.drop_eq_getElem_cons a2]
      by_cases hc : l[s] == l'[s]
      · have hc' : (l[s] :: l.drop (s + 1) == l'[s] :: l'.drop (s + 1)) = (l.drop (s + 1) == l'.drop (s + 1)) := by rw [cons_beq, hc, Bool.true_and]
        simp only [hc, hc', Bool.not_true, Bool.false_eq_true, if_false, Sem.run_bind, Sem.run_pure, Result.andThen_ok]
        exact ih (s + 1) (by omega)
      · have hc2 : (l[s] == l'[s]) = false := by simpa using hc
        have hc' : (l[s] :: l.drop (s + 1) == l'[s] :: l'.drop (s + 1)) = false := by rw [cons_beq, hc2, Bool.false_and]
        simp only [hc2, hc', Bool.not_false, if_true, Sem.run_pure, Result.andThen_ok, Bool.false_eq_true, if_false]
  have := key n 0 (by omega)
  simp only [List.drop_zero] at this
  simp only [Op.equalIn, underlying, ht, Sem.run_bind, run_program, Result.andThen_ok, Sem.run_pure, run_sizeOf hi]
  rw [Std.Legacy.Range.forIn_eq_forIn_range']
  simp only [Std.Legacy.Range.size, Nat.sub_zero, Nat.add_sub_cancel, Nat.div_one] at this ⊢
  rw [this]
  by_cases hc : l == l'
  · simp [hc]
  · simp [hc]
theorem isAgg_false {P : Program} {t : TypeId} {d : TypeDesc} (h : P.underlying t = some d) (h1 : ∀ fs, d ≠ .struct fs) (h2 : ∀ n e, d ≠ .array n e) {w : World} : (isAgg t).run P w = .ok false w := by
  cases d <;> first
    | (exact absurd rfl (h1 _))
    | (exact absurd rfl (h2 _ _))
    | simp [isAgg, underlying, h]
theorem eqGuard_arr {P : Program} {w : World} {op : BinOp} {t e : TypeId} {n : Nat} {x y : Operand} {xs ys : Array Value} {d : TypeDesc} (ht : P.underlying t = some (.array n e)) (he : P.underlying e = some d)
    (h1 : ∀ ms, d ≠ .interface ms) (h2 : ∀ fs, d ≠ .struct fs) (h3 : ∀ n e, d ≠ .array n e) : (eqGuard op t x y (.agg xs) (.agg ys)).run P w = .ok () w := by
  have hd : ∃ m, P.depth = m + 2 := ⟨2 * (P.types.size + Made.depth), rfl⟩
  obtain ⟨m, hm⟩ := hd
  have hg : P.eqGuardType P.depth t = false := by
    rw [hm]
    simp only [Program.eqGuardType, ht, he]
    cases d <;> first | rfl | (exact absurd rfl (h1 _)) | (exact absurd rfl (h2 _)) | (exact absurd rfl (h3 _ _))
  exact run_eqGuard_agg w op t x y xs ys hg
theorem cont_run {P : Program} {S : Stab} {w : World} {L : Loc} {F : CellF} {e : ET} {l : List e.T} {o : Nat} (h : Cont P S w [.run e l] L F o) : RunR S w e l F o := by
  simp only [Cont] at h
  exact h.1 e l rfl
theorem equalIn_ptr {P : Program} {w : World} {d : Nat} {t e : TypeId} (h : P.underlying t = some (.pointer e)) (p q : Option Addr) (hpq : p = none ∨ q = none) :
    (Op.equalIn (d + 1) t (.pointer p) (.pointer q)).run P w = .ok (p.isNone && q.isNone) w := by
  rcases hpq with rfl | rfl
  · simp [Op.equalIn, underlying, h]
  · cases p <;> simp [Op.equalIn, underlying, h]
theorem equalIn_func {P : Program} {w : World} {d : Nat} {t : TypeId} {a r : Array TypeId} {va : Bool} (h : P.underlying t = some (.func a r va)) (f : Fn) (x y : Array Value) :
    (Op.equalIn (d + 1) t .nilFunc (.func f x y)).run P w = .ok false w ∧ (Op.equalIn (d + 1) t (.func f x y) .nilFunc).run P w = .ok false w ∧ (Op.equalIn (d + 1) t .nilFunc .nilFunc).run P w = .ok true w := by
  simp [Op.equalIn, underlying, h]
theorem equalIn_nil {P : Program} {w : World} {d : Nat} {t e : TypeId} (h : P.underlying t = some (.slice e)) (b : Option Addr) (n c : Nat) :
    (Op.equalIn (d + 1) t (.slice b n c) (.slice none 0 0)).run P w = .ok b.isNone w := by
  cases b <;> simp [Op.equalIn, underlying, h]
theorem equal_of {P : Program} {w : World} {t : TypeId} {u v : Value} {b : Bool} (h : (Op.equalIn (9999 + 1) t u v).run P w = .ok b w) : (Op.equal t u v).run P w = .ok b w := h
theorem run_eqV {t : TypeId} {xo yo : Operand} {x y : AV} {u v : Value} {Q : Bool → Hs → List Nat → Prop} (hx : Rel T.P S w x L u) (hy : Rel T.P S w y L v) (hp : (eqV T.P t x y).post h ids Q) :
    ∃ b, Q b h ids ∧ (do eqGuard .eql t xo yo u v; binOp .eql t u v : Sem Value).run T.P w = .ok (.bool b) w ∧
      (do eqGuard .neq t xo yo u v; binOp .neq t u v : Sem Value).run T.P w = .ok (.bool !b) w := by
  unfold eqV at hp
  split at hp
  · rename_i a b h1
    simp only [HP.post] at hp
    simp only [Rel] at hx hy
    subst hx hy
    refine ⟨a == b, hp, ?_⟩
    simp [run_eqGuard_quiet, binOp, equal_of (run_equalIn_bool' w 9999 t a b (desc_some h1 (by simp)))]
  · rename_i a b h1
    simp only [HP.post] at hp
    simp only [Rel] at hx hy
    subst hx hy
    refine ⟨a == b, hp, ?_⟩
    simp [run_eqGuard_quiet, binOp, Op.stringOp, beq_toListBytes]
  · rename_i n d e l _ e' l' _ h1
    have ht := desc_some h1 (by simp)
    simp only [Rel] at hx hy
    obtain ⟨xs, rfl, hxs, hxc⟩ := hx
    obtain ⟨ys, rfl, hys, hyc⟩ := hy
    have hxr := cont_run hxc
    have hyr := cont_run hyc
    split at hp
    · rename_i k0 k k' l l' h2 h3
      split at hp
      · rename_i hk
        have hk := of_decide_eq_true hk
        subst hk
        simp only [HP.post, decide_eq_true_eq] at hp
        obtain ⟨hl, hl', hq⟩ := hp
        have he := desc_some h2 (by simp)
        obtain ⟨i, hi, h1⟩ := szOf_some (of_decide_eq_true h3) (by simp)
        have hag := isAgg_false (P := T.P) (w := w) he (by simp) (by simp)
        have hr := run_equalIn_run (P := T.P) (w := w) (d := 9999) (f := fun n : Int => Value.int k n) l l' ht hi h1 hag hl hl'
          (fun j x hj => by have := hxr j x hj; simpa [ElR, ElR0, ET.size] using this) (fun j x hj => by have := hyr j x hj; simpa [ElR, ElR0, ET.size] using this)
          (fun x y => run_equalIn_int w 9998 d k k0 x y he)
        refine ⟨l == l', hq, ?_⟩
        have g1 := eqGuard_arr (P := T.P) (w := w) (op := .eql) (x := xo) (y := yo) (xs := xs) (ys := ys) ht he (by simp) (by simp) (by simp)
        have g2 := eqGuard_arr (P := T.P) (w := w) (op := .neq) (x := xo) (y := yo) (xs := xs) (ys := ys) ht he (by simp) (by simp) (by simp)
        simp [g1, g2, binOp, equal_of hr]
      · exact hp.elim
    · rename_i l l' h2 h3
      simp only [HP.post, decide_eq_true_eq] at hp
      obtain ⟨hl, hl', hq⟩ := hp
      have he := desc_some h2 (by simp)
      obtain ⟨i, hi, h1⟩ := szOf_some (of_decide_eq_true h3) (by simp)
      have hag := isAgg_false (P := T.P) (w := w) he (by simp) (by simp)
      have hr := run_equalIn_run (P := T.P) (w := w) (d := 9999) (f := fun b : Bool => Value.bool b) l l' ht hi h1 hag hl hl'
        (fun j x hj => by have := hxr j x hj; simpa [ElR, ElR0, ET.size] using this) (fun j x hj => by have := hyr j x hj; simpa [ElR, ElR0, ET.size] using this)
        (fun x y => run_equalIn_bool' w 9998 d x y he)
      refine ⟨l == l', hq, ?_⟩
      have g1 := eqGuard_arr (P := T.P) (w := w) (op := .eql) (x := xo) (y := yo) (xs := xs) (ys := ys) ht he (by simp) (by simp) (by simp)
      have g2 := eqGuard_arr (P := T.P) (w := w) (op := .neq) (x := xo) (y := yo) (xs := xs) (ys := ys) ht he (by simp) (by simp) (by simp)
      simp [g1, g2, binOp, equal_of hr]
    · exact hp.elim
  · rename_i e h1
    simp only [HP.post] at hp
    simp only [Rel] at hx hy
    subst hx hy
    refine ⟨true, hp, ?_⟩
    have ht := desc_some h1 (by simp)
    have E := fun p q (hpq : p = none ∨ q = none) => equal_of (equalIn_ptr (P := T.P) (w := w) (d := 9999) ht p q hpq)
    simp [run_eqGuard_quiet, binOp, E]
  · rename_i e r s i j h1
    simp only [HP.post] at hp
    simp only [Rel, PsR] at hx hy
    split at hy
    · subst hx hy
      refine ⟨false, hp, ?_⟩
      have ht := desc_some h1 (by simp)
      have E := fun p q (hpq : p = none ∨ q = none) => equal_of (equalIn_ptr (P := T.P) (w := w) (d := 9999) ht p q hpq)
      simp [run_eqGuard_quiet, binOp, E]
    · exact hy.elim
  · rename_i e r s i j h1
    simp only [HP.post] at hp
    simp only [Rel, PsR] at hx hy
    split at hx
    · subst hx hy
      refine ⟨false, hp, ?_⟩
      have ht := desc_some h1 (by simp)
      have E := fun p q (hpq : p = none ∨ q = none) => equal_of (equalIn_ptr (P := T.P) (w := w) (d := 9999) ht p q hpq)
      simp [run_eqGuard_quiet, binOp, E]
    · exact hx.elim
  · rename_i e c ty s i j h1
    simp only [HP.post] at hp
    simp only [Rel] at hx hy
    obtain ⟨b, off, rfl, _⟩ := hy
    subst hx
    refine ⟨false, hp, ?_⟩
    have ht := desc_some h1 (by simp)
    have E := fun p q (hpq : p = none ∨ q = none) => equal_of (equalIn_ptr (P := T.P) (w := w) (d := 9999) ht p q hpq)
    simp [run_eqGuard_quiet, binOp, E]
  · rename_i e c ty s i j h1
    simp only [HP.post] at hp
    simp only [Rel] at hx hy
    obtain ⟨b, off, rfl, _⟩ := hx
    subst hy
    refine ⟨false, hp, ?_⟩
    have ht := desc_some h1 (by simp)
    have E := fun p q (hpq : p = none ∨ q = none) => equal_of (equalIn_ptr (P := T.P) (w := w) (d := 9999) ht p q hpq)
    simp [run_eqGuard_quiet, binOp, E]
  · rename_i p r va f fa ca h1
    simp only [HP.post] at hp
    simp only [Rel] at hx hy
    obtain ⟨fa', ca', rfl, _⟩ := hy
    subst hx
    refine ⟨false, hp, ?_⟩
    have ht := desc_some h1 (by simp)
    have E := fun f x y => equal_of (equalIn_func (P := T.P) (w := w) (d := 9999) ht f x y).1
    simp [run_eqGuard_quiet, binOp, E]
  · rename_i p r va f fa ca h1
    simp only [HP.post] at hp
    simp only [Rel] at hx hy
    obtain ⟨fa', ca', rfl, _⟩ := hx
    subst hy
    refine ⟨false, hp, ?_⟩
    have ht := desc_some h1 (by simp)
    have E := fun f x y => equal_of (equalIn_func (P := T.P) (w := w) (d := 9999) ht f x y).2.1
    simp [run_eqGuard_quiet, binOp, E]
  · rename_i p r va h1
    simp only [HP.post] at hp
    simp only [Rel] at hx hy
    subst hx hy
    refine ⟨true, hp, ?_⟩
    have ht := desc_some h1 (by simp)
    have E := equal_of (equalIn_func (P := T.P) (w := w) (d := 9999) ht (.func 0) #[] #[]).2.2
    simp [run_eqGuard_quiet, binOp, E]
  · rename_i e h1
    simp only [HP.post] at hp
    simp only [Rel] at hx hy
    subst hx hy
    refine ⟨true, hp, ?_⟩
    have ht := desc_some h1 (by simp)
    have E := equal_of (equalIn_nil (P := T.P) (w := w) (d := 9999) ht none 0 0)
    simp [run_eqGuard_quiet, binOp, E]
  · rename_i e r s i len x1 x2 x3 h1
    simp only [HP.post, decide_eq_true_eq] at hp
    obtain ⟨hlen, hp⟩ := hp
    simp only [Rel] at hx hy
    subst hy
    refine ⟨false, hp, ?_⟩
    have ht := desc_some h1 (by simp)
    unfold OsR at hx
    split at hx
    · exact hx.elim
    · omega
    · obtain ⟨ba, cap, rfl, q1, q2, _⟩ := hx
      rw [q1 (by omega)]
      have E := fun a => equal_of (equalIn_nil (P := T.P) (w := w) (d := 9999) ht (some a) len cap)
      simp [run_eqGuard_quiet, binOp, E]
  · rename_i e q l x1 h1
    simp only [HP.post, decide_eq_true_eq] at hp
    obtain ⟨hlen, hp⟩ := hp
    simp only [Rel] at hx hy
    subst hy
    refine ⟨false, hp, ?_⟩
    have ht := desc_some h1 (by simp)
    obtain ⟨ba, cap, rfl, q1, q2, q3⟩ := hx
    obtain ⟨b, off, rfl, _⟩ := q3 (by rintro rfl; simp at hlen)
    have E := fun a => equal_of (equalIn_nil (P := T.P) (w := w) (d := 9999) ht (some a) l.length cap)
    simp [run_eqGuard_quiet, binOp, E]
  · rename_i e vs x1 h1
    simp only [HP.post, decide_eq_true_eq] at hp
    obtain ⟨hlen, hp⟩ := hp
    simp only [Rel] at hx hy
    subst hy
    refine ⟨false, hp, ?_⟩
    have ht := desc_some h1 (by simp)
    obtain ⟨_, ba, cap, rfl, q1, q2, q3⟩ := hx
    obtain ⟨b, off, rfl, _⟩ := q3 (by rintro rfl; simp at hlen)
    have E := fun a => equal_of (equalIn_nil (P := T.P) (w := w) (d := 9999) ht (some a) vs.length cap)
    simp [run_eqGuard_quiet, binOp, E]
  · exact hp.elim
theorem room_le {n b : Nat} (h : room n b = true) : n * b ≤ 70368744177664 := by
  have := Nat.le_of_ble_eq_true h
  rw [Nat.mul_succ] at this
  omega
theorem room_n {n b : Nat} (h : room n b = true) : n ≤ 70368744177664 := by
  have := Nat.le_of_ble_eq_true h
  rw [Nat.mul_succ] at this
  omega
section ops
variable {fr : Fr} {Q : AV → Hs → List Nat → Prop}
theorem intOp_post {op : BinOp} {k k' : IntKind} {m n : Int} {h : Hs} {ids : List Nat} (hp : (intOp op k m k' n).post h ids Q) : ∃ r, binV op (.int k m) (.int k' n) = some r ∧ Q (.sc r) h ids := by
  unfold intOp at hp
  split at hp
  · simp only [HP.post] at hp
    exact ⟨_, by simp only [binV, hp.1, cond_true], hp.2⟩
  · simp only [HP.post] at hp
    exact ⟨_, by simp only [binV, hp.1, cond_true], hp.2⟩
  · split at hp
    · rename_i hk
      simp only [HP.post, Bool.not_eq_true'] at hp
      exact ⟨_, by simp only [binV, hk, hp.1, cond_true, cond_false], hp.2⟩
    · exact hp.elim
  · split at hp
    · rename_i hk
      simp only [HP.post, Bool.not_eq_true'] at hp
      exact ⟨_, by simp only [binV, hk, hp.1, cond_true, cond_false], hp.2⟩
    · exact hp.elim
  · split at hp
    · rename_i r hr
      exact ⟨r, hr, hp⟩
    · exact hp.elim
theorem op_bin {op : BinOp} {t t' : TypeId} {x y : Operand} (ho : o.op = .binOp op t x y t') (hst : St T S w L h ids) (hx : Rel T.P S w (opv T fr x) L (a.eval x)) (hy : Rel T.P S w (opv T fr y) L (a.eval y))
    (hp : (evOp T o fr).post h ids Q) : Runs T o a w S L Q := by
  simp only [evOp, ho] at hp
  generalize opv T fr x = v at hx hp
  generalize opv T fr y = v' at hy hp
  unfold binA at hp
  split at hp
  · rename_i k m k' n
    obtain ⟨r, hr, hp⟩ := intOp_post hp
    simp only [Rel] at hx hy
    refine Runs.here hst hp (x := r) ?_ (by simp only [Rel])
    have := run_binInt (T := T) (w := w) (t := t) (x := x) (y := y) hr
    simp only [execOp, ho, hx, hy, Sem.run_bind] at this ⊢
    simp [this]
  · split at hp
    · rw [HP.post_bind] at hp
      obtain ⟨b, hq, h1, h2⟩ := run_eqV (xo := x) (yo := y) hx hy hp
      simp only [HP.post] at hq
      refine Runs.here hst hq (x := .bool b) ?_ (by simp only [Rel])
      simp only [execOp, ho, Sem.run_bind] at h1 ⊢
      simp [h1]
    · rw [HP.post_bind] at hp
      obtain ⟨b, hq, h1, h2⟩ := run_eqV (xo := x) (yo := y) hx hy hp
      simp only [HP.post] at hq
      refine Runs.here hst hq (x := .bool !b) ?_ (by simp only [Rel])
      simp only [execOp, ho, Sem.run_bind] at h2 ⊢
      simp [h2]
    · split at hp
      · rename_i s s' _
        simp only [HP.post] at hp
        simp only [Rel] at hx hy
        have hroom := room_le hp.1
        refine Runs.here hst hp.2 (x := .string (s ++ s')) ?_ (by simp only [Rel])
        have hn : ¬ ((9223372036854775807 : Int) < (s.size : Int) + (s'.size : Int)) := by omega
        simp [execOp, ho, hx, hy, run_eqGuard_quiet, binOp, Op.stringOp, hn]
      · exact hp.elim
    · exact hp.elim
end ops
end
end Go.Ev
namespace Go.Ev
open Go
set_option linter.unusedVariables false
set_option linter.unusedSimpArgs false
section
variable {P : Program} {S : Stab} {w : World} {L : Loc}
theorem contSize_append (c c' : List AV) : contSize (c ++ c') = contSize c + contSize c' := by
  induction c with
  | nil => simp [contSize]
  | cons v c ih => simp only [List.cons_append, contSize, ih]; omega
theorem contSize_sum (c : List AV) : contSize c = (c.map segSize).sum := by
  induction c with
  | nil => rfl
  | cons v c ih => simp only [contSize, List.map_cons, List.sum_cons, ih]
theorem cont_append {c c' : List AV} {F : CellF} : ∀ {o : Nat}, Cont P S w (c ++ c') L F o ↔ Cont P S w c L F o ∧ Cont P S w c' L F (o + contSize c) := by
  induction c with
  | nil => intro o; simp [Cont, contSize]
  | cons v c ih =>
    intro o
    simp only [List.cons_append, Cont, ih, contSize, and_assoc, Nat.add_assoc]
theorem cont_get {c : List AV} {F : CellF} {o s : Nat} {v : AV} (h : Cont P S w c L F o) (hs : c[s]? = some v) :
    (∀ e l, v = .run e l → RunR S w e l F (o + contSize (c.take s))) ∧ (single v = true → ∃ u, F (o + contSize (c.take s)) = some u ∧ Rel P S w v L u) := by
  have hlt : s < c.length := by
    rcases Nat.lt_or_ge s c.length with h | h
    · exact h
    · simp [List.getElem?_eq_none h] at hs
  have he : c = c.take s ++ v :: c.drop (s + 1) := by
    have h1 : c[s] = v := by simpa [List.getElem?_eq_getElem hlt] using hs
    rw [← h1, ← List.drop_eq_getElem_cons hlt, List.take_append_drop]
  rw [he] at h
  have := (cont_append.1 h).2
  simp only [Cont] at this
  exact ⟨this.1, this.2.1⟩
theorem slR_of_slR0 {k : IntKind} {l : List Int} {t : Bool} {u : Value} (h : SlR0 S w (.int k) l t u) : SlR S w (.int k) l t u := by
  obtain ⟨a, cap, hu, h1, h2, h3⟩ := h
  refine ⟨a, cap, hu, h1, h2, fun hn => ?_⟩
  obtain ⟨b, o, ha, hr, hs⟩ := h3 hn
  exact ⟨b, o, ha, hr, hs⟩
theorem slR0_of_slR {k : IntKind} {l : List Int} {t : Bool} {u : Value} (h : SlR S w (.int k) l t u) : SlR0 S w (.int k) l t u := by
  obtain ⟨a, cap, hu, h1, h2, h3⟩ := h
  refine ⟨a, cap, hu, h1, h2, fun hn => ?_⟩
  obtain ⟨b, o, ha, hr, hs⟩ := h3 hn
  exact ⟨b, o, ha, hr, hs⟩
theorem rel_tree {v : AV} (ht : tree v = true) {u : Value} (h : Rel P S w v L u) : ∀ L', Rel P S w v L' u := by
  intro L'
  cases v with
  | dead => simp [tree] at ht
  | sc v => simpa only [Rel] using h
  | run e l => simp only [Rel] at h
  | sl e l t => simpa only [Rel] using h
  | slg vs t => simpa only [Rel] using h
  | pt c ty s i j => simpa only [Rel] using h
  | os r s i len x y => simp [tree] at ht
  | ps r s i j => simp [tree] at ht
  | agg c l =>
    simp [tree] at ht
    subst ht
    simpa only [Rel] using h
  | fn f a b =>
    simp [tree] at ht
    obtain ⟨rfl, rfl⟩ := ht
    simp only [Rel, RelL] at h ⊢
    exact h
  | iface t v => simpa only [Rel] using h
  | tuple vs => simp [tree] at ht
theorem cont_tree {F : CellF} : ∀ {c : List AV} {o : Nat}, (∀ v ∈ c, tree v = true) → Cont P S w c L F o → ∀ L', Cont P S w c L' F o
  | [], _, _, _, _ => by simp only [Cont]
  | v :: c, o, ht, h, L' => by
    simp only [Cont] at h ⊢
    refine ⟨h.1, fun hs => ?_, cont_tree (fun x hx => ht x (by simp [hx])) h.2.2 L'⟩
    obtain ⟨u, h1, h2⟩ := h.2.1 hs
    exact ⟨u, h1, rel_tree (ht v (by simp)) h2 L'⟩
theorem post_comp {h : Hs} {ids : List Nat} {Q : AV → Hs → List Nat → Prop} {e : ET} {x : e.T} {j : Nat} {F : CellF} {o : Nat} (hx : ElR S w e x F o) (hp : (comp e x j).post h ids Q) :
    ∃ v u, Q v h ids ∧ F (o + j) = some u ∧ ∀ L, Rel P S w v L u := by
  cases e with
  | int k =>
    match j, hp with
    | 0, hp => exact ⟨_, _, hp, hx, fun _ => by simp only [elemV, Rel]⟩
    | j + 1, hp => exact hp.elim
  | bool =>
    match j, hp with
    | 0, hp => exact ⟨_, _, hp, hx, fun _ => by simp only [elemV, Rel]⟩
    | j + 1, hp => exact hp.elim
  | str =>
    match j, hp with
    | 0, hp => exact ⟨_, _, hp, hx, fun _ => by simp only [elemV, Rel]⟩
    | j + 1, hp => exact hp.elim
  | pair k =>
    match j, hp with
    | 0, hp => exact ⟨_, _, hp, hx.1, fun _ => by simp only [Rel]⟩
    | 1, hp => exact ⟨_, _, hp, hx.2, fun _ => by simp only [Rel]⟩
    | j + 2, hp => exact hp.elim
  | ilist k =>
    match j, hp with
    | 0, hp =>
      obtain ⟨u, hu, hs⟩ := hx
      exact ⟨_, u, hp, hu, fun _ => by simp only [elemV, Rel]; exact slR_of_slR0 hs⟩
    | j + 1, hp => exact hp.elim
theorem lt_of_get {α : Type} {l : List α} {i : Nat} {x : α} (h : l[i]? = some x) : i < l.length := by
  rcases Nat.lt_or_ge i l.length with h' | h'
  · exact h'
  · simp [List.getElem?_eq_none h'] at h
theorem post_getAt {h : Hs} {ids : List Nat} {Q : AV → Hs → List Nat → Prop} {c : List AV} {s i j : Nat} {F : CellF} {o : Nat} (hc : Cont P S w c L F o) (hp : (getAt c s i j).post h ids Q) :
    s < c.length ∧ ∃ v u, Q v h ids ∧ F (o + contSize (c.take s) + i * zAt c s + j) = some u ∧ Rel P S w v L u := by
  unfold getAt at hp
  split at hp
  · rename_i e l hs
    simp only [HP.post] at hp
    obtain ⟨x, hx, hp⟩ := hp
    have hr := (cont_get hc hs).1 e l rfl i x hx
    obtain ⟨v, u, hq, hu, hv⟩ := post_comp (P := P) hr hp
    refine ⟨lt_of_get hs, v, u, hq, ?_, hv L⟩
    have : zAt c s = e.size := by simp [zAt, hs]
    rw [this]; exact hu
  · rename_i v hv hs
    split at hp
    · simp only [HP.post] at hp
      have hsg : single v = true := by
        cases v <;> first | rfl | (exact absurd rfl (hv _ _)) | (exact (hv _ _ hs).elim) | (exact (hv _ _ rfl).elim)
      obtain ⟨u, h1, h2⟩ := (cont_get hc hs).2 hsg
      exact ⟨lt_of_get hs, v, u, hp, by simpa using h1, h2⟩
    · exact hp.elim
  · exact hp.elim
theorem cellsAt_row {b : Nat} {arr : Array Value} {t : TypeId} {fr : Nat × Nat} (hb : w.heap[b]? = some (.cells arr t fr)) : cellsAt w b = fun i => arr[i]? := by
  funext i
  exact cell_of_row w b i arr t fr hb
theorem cont_cells {F : CellF} : ∀ {c : List AV} {o : Nat}, Cont P S w c L F o → ∀ i, i < contSize c → ∃ u, F (o + i) = some u
  | [], o, _, i, hi => by simp [contSize] at hi
  | v :: c, o, h, i, hi => by
    simp only [Cont] at h
    by_cases hlt : i < segSize v
    · by_cases hs : single v = true
      · have := segSize_single hs
        obtain ⟨u, hu, _⟩ := h.2.1 hs
        have : i = 0 := by omega
        subst this
        exact ⟨u, by simpa using hu⟩
      · have : ∃ e l, v = .run e l := by cases v <;> first | (exact ⟨_, _, rfl⟩) | (exact absurd rfl hs)
        obtain ⟨e, l, rfl⟩ := this
        have hr := h.1 e l rfl
        simp only [segSize] at hlt
        have hz : 0 < e.size := by cases e <;> simp [ET.size]
        have hq : i / e.size < l.length := (Nat.div_lt_iff_lt_mul hz).2 hlt
        have hx := hr (i / e.size) l[i / e.size] (List.getElem?_eq_getElem hq)
        have hd := Nat.div_add_mod i e.size
        have hm := Nat.mod_lt i hz
        have hcomm : i / e.size * e.size = e.size * (i / e.size) := Nat.mul_comm _ _
        cases e with
        | int k => simp only [ElR, ElR0, ET.size, Nat.div_one, Nat.mul_one] at hx; exact ⟨_, hx⟩
        | bool => simp only [ElR, ElR0, ET.size, Nat.div_one, Nat.mul_one] at hx; exact ⟨_, hx⟩
        | str => simp only [ElR, ElR0, ET.size, Nat.div_one, Nat.mul_one] at hx; exact ⟨_, hx⟩
        | ilist k => simp only [ElR, ET.size, Nat.div_one, Nat.mul_one] at hx; obtain ⟨u, hu, _⟩ := hx; exact ⟨u, hu⟩
        | pair k =>
          simp only [ElR, ElR0, ET.size] at hx hd hm hcomm
          rcases (by omega : i % 2 = 0 ∨ i % 2 = 1) with h2 | h2
          · exact ⟨_, by rw [show o + i = o + i / 2 * 2 by omega]; exact hx.1⟩
          · exact ⟨_, by rw [show o + i = o + i / 2 * 2 + 1 by omega]; exact hx.2⟩
    · obtain ⟨u, hu⟩ := cont_cells h.2.2 (i - segSize v) (by simp only [contSize] at hi; omega)
      exact ⟨u, by rw [← hu]; congr 1; omega⟩
theorem run_loadCells_at {b o n : Nat} (hf : ∀ i, i < n → ∃ u, cellsAt w b (o + i) = some u) :
    ∃ arr : Array Value, (loadCells ⟨b, o, none⟩ n).run P w = .ok arr w ∧ arr.size = n ∧ ∀ i, i < n → arr[i]? = cellsAt w b (o + i) := by
  let cs : List Value := (List.range n).map fun i => (cellsAt w b (o + i)).getD undef
  have hlen : cs.length = n := by simp [cs]
  have hget : ∀ i, i < n → cs[i]? = cellsAt w b (o + i) := by
    intro i hi
    obtain ⟨u, hu⟩ := hf i hi
    simp [cs, hi, hu]
  refine ⟨cs.toArray, ?_, by simp [hlen], fun i hi => by simpa using hget i hi⟩
  have := run_loadCells_list (P := P) w ⟨b, o, none⟩ cs (fun j v hj => by
    have hj' : j < n := by
      rcases Nat.lt_or_ge j n with h | h
      · exact h
      · rw [List.getElem?_eq_none (by omega)] at hj; cases hj
    rw [hget j hj'] at hj
    simp only [cellsAt] at hj
    by_cases h0 : j = 0
    · subst h0; simpa [Addr.add] using hj
    · simpa [Addr.add, h0] using hj)
  rwa [hlen] at this
theorem cont_take_drop {c : List AV} {F : CellF} {o s n : Nat} (h : Cont P S w c L F o) : Cont P S w ((c.drop s).take n) L F (o + contSize (c.take s)) := by
  have h1 : Cont P S w (c.take s ++ c.drop s) L F o := by rw [List.take_append_drop]; exact h
  have h2 := (cont_append.1 h1).2
  have h3 : Cont P S w ((c.drop s).take n ++ (c.drop s).drop n) L F (o + contSize (c.take s)) := by rw [List.take_append_drop]; exact h2
  exact (cont_append.1 h3).1
theorem cont_copy {c : List AV} {F : CellF} {o n : Nat} {arr : Array Value} (h : Cont P S w c L F o) (hn : contSize c = n) (ha : ∀ i, i < n → arr[i]? = F (o + i)) :
    Cont P S w c L (fun i => arr[i]?) 0 := by
  have h' : Cont P S w c L (fun i => F (o + i)) 0 := by
    have := cont_shift h
    exact this
  exact h'.mono (fun _ _ h => h) (fun _ _ _ => rfl) c (Loc.le_refl _) (fun i hi => by simpa using ha i (by omega))
where
  cont_shift {c : List AV} {F : CellF} {o : Nat} (h : Cont P S w c L F o) : Cont P S w c L (fun i => F (o + i)) 0 := by
    have go : ∀ (c : List AV) (k : Nat), Cont P S w c L F (o + k) → Cont P S w c L (fun i => F (o + i)) k := by
      intro c
      induction c with
      | nil => intro k _; simp only [Cont]
      | cons v c ih =>
        intro k hk
        simp only [Cont] at hk ⊢
        refine ⟨fun e l hv i x hx => ?_, hk.2.1, ih _ (by rw [← Nat.add_assoc]; exact hk.2.2)⟩
        have := hk.1 e l hv i x hx
        have e2 : o + k + i * e.size = o + (k + i * e.size) := by omega
        rw [e2] at this
        cases e <;> simpa only [ElR, ElR0, Nat.add_assoc] using this
    exact go c 0 h
theorem isAggT_run {t : TypeId} {b : Bool} (h : isAggT P t = some b) : (isAgg t).run P w = .ok b w ∧ ∃ i, P.info? t = some i ∧ i.size = szOf P t := by
  unfold isAggT at h
  cases hu : P.underlying t with
  | none => rw [hu] at h; cases h
  | some d =>
    rw [hu] at h
    have hi : ∃ i, P.info? t = some i := by
      unfold Program.underlying at hu
      cases hi : P.info? t with
      | none => rw [hi] at hu; cases hu
      | some i => exact ⟨i, rfl⟩
    obtain ⟨i, hi⟩ := hi
    refine ⟨?_, i, hi, by simp [szOf, Program.cellsOf, hi]⟩
    cases d <;> simp at h <;> subst h <;> simp [isAgg, underlying, hu]
theorem run_loadVar_one {t : TypeId} {b o : Nat} {u : Value} (h : isAggT P t = some false) (hc : cellsAt w b o = some u) : (loadVar t ⟨b, o, none⟩).run P w = .ok u w := by
  simp only [cellsAt] at hc
  simp [loadVar, (isAggT_run (w := w) h).1, hc]
theorem run_loadVar_agg {t : TypeId} {b o : Nat} (h : isAggT P t = some true) (hc : ∀ i, i < szOf P t → ∃ u, cellsAt w b (o + i) = some u) :
    ∃ arr : Array Value, (loadVar t ⟨b, o, none⟩).run P w = .ok (.agg arr) w ∧ arr.size = szOf P t ∧ ∀ i, i < szOf P t → arr[i]? = cellsAt w b (o + i) := by
  obtain ⟨arr, h1, h2, h3⟩ := run_loadCells_at (P := P) hc
  obtain ⟨ha, i, hi, hs⟩ := isAggT_run (w := w) h
  refine ⟨arr, ?_, h2, h3⟩
  rw [← hs] at h1
  simp [loadVar, ha, run_sizeOf hi, h1]
theorem take_drop_sizes {c : List AV} {us ts : List Nat} {s : Nat} (h : c.map segSize = us) (h2 : ts = (us.drop s).take ts.length) : ((c.drop s).take ts.length).map segSize = ts := by
  rw [List.map_take, List.map_drop, h]
  exact h2.symm
theorem runR_part {e : ET} {l : List e.T} {F : CellF} {o i n : Nat} (he : e.size = 1) (h : RunR S w e l F o) : RunR S w e ((l.drop i).take n) F (o + i) := by
  intro k x hk
  have : l[i + k]? = some x := by
    rw [List.getElem?_take] at hk
    split at hk
    · rwa [List.getElem?_drop] at hk
    · cases hk
  have := h (i + k) x this
  rw [he] at this ⊢
  rwa [show o + (i + k) * 1 = o + i + k * 1 by omega] at this
theorem cont_of_run {e : ET} {l : List e.T} {F : CellF} {o : Nat} (h : RunR S w e l F o) : Cont P S w [.run e l] L F o := by
  simp only [Cont, and_true]
  refine ⟨fun e' l' hv => ?_, fun hs => by simp [single] at hs⟩
  injection hv with h1 h2
  subst h1
  rw [eq_of_heq h2] at h
  exact h
theorem post_loadC {t : TypeId} {h : Hs} {ids : List Nat} {Q : AV → Hs → List Nat → Prop} {c : List AV} {ty : Option TypeId} {loose : Bool} {s i j b o : Nat}
    (hc : Cont P S w c (lOf loose L) (cellsAt w b) o) (hty : ∀ u, ty = some u → c.map segSize = segSizes P u) (hp : (loadC P t c ty loose s i j).post h ids Q) :
    s < c.length ∧ ∃ v u, Q v h ids ∧ (loadVar t ⟨b, o + contSize (c.take s) + i * zAt c s + j, none⟩).run P w = .ok u w ∧ Rel P S w v L u := by
  have hlo : (lOf loose L).le L := by
    cases loose
    · exact noLoc_le L
    · exact Loc.le_refl L
  unfold loadC at hp
  split at hp
  · exact hp.elim
  · rename_i hag
    obtain ⟨hsl, v, u, hq, hu, hv⟩ := post_getAt hc hp
    exact ⟨hsl, v, u, hq, run_loadVar_one hag hu, hv.mono (fun _ _ h => h) (fun _ _ _ => rfl) _ hlo⟩
  · rename_i hag
    split at hp
    · rename_i hw
      split at hp
      · rename_i i0 j0
        unfold wholeT at hw
        split at hw
        · rename_i u
          simp only [Bool.and_eq_true, decide_eq_true_eq] at hw
          obtain ⟨⟨hw1, hw2⟩, hw3⟩ := hw
          have hsl : s < c.length := by
            have h1 := congrArg List.length (hty u rfl)
            have h2 := Nat.le_of_ble_eq_true hw3
            simp at h1; omega
          have hsz := take_drop_sizes (hty u rfl) hw1
          have hcs : contSize ((c.drop s).take (segSizes P t).length) = szOf P t := by rw [contSize_sum, hsz, hw2]
          have hsub := cont_take_drop (n := (segSizes P t).length) (s := s) hc
          obtain ⟨arr, h1, h2, h3⟩ := run_loadVar_agg (o := o + contSize (c.take s)) (b := b) (w := w) hag (fun k hk => cont_cells hsub k (by omega))
          refine ⟨hsl, _, .agg arr, hp, by simpa using h1, ?_⟩
          simp only [Rel]
          refine ⟨arr, rfl, by rw [h2, hcs], ?_⟩
          have hcp := cont_copy hsub hcs h3
          cases loose with
          | false => exact hcp
          | true =>
            simp only []
            cases ha : ((c.drop s).take (segSizes P t).length).any fun v => !tree v with
            | true => exact hcp
            | false =>
              refine cont_tree (fun v hv => ?_) hcp _
              have := List.any_eq_false.1 ha v hv
              simpa using this
        · cases hw
      · exact hp.elim
    · split at hp
      · rename_i e l hs
        have hr := (cont_get hc hs).1 e l rfl
        have hz : zAt c s = e.size := by simp [zAt, hs]
        split at hp
        · rename_i k l
          split at hp
          · rename_i hd
            simp only [HP.post] at hp
            obtain ⟨p, hpair, hq⟩ := hp
            have hd := of_decide_eq_true hd
            have hx : ElR0 (.pair k) p (cellsAt w b) (o + contSize (c.take s) + i * 2) := hr i p hpair
            simp only [ElR0] at hx
            rw [hz]
            obtain ⟨arr, h1, h2, h3⟩ := run_loadVar_agg (o := o + contSize (c.take s) + i * 2) (b := b) (w := w) hag (fun q hq => by
              rw [hd] at hq
              rcases (by omega : q = 0 ∨ q = 1) with rfl | rfl
              · exact ⟨_, hx.1⟩
              · exact ⟨_, hx.2⟩)
            refine ⟨lt_of_get hs, _, .agg arr, hq, by simpa [ET.size] using h1, ?_⟩
            simp only [Rel]
            refine ⟨arr, rfl, by rw [h2, hd]; rfl, cont_of_run fun q x hq => ?_⟩
            have g0 : arr[0]? = cellsAt w b (o + contSize (c.take s) + i * 2) := h3 0 (by omega)
            have g1 := h3 1 (by omega)
            match q, hq with
            | 0, hq => simp at hq; subst hq; simp only [ElR, ElR0, ET.size]; rw [hx.1] at g0; simpa using g0
            | 1, hq => simp at hq; subst hq; simp only [ElR, ElR0, ET.size]; rw [hx.2] at g1; simpa using g1
            | q + 2, hq => simp at hq
          · exact hp.elim
        · exact hp.elim
        · rename_i l0 hne1 hne2
          split at hp
          · simp only [HP.post, decide_eq_true_eq] at hp
            obtain ⟨hle, hq⟩ := hp
            have he1 : e.size = 1 := by cases e with
              | pair k => exact (hne1 k l rfl HEq.rfl).elim
              | int k => rfl
              | bool => rfl
              | str => rfl
              | ilist k => rfl
            have hrp := runR_part (n := szOf P t) (i := i) he1 hr
            have hlen : ((l.drop i).take (szOf P t)).length = szOf P t := by simp; omega
            have hcc : Cont P S w [.run e ((l.drop i).take (szOf P t))] noLoc (cellsAt w b) (o + contSize (c.take s) + i) := cont_of_run hrp
            have hcs : contSize [.run e ((l.drop i).take (szOf P t))] = szOf P t := by simp only [contSize, segSize, hlen, he1]; omega
            obtain ⟨arr, h1, h2, h3⟩ := run_loadVar_agg (o := o + contSize (c.take s) + i) (b := b) (w := w) hag (fun q hq => cont_cells hcc q (by omega))
            refine ⟨lt_of_get hs, _, .agg arr, hq, by rw [hz, he1]; simpa using h1, ?_⟩
            simp only [Rel]
            exact ⟨arr, rfl, by rw [h2, hcs], cont_copy hcc hcs h3⟩
          · exact hp.elim
      · exact hp.elim
end
end Go.Ev
namespace Go.Ev
open Go
set_option linter.unusedVariables false
set_option linter.unusedSimpArgs false
section
variable {T : Tab} {S : Stab} {w : World} {L : Loc} {h : Hs} {ids : List Nat} {a : Act} {o : Oper} {fr : Fr} {Q : AV → Hs → List Nat → Prop}
theorem St.row {r : Nat} {row : Row} {p : Place} (hst : St T S w L h ids) (hr : h r = some row) (hl : L r = some (some p)) : RowOK T.P S w L row p := by
  rcases hst.inv.rows r row hr with ⟨h1, _⟩ | ⟨p', h1, h2⟩
  · rw [hl] at h1; cases h1
  · rw [hl] at h1; cases h1; exact h2
theorem rowTy_sizes {row : Row} {p : Place} (hok : RowOK T.P S w L row p) : ∀ u, rowTy row = some u → row.c.map segSize = segSizes T.P u := by
  intro u hu
  unfold rowTy at hu
  cases hv : row.vr with
  | true => rw [hv] at hu; injection hu with hu; subst hu; exact hok.vr hv
  | false => rw [hv] at hu; cases hu
theorem psR_some {r s i j : Nat} {u : Value} (hv : PsR L r s i j u) : ∃ p, L r = some (some p) ∧ u = .pointer (some ⟨p.b, p.lay s + i * p.z + j, none⟩) := by
  unfold PsR at hv
  split at hv
  · rename_i p hp
    exact ⟨p, hp, hv⟩
  · exact hv.elim
theorem RowOK.off {row : Row} {p : Place} (hok : RowOK T.P S w L row p) {s i j : Nat} (hs : s < row.c.length) :
    p.lay s + i * p.z + j = 0 + contSize (row.c.take s) + i * zAt row.c s + j := by
  rw [hok.lay s (Nat.le_of_lt hs), hok.zz s hs]; omega
theorem op_load {t : TypeId} {x : Operand} (ho : o.op = .load t x) (hst : St T S w L h ids) (hx : Rel T.P S w (opv T fr x) L (a.eval x))
    (hp : (evOp T o fr).post h ids Q) : Runs T o a w S L Q := by
  simp only [evOp, ho, load] at hp
  generalize opv T fr x = v at hx hp
  split at hp
  · rename_i c ty s i j
    simp only [Rel] at hx
    obtain ⟨b, off, hu, hc, hs, hty⟩ := hx
    have hc' : Cont T.P S w c (lOf false L) (cellsAt w b) off := hc
    obtain ⟨hsl, v, u, hq, hr, hv⟩ := post_loadC hc' hty hp
    refine Runs.here hst hq (x := u) ?_ hv
    simp [execOp, ho, hu, Instr.loadAt, Instr.sureAddr, hr]
  · rename_i r s i j
    simp only [HP.post] at hp
    obtain ⟨row, hrow, hp⟩ := hp
    simp only [Rel] at hx
    obtain ⟨p, hl, hu⟩ := psR_some hx
    have hok := hst.row hrow hl
    obtain ⟨arr, bt, hb, hsz, hc⟩ := hok.blk
    rw [← cellsAt_row hb] at hc
    obtain ⟨hsl, v, u, hq, hr, hv⟩ := post_loadC hc (rowTy_sizes hok) hp
    refine Runs.here hst hq (x := u) ?_ hv
    rw [← hok.off hsl] at hr
    simp [execOp, ho, hu, Instr.loadAt, Instr.sureAddr, hr]
  · exact hp.elim
theorem ixB_post {v : AV} {n : Nat} {k : Nat → HP AV} {u : Value} (hv : Rel T.P S w v L u) (hp : (ixB v n k).post h ids Q) :
    ∃ q : IntKind, ∃ i : Int, u = .int q i ∧ 0 ≤ i ∧ i < (n : Int) ∧ (k i.toNat).post h ids Q := by
  unfold ixB at hp
  split at hp
  · rename_i q i
    simp only [HP.post, decide_eq_true_eq] at hp
    simp only [Rel] at hv
    exact ⟨q, i, hv, hp.1, hp.2.1, hp.2.2⟩
  · exact hp.elim
theorem addr_add (b o n : Nat) : (⟨b, o, none⟩ : Addr).add n = ⟨b, o + n, none⟩ := by
  unfold Addr.add
  by_cases h0 : n = 0 <;> simp [h0]
theorem contSize_take_single {c : List AV} {n : Nat} (hc : ∀ v ∈ c, single v = true) (hn : n ≤ c.length) : contSize (c.take n) = n := by
  rw [contSize_single (fun v hv => hc v (List.mem_of_mem_take hv)), List.length_take]; omega
theorem zAt_single {c : List AV} {s : Nat} (hc : ∀ v ∈ c, single v = true) : zAt c s = 1 := by
  unfold zAt
  split
  · rename_i e l hs
    have := hc _ (List.mem_of_getElem? hs)
    simp [single] at this
  · rfl
theorem post_stepIn {e : TypeId} {c : List AV} {s i : Nat} {slice : Bool} {x : Nat} {k : Nat → Nat → Nat → HP AV} (hp : (stepIn T.P e c s i slice x k).post h ids Q) :
    s < c.length ∧ 0 < szOf T.P e ∧ (slice = true → szOf T.P e = zAt c s) ∧ ∃ s' i' j', (k s' i' j').post h ids Q ∧ s' < c.length ∧
      contSize (c.take s') + i' * zAt c s' + j' = contSize (c.take s) + i * zAt c s + x * szOf T.P e := by
  unfold stepIn at hp
  split at hp
  · rename_i q l hs
    have hsl := lt_of_get hs
    have hz : zAt c s = q.size := by simp [zAt, hs]
    split at hp
    · rename_i kk l
      simp only [ET.size] at hz
      split at hp
      · split at hp
        · rename_i hd
          have hd := of_decide_eq_true hd
          exact ⟨hsl, by omega, fun _ => by omega, s, x + i, 0, hp, hsl, by rw [hz, hd, Nat.add_mul]; omega⟩
        · exact hp.elim
      · split at hp
        · rename_i hd
          have hd := of_decide_eq_true hd
          exact ⟨hsl, by omega, fun h => by simp at h, s, i, x, hp, hsl, by rw [hz, hd]; omega⟩
        · exact hp.elim
    · rename_i hne
      have hz1 : zAt c s = 1 := by
        rw [hz]
        cases q with
        | pair k => exact (hne k l rfl HEq.rfl).elim
        | int k => rfl
        | bool => rfl
        | str => rfl
        | ilist k => rfl
      split at hp
      · rename_i h1
        exact ⟨hsl, by omega, fun _ => by omega, s, x + i, 0, hp, hsl, by rw [hz1, h1]; omega⟩
      · rename_i m h1
        split at hp
        · rename_i hm
          simp at hm
          exact ⟨hsl, by omega, fun h => by simp [hm.1] at h, s, x * szOf T.P e + i, 0, hp, hsl, by rw [hz1]; omega⟩
        · exact hp.elim
  · rename_i v hne hs
    split at hp
    · rename_i hc
      simp only [Bool.and_eq_true, decide_eq_true_eq, List.all_eq_true] at hc
      simp only [HP.post, decide_eq_true_eq] at hp
      obtain ⟨hall, hsz⟩ := hc
      have hz := fun n => zAt_single (s := n) hall
      refine ⟨lt_of_get hs, by omega, fun _ => by rw [hz]; exact hsz, x + s, 0, 0, hp.2, hp.1, ?_⟩
      rw [contSize_take_single hall (by omega), contSize_take_single hall (by have := lt_of_get hs; omega), hz, hz, hsz]
      omega
    · exact hp.elim
  · exact hp.elim
theorem info_of_sz {e : TypeId} (h0 : 0 < szOf T.P e) : ∃ i, T.P.info? e = some i ∧ i.size = szOf T.P e := szOf_some rfl (by omega)
theorem op_indexAddr {t : TypeId} {x ix : Operand} (ho : o.op = .indexAddr t x ix) (hst : St T S w L h ids) (hx : Rel T.P S w (opv T fr x) L (a.eval x)) (hi : Rel T.P S w (opv T fr ix) L (a.eval ix))
    (hp : (evOp T o fr).post h ids Q) : Runs T o a w S L Q := by
  simp only [evOp, ho, indexAddr] at hp
  generalize opv T fr x = v at hx hp
  generalize opv T fr ix = vi at hi hp
  split at hp
  · rename_i e hd
    have hd := desc_some hd (by simp)
    split at hp
    · rename_i r s i len x1 x2 x3
      obtain ⟨q, n, hn, h0, h1, hp⟩ := ixB_post hi hp
      simp only [HP.post] at hp
      obtain ⟨row, hrow, hp⟩ := hp
      obtain ⟨hsl, hsz, hzz, s', i', j', hp, hs', hoff⟩ := post_stepIn hp
      simp only [HP.post] at hp
      simp only [Rel, OsR] at hx
      split at hx
      · exact hx.elim
      · omega
      · rename_i p hl
        obtain ⟨b, cap, hu, hb, hle, _⟩ := hx
        have hok := hst.row hrow hl
        have hb' := hb (by omega)
        obtain ⟨ti, hti, htz⟩ := info_of_sz hsz
        refine Runs.here hst hp (x := .pointer (some ⟨p.b, p.lay s' + i' * p.z + j', none⟩)) ?_ (by simp only [Rel, PsR, hl])
        have e1 := hok.lay s (Nat.le_of_lt hsl)
        have e2 := hok.lay s' (Nat.le_of_lt hs')
        have e3 := hok.zz s hsl
        have e4 := hok.zz s' hs'
        have heq : p.lay s' + i' * p.z + j' = p.lay s + i * p.z + n.toNat * szOf T.P e := by
          rw [e3] at hoff
          rw [e4] at hoff
          omega
        simp [execOp, ho, hu, hn, hb', Instr.indexAt, asIntOf, underlying, hd, h0, h1, run_sizeOf hti, htz, addr_add, heq]
    · rename_i k l t'
      obtain ⟨q, n, hn, h0, h1, hp⟩ := ixB_post hi hp
      split at hp
      · rename_i hsz
        have hsz := of_decide_eq_true hsz
        simp only [HP.post] at hp
        simp only [Rel] at hx
        obtain ⟨b, cap, hu, hle, _, hl⟩ := hx
        have hne : l ≠ [] := by rintro rfl; simp at h1; omega
        obtain ⟨bb, off, rfl, hr, hs⟩ := hl hne
        have hpos : 0 < k.size := by cases k <;> simp [ET.size]
        obtain ⟨ti, hti, htz⟩ := info_of_sz (T := T) (e := e) (by omega)
        refine Runs.here hst hp (x := .pointer (some ⟨bb, off + n.toNat * k.size, none⟩)) ?_ ?_
        · simp [execOp, ho, hu, hn, Instr.indexAt, asIntOf, underlying, hd, h0, h1, run_sizeOf hti, htz, addr_add, hsz]
        · simp only [Rel]
          refine ⟨bb, off, by simp [contSize, zAt], cont_of_run hr, by simpa [contSize, segSize] using hs, by simp⟩
      · exact hp.elim
    · rename_i vs t'
      obtain ⟨q, n, hn, h0, h1, hp⟩ := ixB_post hi hp
      split at hp
      · rename_i hsz
        have hsz := of_decide_eq_true hsz
        simp only [HP.post] at hp
        simp only [Rel] at hx
        obtain ⟨hsg, b, cap, hu, hle, _, hl⟩ := hx
        have hne : vs ≠ [] := by rintro rfl; simp at h1; omega
        obtain ⟨bb, off, rfl, hr, hs⟩ := hl hne
        obtain ⟨ti, hti, htz⟩ := info_of_sz (T := T) (e := e) (by omega)
        have hnl : n.toNat ≤ vs.length := by omega
        refine Runs.here hst hp (x := .pointer (some ⟨bb, off + n.toNat, none⟩)) ?_ ?_
        · simp [execOp, ho, hu, hn, Instr.indexAt, asIntOf, underlying, hd, h0, h1, run_sizeOf hti, htz, addr_add, hsz]
        · simp only [Rel]
          refine ⟨bb, off, by rw [contSize_take_single hsg hnl]; simp, hr, by rw [contSize_single hsg]; exact hs, by simp⟩
      · exact hp.elim
    · exact hp.elim
  · rename_i m e hd
    have hd := desc_some hd (by simp)
    split at hp
    · rename_i r s i j
      split at hp
      · rename_i hnest
        obtain ⟨q, n, hn, h0, h1, hp⟩ := ixB_post hi hp
        simp only [Rel] at hx
        obtain ⟨p, hl, hu⟩ := psR_some hx
        split at hp
        · split at hp
          · rename_i hpos
            have hpos : 0 < szOf T.P e := by simpa [Nat.blt_eq] using hpos
            simp only [HP.post] at hp
            obtain ⟨ti, hti, htz⟩ := info_of_sz hpos
            refine Runs.here hst hp (x := .pointer (some ⟨p.b, p.lay s + i * p.z + (n.toNat * szOf T.P e + j), none⟩)) ?_ (by simp only [Rel, PsR, hl])
            have heq : p.lay s + i * p.z + (n.toNat * szOf T.P e + j) = p.lay s + i * p.z + j + n.toNat * szOf T.P e := by omega
            simp [execOp, ho, hu, hn, Instr.indexAt, Instr.sureAddr, asIntOf, underlying, hd, h0, h1, run_sizeOf hti, htz, addr_add, heq]
          · exact hp.elim
        · simp only [HP.post] at hp
          obtain ⟨row, hrow, hp⟩ := hp
          split at hp
          · rename_i qq ll hq
            split at hp
            · rename_i hz
              rw [Bool.and_eq_true, decide_eq_true_eq, decide_eq_true_eq] at hz
              simp only [HP.post] at hp
              have hok := hst.row hrow hl
              have hsl : s < row.c.length := by
                rcases Nat.lt_or_ge s row.c.length with h | h
                · exact h
                · rw [List.getElem?_eq_none h] at hq; cases hq
              have e3 := hok.zz s hsl
              unfold zAt at e3
              rw [hq] at e3
              simp only at e3
              obtain ⟨ti, hti, htz⟩ := info_of_sz (T := T) (e := e) (by omega)
              refine Runs.here hst hp (x := .pointer (some ⟨p.b, p.lay s + (n.toNat + (j + i)) * p.z + 0, none⟩)) ?_ (by simp only [Rel, PsR, hl])
              have heq : p.lay s + (n.toNat + (j + i)) * p.z + 0 = p.lay s + i * p.z + j + n.toNat * szOf T.P e := by
                rw [← e3, hz.1, hz.2]; omega
              simp [execOp, ho, hu, hn, Instr.indexAt, Instr.sureAddr, asIntOf, underlying, hd, h0, h1, run_sizeOf hti, htz, addr_add, heq]
            · exact hp.elim
          · split at hp
            · obtain ⟨hsl, hsz, hzz, s', i', j', hp, hs', hoff⟩ := post_stepIn hp
              simp only [HP.post] at hp
              have hok := hst.row hrow hl
              obtain ⟨ti, hti, htz⟩ := info_of_sz hsz
              refine Runs.here hst hp (x := .pointer (some ⟨p.b, p.lay s' + i' * p.z + j', none⟩)) ?_ (by simp only [Rel, PsR, hl])
              have e1 := hok.lay s (Nat.le_of_lt hsl)
              have e2 := hok.lay s' (Nat.le_of_lt hs')
              have e3 := hok.zz s hsl
              have e4 := hok.zz s' hs'
              have heq : p.lay s' + i' * p.z + j' = p.lay s + i * p.z + 0 + n.toNat * szOf T.P e := by
                rw [e3] at hoff
                rw [e4] at hoff
                omega
              simp [execOp, ho, hu, hn, Instr.indexAt, Instr.sureAddr, asIntOf, underlying, hd, h0, h1, run_sizeOf hti, htz, addr_add, heq]
            · exact hp.elim
      · split at hp
        · rename_i hnest
          obtain ⟨q, n, hn, h0, h1, hp⟩ := ixB_post hi hp
          simp only [HP.post] at hp
          obtain ⟨row, hrow, hp⟩ := hp
          obtain ⟨hsl, hsz, hzz, s', i', j', hp, hs', hoff⟩ := post_stepIn hp
          simp only [HP.post] at hp
          simp only [Rel] at hx
          obtain ⟨p, hl, hu⟩ := psR_some hx
          have hok := hst.row hrow hl
          obtain ⟨ti, hti, htz⟩ := info_of_sz hsz
          refine Runs.here hst hp (x := .pointer (some ⟨p.b, p.lay s' + i' * p.z + j', none⟩)) ?_ (by simp only [Rel, PsR, hl])
          have e1 := hok.lay s (Nat.le_of_lt hsl)
          have e2 := hok.lay s' (Nat.le_of_lt hs')
          have e3 := hok.zz s hsl
          have e4 := hok.zz s' hs'
          have heq : p.lay s' + i' * p.z + j' = p.lay s + i * p.z + 0 + n.toNat * szOf T.P e := by
            rw [e3] at hoff
            rw [e4] at hoff
            omega
          simp [execOp, ho, hu, hn, Instr.indexAt, Instr.sureAddr, asIntOf, underlying, hd, h0, h1, run_sizeOf hti, htz, addr_add, heq]
        · exact hp.elim
    · rename_i c ty s i
      obtain ⟨q, n, hn, h0, h1, hp⟩ := ixB_post hi hp
      obtain ⟨hsl, hsz, hzz, s', i', j', hp, hs', hoff⟩ := post_stepIn hp
      simp only [HP.post] at hp
      simp only [Rel] at hx
      obtain ⟨b, off, hu, hc, hs, hty⟩ := hx
      obtain ⟨ti, hti, htz⟩ := info_of_sz hsz
      refine Runs.here hst hp (x := .pointer (some ⟨b, off + contSize (c.take s') + i' * zAt c s' + j', none⟩)) ?_ ?_
      · have heq : off + contSize (c.take s') + i' * zAt c s' + j' = off + contSize (c.take s) + i * zAt c s + 0 + n.toNat * szOf T.P e := by omega
        simp [execOp, ho, hu, hn, Instr.indexAt, Instr.sureAddr, asIntOf, underlying, hd, h0, h1, run_sizeOf hti, htz, addr_add, heq]
      · simp only [Rel]
        exact ⟨b, off, rfl, hc, hs, hty⟩
    · exact hp.elim
  · exact hp.elim
end
end Go.Ev
namespace Go.Ev
open Go
set_option linter.unusedVariables false
set_option linter.unusedSimpArgs false
section
variable {T : Tab} {S : Stab} {w : World} {L : Loc} {h : Hs} {ids : List Nat} {a : Act} {o : Oper} {fr : Fr} {Q : AV → Hs → List Nat → Prop}
theorem seg_off {c : List AV} {us ts : List Nat} {s k : Nat} (hc : c.map segSize = us) (ht : ts = (us.drop s).take ts.length) (hk : k < ts.length) :
    k + s < c.length ∧ contSize (c.take (k + s)) = contSize (c.take s) + (ts.take k).sum := by
  have hl : ts.length ≤ us.length - s := by
    have := congrArg List.length ht
    simp at this; omega
  have hcl : c.length = us.length := by rw [← hc]; simp
  refine ⟨by omega, ?_⟩
  rw [Nat.add_comm k s, List.take_add, contSize_append]
  congr 1
  rw [contSize_sum, List.map_take, List.map_drop, hc]
  congr 1
  rw [ht, List.take_take]
  congr 1
  omega
theorem op_fieldAddr {t : TypeId} {x : Operand} {f : Nat} (ho : o.op = .fieldAddr t x f) (hst : St T S w L h ids) (hx : Rel T.P S w (opv T fr x) L (a.eval x))
    (hp : (evOp T o fr).post h ids Q) : Runs T o a w S L Q := by
  simp only [evOp, ho, fieldAddr] at hp
  generalize opv T fr x = v at hx hp
  split at hp
  · rename_i fs hd
    have hd := desc_some hd (by simp)
    split at hp
    · rename_i g hg
      split at hp
      · rename_i hchk
        simp only [Bool.and_eq_true, decide_eq_true_eq] at hchk
        obtain ⟨⟨hoff, hk⟩, hsz⟩ := hchk
        have hk : fieldSeg T.P fs.toList f < (segSizes T.P t).length := Nat.le_of_ble_eq_true hk
        have hsz : 0 < szOf T.P g.type := Nat.le_of_ble_eq_true hsz
        obtain ⟨ti, hti, htz⟩ := info_of_sz hsz
        have hg' : fs[f]? = some g := by simpa using hg
        have hne : ¬ ti.size = 0 := by omega
        split at hp
        · rename_i r s
          simp only [HP.post] at hp
          obtain ⟨row, hrow, hp⟩ := hp
          split at hp
          · rename_i hw
            simp only [HP.post] at hp
            simp only [Rel] at hx
            obtain ⟨p, hl, hu⟩ := psR_some hx
            have hok := hst.row hrow hl
            unfold wholeT at hw
            split at hw
            · rename_i u hu'
              simp only [Bool.and_eq_true, decide_eq_true_eq] at hw
              obtain ⟨h1, h2⟩ := seg_off (rowTy_sizes hok u hu') hw.1.1 hk
              refine Runs.here hst hp (x := .pointer (some ⟨p.b, p.lay (fieldSeg T.P fs.toList f + s) + 0 * p.z + 0, none⟩)) ?_ (by simp only [Rel, PsR, hl])
              rw [hok.lay _ (Nat.le_of_lt h1), h2, hoff, ← hok.lay s (by omega)]
              simp [execOp, ho, hu, Instr.fieldAt, Instr.sureAddr, underlying, hd, hg', fieldPlace, run_sizeOf hti, hne, addr_add]
            · cases hw
          · exact hp.elim
        · rename_i c ty s
          split at hp
          · rename_i hw
            simp only [HP.post] at hp
            simp only [Rel] at hx
            obtain ⟨b, off, hu, hc, hs, hty⟩ := hx
            unfold wholeT at hw
            split at hw
            · rename_i u
              simp only [Bool.and_eq_true, decide_eq_true_eq] at hw
              obtain ⟨h1, h2⟩ := seg_off (hty u rfl) hw.1.1 hk
              refine Runs.here hst hp (x := .pointer (some ⟨b, off + contSize (c.take (fieldSeg T.P fs.toList f + s)) + 0 * zAt c (fieldSeg T.P fs.toList f + s) + 0, none⟩)) ?_ ?_
              · rw [h2, hoff]
                simp [execOp, ho, hu, Instr.fieldAt, Instr.sureAddr, underlying, hd, hg', fieldPlace, run_sizeOf hti, hne, addr_add, Nat.add_assoc]
              · simp only [Rel]
                exact ⟨b, off, rfl, hc, hs, hty⟩
            · cases hw
          · exact hp.elim
        · exact hp.elim
      · exact hp.elim
    · exact hp.elim
  · exact hp.elim
theorem rel_elemV {e : ET} {x : e.T} {F : CellF} {q : Nat} (he : e.size = 1) (hx : ElR S w e x F q) : ∃ u, F q = some u ∧ Rel T.P S w (elemV e x) L u := by
  cases e with
  | int k => exact ⟨_, hx, by simp only [elemV, Rel]⟩
  | bool => exact ⟨_, hx, by simp only [elemV, Rel]⟩
  | str => exact ⟨_, hx, by simp only [elemV, Rel]⟩
  | pair k => simp [ET.size] at he
  | ilist k =>
    obtain ⟨u, hu, hs⟩ := hx
    exact ⟨u, hu, by simp only [elemV, Rel]; exact slR_of_slR0 hs⟩
theorem cont_at {P : Program} {F : CellF} : ∀ {c : List AV} {o n : Nat} {L : Loc} {y : AV}, (∀ v ∈ c, single v = true) → Cont P S w c L F o → c[n]? = some y → ∃ u, F (o + n) = some u ∧ Rel P S w y L u
  | [], o, n, L, y, _, _, hy => by simp at hy
  | v :: c, o, n, L, y, hs, hc, hy => by
    simp only [Cont] at hc
    have hv := hs v (by simp)
    cases n with
    | zero =>
      simp at hy
      subst hy
      exact hc.2.1 hv
    | succ n =>
      rw [segSize_single hv] at hc
      obtain ⟨u, h1, h2⟩ := cont_at (n := n) (fun x hx => hs x (by simp [hx])) hc.2.2 (by simpa using hy)
      exact ⟨u, by rw [← h1]; congr 1; omega, h2⟩
theorem op_index {t : TypeId} {x ix : Operand} (ho : o.op = .index t x ix) (hst : St T S w L h ids) (hx : Rel T.P S w (opv T fr x) L (a.eval x)) (hi : Rel T.P S w (opv T fr ix) L (a.eval ix))
    (hp : (evOp T o fr).post h ids Q) : Runs T o a w S L Q := by
  simp only [evOp, ho, index] at hp
  generalize opv T fr x = v at hx hp
  generalize opv T fr ix = vi at hi hp
  split at hp
  · rename_i n e k l lo hd
    have hd := desc_some hd (by simp)
    split at hp
    · rename_i hsz hag hk1
      have hk1 := of_decide_eq_true hk1
      obtain ⟨q, m, hm, h0, h1, hp⟩ := ixB_post hi hp
      simp only [HP.post] at hp
      obtain ⟨y, hy, hq⟩ := hp
      simp only [Rel] at hx
      obtain ⟨arr, hu, has, hc⟩ := hx
      have hr := cont_run hc m.toNat y hy
      rw [hk1] at hr
      obtain ⟨u, hu2, hv⟩ := rel_elemV (T := T) (L := L) hk1 hr
      obtain ⟨hag, ti, hti, htz⟩ := isAggT_run (w := w) hag
      refine Runs.here hst hq (x := u) ?_ hv
      simp at hu2
      simp [execOp, ho, hu, hm, Instr.index, asIntOf, underlying, hd, h0, h1, run_sizeOf hti, htz, hsz, Go.part, hag, hu2]
    · exact hp.elim
  · rename_i n e c lo hnr hd
    have hd := desc_some hd (by simp)
    split at hp
    · rename_i hsz hag hall
      obtain ⟨q, m, hm, h0, h1, hp⟩ := ixB_post hi hp
      simp only [HP.post] at hp
      obtain ⟨y, hy, hq⟩ := hp
      simp only [Rel] at hx
      obtain ⟨arr, hu, has, hc⟩ := hx
      rw [List.all_eq_true] at hall
      obtain ⟨u, hu2, hv⟩ := cont_at hall hc hy
      rw [Nat.zero_add] at hu2
      have hv' : Rel T.P S w y L u := by
        cases lo
        · exact hv.mono (fun _ _ h => h) (fun _ _ _ => rfl) _ (noLoc_le L)
        · exact hv
      obtain ⟨hag, ti, hti, htz⟩ := isAggT_run (w := w) hag
      refine Runs.here hst hq (x := u) ?_ hv'
      have hu2 : arr[m.toNat]? = some u := hu2
      simp [execOp, ho, hu, hm, Instr.index, asIntOf, underlying, hd, h0, h1, run_sizeOf hti, htz, hsz, Go.part, hag, hu2]
    · exact hp.elim
  · rename_i s hd
    have hd := desc_some hd (by simp)
    split at hp
    · rename_i q i
      simp only [HP.post, decide_eq_true_eq] at hp
      obtain ⟨h0, b, hb, hq⟩ := hp
      simp only [Rel] at hx hi
      refine Runs.here hst hq (x := .int .u8 b.toNat) ?_ (by simp only [Rel])
      simp [execOp, ho, hx, hi, Instr.index, asIntOf, underlying, hd, h0, hb]
    · exact hp.elim
  · exact hp.elim
def RelO (T : Tab) (S : Stab) (w : World) (L : Loc) : Option AV → Option Value → Prop
  | none, none => True
  | some v, some u => Rel T.P S w v L u
  | _, _ => False
def BndV : Option Nat → Option Value → Prop
  | none, u => u = none
  | some n, u => ∃ k : IntKind, u = some (.int k (n : Int))
theorem relO_asI {x : Option AV} {u : Option Value} (hx : RelO T S w L x u) : (x.map asI = none → u = none) ∧ ∀ n, x.map asI = some (some n) → ∃ k : IntKind, u = some (.int k n) := by
  cases x with
  | none => cases u with
    | none => exact ⟨fun _ => rfl, fun n hn => by simp at hn⟩
    | some u => exact hx.elim
  | some v => cases u with
    | none => exact hx.elim
    | some u =>
      refine ⟨fun h => by simp at h, fun n hn => ?_⟩
      simp at hn
      unfold asI at hn
      split at hn
      · rename_i k m
        simp at hn
        subst hn
        simp only [RelO, Rel] at hx
        exact ⟨k, by rw [hx]⟩
      · cases hn
theorem bnds_post {len : Nat} {lo hi : Option AV} {lo' hi' : Option Value} {k : Option Nat → Option Nat → HP AV} (hlo : RelO T S w L lo lo') (hhi : RelO T S w L hi hi')
    (hp : (bnds len lo hi k).post h ids Q) :
    ∃ x y, (k x y).post h ids Q ∧ BndV x lo' ∧ BndV y hi' ∧ x.getD 0 ≤ y.getD len ∧ y.getD len ≤ len := by
  have h1 := relO_asI hlo
  have h2 := relO_asI hhi
  unfold bnds at hp
  split at hp
  · rename_i e1 e2
    exact ⟨none, none, hp, h1.1 e1, h2.1 e2, by simp, by simp⟩
  · rename_i n e1 e2
    simp only [HP.post, decide_eq_true_eq] at hp
    obtain ⟨k1, hk⟩ := h1.2 n e1
    exact ⟨some n.toNat, none, hp.2.2, ⟨k1, by rw [hk]; simp [Int.toNat_of_nonneg hp.1]⟩, h2.1 e2, by simp; omega, by simp⟩
  · rename_i n e1 e2
    simp only [HP.post, decide_eq_true_eq] at hp
    obtain ⟨k1, hk⟩ := h2.2 n e2
    exact ⟨none, some n.toNat, hp.2.2, h1.1 e1, ⟨k1, by rw [hk]; simp [Int.toNat_of_nonneg hp.1]⟩, by simp, by simp; omega⟩
  · rename_i n m e1 e2
    simp only [HP.post, decide_eq_true_eq] at hp
    obtain ⟨k1, hk⟩ := h1.2 n e1
    obtain ⟨k2, hk2⟩ := h2.2 m e2
    exact ⟨some n.toNat, some m.toNat, hp.2.2.2, ⟨k1, by rw [hk]; simp [Int.toNat_of_nonneg hp.1]⟩, ⟨k2, by rw [hk2]; simp [Int.toNat_of_nonneg (by omega : 0 ≤ m)]⟩, by simp; omega, by simp; omega⟩
  · exact hp.elim
theorem mxB_post {il nest : Bool} {len : Nat} {hi mx : Option AV} {hi' mx' : Option Value} {y : Option Nat} {k : Bool → HP AV} (hhi : RelO T S w L hi hi') (hmx : RelO T S w L mx mx') (hy : BndV y hi') (hp : (mxB il nest len hi mx k).post h ids Q) :
    ∃ th, (k th).post h ids Q ∧ ((mx' = none ∧ th = false) ∨ ∃ n m : Nat, y = some n ∧ n ≤ m ∧ (th = true → m = n) ∧ (m = n ∨ m ≤ len) ∧ ∃ q : IntKind, mx' = some (.int q (m : Int))) := by
  unfold mxB at hp
  split at hp
  · refine ⟨false, hp, .inl ⟨?_, rfl⟩⟩
    cases mx' with
    | none => rfl
    | some u => exact hmx.elim
  · rename_i m
    split at hp
    · rename_i c b e1 e2
      obtain ⟨k1, hk1⟩ := (relO_asI hhi).2 b e2
      obtain ⟨k2, hk2⟩ := (relO_asI hmx).2 c (by simp [e1])
      have hyb : ∃ n : Nat, y = some n ∧ b = n := by
        cases y with
        | none => simp only [BndV] at hy; rw [hy] at hk1; cases hk1
        | some n =>
          obtain ⟨k3, hk3⟩ := hy
          rw [hk3] at hk1
          injection hk1 with hk1
          injection hk1 with _ hk1
          exact ⟨n, rfl, hk1.symm⟩
      obtain ⟨n, hyn, rfl⟩ := hyb
      split at hp
      · split at hp
        · simp only [HP.post, decide_eq_true_eq] at hp
          obtain ⟨rfl, hp⟩ := hp
          exact ⟨true, hp, .inr ⟨n, n, hyn, Nat.le_refl _, fun _ => rfl, .inl rfl, k2, hk2⟩⟩
        · simp only [HP.post] at hp
          obtain ⟨th, hv, hp⟩ := hp
          simp only [Tree.val] at hv
          cases hc : decide (c = (n : Int)) with
          | true =>
            rw [hc] at hv
            have hc := of_decide_eq_true hc
            subst hc
            simp only [cond_true, Option.some.injEq] at hv
            subst hv
            exact ⟨true, hp, .inr ⟨n, n, hyn, Nat.le_refl _, fun _ => rfl, .inl rfl, k2, hk2⟩⟩
          | false =>
            rw [hc] at hv
            cases hd : decide ((n : Int) ≤ c) && decide (c ≤ (len : Int)) with
            | false => rw [hd] at hv; cases hv
            | true =>
              rw [hd] at hv
              simp only [cond_true, cond_false, Option.some.injEq] at hv
              subst hv
              simp only [Bool.and_eq_true, decide_eq_true_eq] at hd
              obtain ⟨m', rfl⟩ : ∃ m' : Nat, c = m' := ⟨c.toNat, by omega⟩
              exact ⟨false, hp, .inr ⟨n, m', hyn, by omega, fun h => (by cases h), .inr (by omega), k2, hk2⟩⟩
      · simp only [HP.post, decide_eq_true_eq] at hp
        obtain ⟨h1, h2, hp⟩ := hp
        obtain ⟨m', rfl⟩ : ∃ m' : Nat, c = m' := ⟨c.toNat, by omega⟩
        exact ⟨_, hp, .inr ⟨n, m', hyn, by omega, fun h => by have := of_decide_eq_true h; omega, .inr (by omega), k2, hk2⟩⟩
    · exact hp.elim
theorem run_bounds {P : Program} {w : World} {isSlice : Bool} {len cap : Nat} {lo hi mx : Option Value} {x y : Option Nat} {m : Nat} (hx : BndV x lo) (hy : BndV y hi)
    (hm : (mx = none ∧ m = cap) ∨ ∃ n, y = some n ∧ n ≤ m ∧ ∃ q : IntKind, mx = some (.int q (m : Int))) (hc : m ≤ cap) (hxy : x.getD 0 ≤ y.getD len) (hym : y.getD len ≤ m) :
    (Instr.sliceBounds isSlice len cap lo hi mx).run P w = .ok (x.getD 0, y.getD len, m) w := by
  have hb : ∀ (k : IntKind) (n c : Nat) (code : BoundsCode), n ≤ c → (Instr.sliceBound (.int k (n : Int)) c code).run P w = .ok n w := by
    intro k n c code hn
    have h1 : (n : Int) ≤ (c : Int) := by omega
    simp only [Instr.sliceBound, asIntOf, Sem.run_bind, Sem.run_pure, Result.andThen_ok]
    rw [if_pos ⟨by omega, h1⟩]
    simp
  cases x with
  | none =>
    simp only [BndV] at hx
    subst hx
    cases y with
    | none =>
      simp only [BndV] at hy
      subst hy
      rcases hm with ⟨rfl, rfl⟩ | ⟨n, h, _⟩
      · simp [Instr.sliceBounds]
      · cases h
    | some n =>
      obtain ⟨k, rfl⟩ := hy
      simp only [Option.getD_some] at hym
      rcases hm with ⟨rfl, rfl⟩ | ⟨n', h, hnm, q, rfl⟩
      · simp [Instr.sliceBounds, hb _ _ _ _ hym]
      · injection h with h
        subst h
        simp [Instr.sliceBounds, hb _ _ _ _ hc, hb _ _ _ _ hnm]
  | some l =>
    obtain ⟨kl, rfl⟩ := hx
    simp only [Option.getD_some] at hxy
    cases y with
    | none =>
      simp only [BndV] at hy
      subst hy
      simp only [Option.getD_none] at hxy
      rcases hm with ⟨rfl, rfl⟩ | ⟨n, h, _⟩
      · simp [Instr.sliceBounds, hb _ _ _ _ hxy]
      · cases h
    | some n =>
      obtain ⟨k, rfl⟩ := hy
      simp only [Option.getD_some] at hym hxy
      rcases hm with ⟨rfl, rfl⟩ | ⟨n', h, hnm, q, rfl⟩
      · simp [Instr.sliceBounds, hb _ _ _ _ hym, hb _ _ _ _ hxy]
      · injection h with h
        subst h
        simp [Instr.sliceBounds, hb _ _ _ _ hc, hb _ _ _ _ hnm, hb _ _ _ _ hxy]
theorem relO_map {x : Option Operand} (hx : ∀ y, x = some y → Rel T.P S w (opv T fr y) L (a.eval y)) : RelO T S w L (x.map (opv T fr)) (x.map a.eval) := by
  cases x with
  | none => trivial
  | some y => exact hx y rfl
theorem run_sliceAt_sl {P : Program} {w : World} {t e : TypeId} {ti : TypeInfo} {ba : Option Addr} {len cap : Nat} {lo hi mx : Option Value} {x y : Option Nat} {m : Nat} (hd : P.underlying t = some (.slice e)) (hti : P.info? e = some ti)
    (hx : BndV x lo) (hy : BndV y hi) (hm : (mx = none ∧ m = cap) ∨ ∃ n, y = some n ∧ n ≤ m ∧ ∃ q : IntKind, mx = some (.int q (m : Int))) (hc : m ≤ cap) (hxy : x.getD 0 ≤ y.getD len) (hym : y.getD len ≤ m) :
    (Instr.sliceAt t (.slice ba len cap) lo hi mx).run P w = .ok (.slice (if m = x.getD 0 then ba else ba.map (·.add (x.getD 0 * ti.size))) (y.getD len - x.getD 0) (m - x.getD 0)) w := by
  simp [Instr.sliceAt, Instr.slice, underlying, hd, run_bounds hx hy hm hc hxy hym, run_sizeOf hti]
theorem runR_cut {e : ET} {l : List e.T} {F : CellF} {q : Nat} {x y : Option Nat} (h : RunR S w e l F q) : RunR S w e (cutL l x y) F (q + x.getD 0 * e.size) := by
  intro k v hk
  have : l[x.getD 0 + k]? = some v := by
    cases x with
    | none =>
      cases y with
      | none => simpa [cutL] using hk
      | some n =>
        simp only [cutL, List.getElem?_take] at hk
        split at hk
        · simpa using hk
        · cases hk
    | some n =>
      cases y with
      | none => simpa [cutL, List.getElem?_drop] using hk
      | some m =>
        simp only [cutL, List.getElem?_drop, List.getElem?_take] at hk
        split at hk
        · simpa using hk
        · cases hk
  have := h _ _ this
  rwa [Nat.add_mul, ← Nat.add_assoc] at this
theorem cutL_length {α : Type} {l : List α} {x y : Option Nat} (h1 : x.getD 0 ≤ y.getD l.length) (h2 : y.getD l.length ≤ l.length) : (cutL l x y).length = y.getD l.length - x.getD 0 := by
  cases x <;> cases y <;> simp [cutL] at * <;> omega
theorem slR_cut {e : ET} {l : List e.T} {t : Bool} {ba : Option Addr} {cap : Nat} {x y : Option Nat} {m : Nat} (t' : Bool) (hu : SlR S w e l t (.slice ba l.length cap)) (h1 : x.getD 0 ≤ y.getD l.length) (h2 : y.getD l.length ≤ l.length) (h3 : y.getD l.length ≤ m)
    (ht : t' = true → m = y.getD l.length) : SlR S w e (cutL l x y) t' (.slice (if m = x.getD 0 then ba else ba.map (·.add (x.getD 0 * e.size))) (y.getD l.length - x.getD 0) (m - x.getD 0)) := by
  obtain ⟨ba', cap', hs, hc, _, hl⟩ := hu
  injection hs with e1 _ e2
  subst e1 e2
  have hlen := cutL_length h1 h2
  refine ⟨_, _, by rw [hlen], by omega, fun h => by rw [hlen, ht h], fun hne => ?_⟩
  have hpos : 0 < (cutL l x y).length := List.length_pos_iff.2 hne
  have hne' : l ≠ [] := by
    have : 0 < l.length := by omega
    exact List.length_pos_iff.1 this
  obtain ⟨b, q, rfl, hr, hst⟩ := hl hne'
  refine ⟨b, q + x.getD 0 * e.size, ?_, runR_cut hr, ?_⟩
  · rw [if_neg (by omega)]
    simp [addr_add]
  · refine StR.part hst ?_
    rw [hlen, ← Nat.add_mul]
    exact Nat.mul_le_mul_right _ (by omega)
theorem cont_cut {vs : List AV} {F : CellF} {q : Nat} {x y : Option Nat} (hsg : ∀ v ∈ vs, single v = true) (h1 : x.getD 0 ≤ y.getD vs.length) (h2 : y.getD vs.length ≤ vs.length) (h : Cont T.P S w vs L F q) : Cont T.P S w (cutL vs x y) L F (q + x.getD 0) := by
  have hd : ∀ n, n ≤ vs.length → Cont T.P S w (vs.drop n) L F (q + n) := by
    intro n hn
    have h' : Cont T.P S w (vs.take n ++ vs.drop n) L F q := by rw [List.take_append_drop]; exact h
    have := (cont_append.1 h').2
    rwa [contSize_take_single hsg hn] at this
  have ht : ∀ n m, n ≤ vs.length → Cont T.P S w ((vs.drop n).take m) L F (q + n) := by
    intro n m hn
    have h' : Cont T.P S w ((vs.drop n).take m ++ (vs.drop n).drop m) L F (q + n) := by rw [List.take_append_drop]; exact hd n hn
    exact (cont_append.1 h').1
  cases x with
  | none =>
    cases y with
    | none => simpa [cutL] using h
    | some n => simpa [cutL] using ht 0 n (by omega)
  | some n =>
    simp at h1
    cases y with
    | none => simpa [cutL] using hd n (by simpa using h1)
    | some m =>
      simp at h1 h2
      have := ht n (m - n) (by omega)
      simpa [cutL, List.drop_take] using this
theorem take_size {c : List AV} {s : Nat} {q : ET} {l : List q.T} (h : c[s]? = some (.run q l)) : contSize (c.take s) + l.length * q.size ≤ contSize c := by
  have hs := lt_of_get h
  have e : c = c.take s ++ (.run q l :: c.drop (s + 1)) := by
    rw [List.getElem?_eq_getElem hs] at h
    injection h with h
    rw [← h, ← List.drop_eq_getElem_cons hs, List.take_append_drop]
  conv => rhs; rw [e]
  rw [contSize_append]
  simp only [contSize, segSize]
  omega
theorem extB_post {ext full : Bool} {len : Nat} {hi mx : Option AV} {k : Nat → HP AV} {p : HP AV} (hp : (extB ext full len hi mx k p).post h ids Q) : (∃ b, extendTo false full len hi mx = some b ∧ (k b).post h ids Q) ∨ p.post h ids Q := by
  unfold extB at hp
  split at hp
  · rename_i q b
    simp only [HP.post, Tree.val] at hp
    obtain ⟨x, hx, hp⟩ := hp
    cases hc : decide ((len : Int) < b) with
    | true =>
      rw [hc] at hx
      simp only [cond_true, Option.some.injEq] at hx
      subst hx
      exact .inl ⟨b.toNat, by unfold extendTo; simp only [hc], hp⟩
    | false =>
      rw [hc] at hx
      simp only [cond_false, Option.some.injEq] at hx
      subst hx
      exact .inr hp
  · exact .inr hp
theorem post_sliceExt {il : Bool} {t e : TypeId} {r s i len b : Nat} {whole tight full : Bool} {lo hi mx : Option AV} {lo' hi' mx' : Option Value} {u0 : Value} (hst : St T S w L h ids) (hd : T.P.underlying t = some (.slice e)) (hb : extendTo il full len hi mx = some b)
    (hx : Rel T.P S w (.os r s i len whole tight full) L u0) (hlo : RelO T S w L lo lo') (hhi : RelO T S w L hi hi') (hmx : RelO T S w L mx mx') (hp : (sliceExt T e r s i b lo).post h ids Q) :
    ∃ v u, Q v h ids ∧ (Instr.sliceAt t u0 lo' hi' mx').run T.P w = .ok u w ∧ Rel T.P S w v L u := by
  unfold extendTo at hb
  split at hb
  · cases hb
  · split at hb
    · rename_i k b0
      split at hb
      · rename_i hlt
        have hlt := of_decide_eq_true hlt
        injection hb with hb
        have hm0 : mx' = none := by
          cases mx' with
          | none => rfl
          | some u => exact hmx.elim
        have hh0 : hi' = some (.int k b0) := by
          cases hi' with
          | none => exact hhi.elim
          | some u => simp only [RelO, Rel] at hhi; rw [hhi]
        subst hm0 hh0
        have hbn : b0 = (b : Int) := by omega
        subst hbn
        have hlb : len < b := by omega
        unfold sliceExt at hp
        simp only [HP.post] at hp
        obtain ⟨row, hrow, hp⟩ := hp
        split at hp
        · rename_i q l hs
          split at hp
          · rename_i hq
            have hq := of_decide_eq_true hq
            simp only [HP.post, decide_eq_true_eq] at hp
            obtain ⟨hil, hp⟩ := hp
            obtain ⟨ti, hti, htz⟩ := info_of_sz (T := T) (e := e) (by rw [hq]; exact (by cases q <;> simp [ET.size]))
            simp only [Rel] at hx
            unfold OsR at hx
            split at hx
            · exact hx.elim
            · rename_i hl
              rcases hst.inv.rows r row hrow with ⟨_, hn⟩ | ⟨p, h2, _⟩
              · rcases hn with hn | ⟨e', hn⟩
                · rw [hn] at hs; simp at hs
                · obtain ⟨_, rfl, rfl, _⟩ := hx
                  rw [hn] at hs
                  simp at hs
                  obtain ⟨rfl, hs⟩ := hs
                  have := eq_of_heq hs
                  subst this
                  simp at hil; omega
              · rw [hl] at h2; cases h2
            · rename_i p hl
              obtain ⟨ba, cap, rfl, q1, q2, q3, q4, q5, q6, q7⟩ := hx
              have hok := hst.row hrow hl
              have hsl := lt_of_get hs
              have hz : p.z = q.size := by rw [← hok.zz s hsl]; simp [zAt, hs]
              have hlay := hok.lay s (Nat.le_of_lt hsl)
              have hpw := hok.size
              have hsp := take_size hs
              have hzp : 0 < q.size := by cases q <;> simp [ET.size]
              have hmul : (i + b) * q.size ≤ l.length * q.size := Nat.mul_le_mul_right _ hil
              rw [hz] at q7 q4 q5 q1
              have hfull := q7 rfl
              have hbc : b ≤ cap := by
                rcases Nat.lt_or_ge cap b with hcb | hcb
                · have : (cap + 1) * q.size ≤ b * q.size := Nat.mul_le_mul_right _ hcb
                  rw [Nat.add_mul] at this hmul
                  omega
                · exact hcb
              have key : ∀ (x : Option Nat), BndV x lo' → x.getD 0 ≤ b → ∃ u, (Instr.sliceAt t (.slice ba len cap) lo' (some (.int k (b : Int))) none).run T.P w = .ok u w ∧ Rel T.P S w (.os r s (x.getD 0 + i) (b - x.getD 0) false false true) L u := by
                intro x hbx hxb
                refine ⟨_, run_sliceAt_sl (y := some b) hd hti hbx ⟨k, rfl⟩ (.inl ⟨rfl, rfl⟩) (Nat.le_refl _) (by simpa using hxb) (by simpa using hbc), ?_⟩
                simp only [Rel, OsR, hl, Option.getD_some]
                have e1 : (x.getD 0 + i) * p.z = x.getD 0 * p.z + i * p.z := Nat.add_mul _ _ _
                have e2 : (b - x.getD 0) * q.size = b * q.size - x.getD 0 * q.size := Nat.sub_mul _ _ _
                have e3 : (cap - x.getD 0) * q.size = cap * q.size - x.getD 0 * q.size := Nat.sub_mul _ _ _
                have e4 : x.getD 0 * q.size ≤ b * q.size := Nat.mul_le_mul_right _ hxb
                have e5 : b * q.size ≤ cap * q.size := Nat.mul_le_mul_right _ hbc
                rw [Nat.add_mul] at hmul
                refine ⟨_, _, rfl, fun hne => ?_, by omega, fun h => by simp at h, by rw [e1, hz, e3]; omega, by rw [e1, hz, e2]; omega, fun h => by simp at h, fun _ => by rw [e1, hz, e3]; omega⟩
                rw [if_neg (by omega), q1 (by omega), e1, hz, htz, hq]
                simp [addr_add]
              split at hp
              · rename_i hlo1
                have : lo' = none := (relO_asI hlo).1 hlo1
                subst this
                obtain ⟨u, k1, k2⟩ := key none rfl (Nat.zero_le _)
                exact ⟨_, u, hp, k1, by simpa using k2⟩
              · rename_i a hlo1
                simp only [HP.post, decide_eq_true_eq] at hp
                obtain ⟨h0, h1, hp⟩ := hp
                obtain ⟨k', hk'⟩ := (relO_asI hlo).2 a hlo1
                obtain ⟨u, k1, k2⟩ := key (some a.toNat) ⟨k', by rw [hk']; congr 2; omega⟩ (by simp; omega)
                exact ⟨_, u, hp, k1, by simpa using k2⟩
              · exact hp.elim
          · exact hp.elim
        · exact hp.elim
      · cases hb
    · cases hb
theorem tightIf_spec {il tight th : Bool} {mx : Option AV} {b len : Nat} (h : tightIf il tight th mx b len = true) : th = true ∨ (tight = true ∧ b = len ∧ mx = none) := by
  unfold tightIf at h
  split at h
  · exact .inl h
  · split at h
    · exact .inl h
    · split at h
      · rename_i hb
        exact .inr ⟨h, of_decide_eq_true hb, rfl⟩
      · exact .inl h
theorem op_sliceX {t : TypeId} {x : Operand} {v : AV} {lo hi mx : Option Operand} (ho : o.op = .slice t x lo hi mx) (hst : St T S w L h ids) (hx : Rel T.P S w v L (a.eval x))
    (h1 : ∀ y, lo = some y → Rel T.P S w (opv T fr y) L (a.eval y)) (h2 : ∀ y, hi = some y → Rel T.P S w (opv T fr y) L (a.eval y)) (h3 : ∀ y, mx = some y → Rel T.P S w (opv T fr y) L (a.eval y))
    (hp : (sliceV T t v (lo.map (opv T fr)) (hi.map (opv T fr)) (mx.map (opv T fr))).post h ids Q) : Runs T o a w S L Q := by
  have hlo := relO_map h1
  have hhi := relO_map h2
  have hmx := relO_map h3
  have hrun : ∀ u, (Instr.sliceAt t (a.eval x) (lo.map a.eval) (hi.map a.eval) (mx.map a.eval)).run T.P w = .ok u w → (execOp a.eval o).run T.P w = .ok (.value u) w := by
    intro u hu
    simp [execOp, ho, hu]
  generalize lo.map (opv T fr) = lo1 at hlo hp
  generalize hi.map (opv T fr) = hi1 at hhi hp
  generalize mx.map (opv T fr) = mx1 at hmx hp
  generalize lo.map a.eval = lo2 at hlo hrun
  generalize hi.map a.eval = hi2 at hhi hrun
  generalize mx.map a.eval = mx2 at hmx hrun
  generalize a.eval x = u0 at hx hrun
  unfold sliceV at hp
  split at hp
  · rename_i n e r s i hd
    have hd := desc_some hd (by simp)
    simp only [HP.post] at hp
    obtain ⟨row, hrow, hp⟩ := hp
    split at hp
    · rename_i k l hsz hs
      split at hp
      · rename_i hk
        have hk := of_decide_eq_true hk
        obtain ⟨x', y', hp, hx', hy', hxy, hyl⟩ := bnds_post hlo hhi hp
        simp only [HP.post, decide_eq_true_eq] at hp
        obtain ⟨hle, hq⟩ := hp
        have hm2 : mx2 = none := by cases mx2 with
          | none => rfl
          | some u => exact hmx.elim
        subst hm2
        simp only [Rel] at hx
        obtain ⟨p, hl, rfl⟩ := psR_some hx
        have hok := hst.row hrow hl
        have hsl := lt_of_get hs
        have hz1 : p.z = 1 := by rw [← hok.zz s hsl]; simp [zAt, hs, hk]
        obtain ⟨ti, hti, htz⟩ := info_of_sz (T := T) (e := e) (by omega)
        have hb := run_bounds (P := T.P) (w := w) (isSlice := false) (cap := n) hx' hy' (.inl ⟨rfl, rfl⟩) (Nat.le_refl _) hxy hyl
        have hw : p.lay s + i + n ≤ p.w := by
          have hc1 : contSize (row.c.take (s + 1)) ≤ contSize row.c := by
            conv => rhs; rw [← List.take_append_drop (s + 1) row.c]
            rw [contSize_append]; omega
          rw [hok.size] at hc1
          have : row.c.take (s + 1) = row.c.take s ++ [.run k l] := by
            rw [List.take_succ_eq_append_getElem hsl]
            congr 2
            have := List.getElem?_eq_getElem hsl
            rw [hs] at this
            exact (Option.some.inj this).symm
          rw [this, contSize_append] at hc1
          simp only [contSize, segSize, hk] at hc1
          rw [hok.lay s (Nat.le_of_lt hsl)]
          omega
        have hcap := hok.le
        have hval : ∀ (st ln : Nat), st = x'.getD 0 → ln = y'.getD n - x'.getD 0 → Rel T.P S w (.os r s (st + i) ln false false false) L
            (.slice (if n = x'.getD 0 then some ⟨p.b, p.lay s + i * p.z + 0, none⟩ else some ((⟨p.b, p.lay s + i * p.z + 0, none⟩ : Addr).add (x'.getD 0 * ti.size))) (y'.getD n - x'.getD 0) (n - x'.getD 0)) := by
          rintro st ln rfl rfl
          simp only [Rel, OsR, hl]
          refine ⟨_, _, rfl, fun hne => ?_, by omega, fun h => by simp at h, by rw [hz1]; omega, by rw [hz1]; omega, fun h => by simp at h, fun h => by simp at h⟩
          rw [if_neg (by omega), addr_add, htz, hsz, hz1]
          congr 2; omega
        refine Runs.here hst hq (hrun _ ?_) ?_ (x := .slice (if n = x'.getD 0 then some ⟨p.b, p.lay s + i * p.z + 0, none⟩ else some ((⟨p.b, p.lay s + i * p.z + 0, none⟩ : Addr).add (x'.getD 0 * ti.size))) (y'.getD n - x'.getD 0) (n - x'.getD 0))
        · simp only [Instr.sliceAt, underlying, hd, Sem.run_bind, run_program, Result.andThen_ok, Sem.run_pure, Instr.sureAddr, hb, run_sizeOf hti]
          split <;> rfl
        · cases x' <;> cases y' <;> simp only [Option.getD_none, Option.getD_some] at hval ⊢
          · have := hval 0 n rfl (by omega); simpa using this
          · rename_i m; have := hval 0 m rfl (by omega); simpa using this
          · rename_i m; exact hval m (n - m) rfl rfl
          · rename_i m m'; exact hval m (m' - m) rfl rfl
      · exact hp.elim
    · exact hp.elim
  · rename_i n e c ty s i hd
    have hd := desc_some hd (by simp)
    split at hp
    · rename_i k l hsz hs
      split at hp
      · rename_i hk
        have hk := of_decide_eq_true hk
        obtain ⟨x', y', hp, hx', hy', hxy, hyl⟩ := bnds_post hlo hhi hp
        simp only [HP.post, decide_eq_true_eq] at hp
        obtain ⟨hle, hq⟩ := hp
        have hm2 : mx2 = none := by cases mx2 with
          | none => rfl
          | some u => exact hmx.elim
        subst hm2
        simp only [Rel] at hx
        obtain ⟨b, off, rfl, hc, hstb, hty⟩ := hx
        have hsl := lt_of_get hs
        have hz1 : zAt c s = 1 := by simp [zAt, hs, hk]
        obtain ⟨ti, hti, htz⟩ := info_of_sz (T := T) (e := e) (by omega)
        have hb := run_bounds (P := T.P) (w := w) (isSlice := false) (cap := n) hx' hy' (.inl ⟨rfl, rfl⟩) (Nat.le_refl _) hxy hyl
        have hr := (cont_get hc hs).1 k l rfl
        have hrp := runR_part (n := n) (i := i) hk hr
        have hlen : ((l.drop i).take n).length = n := by simp; omega
        have hstr : StR S b (off + contSize (c.take s) + i) (((l.drop i).take n).length * k.size) := by
          rw [hlen, hk]
          have hc1 : contSize (c.take (s + 1)) ≤ contSize c := by
            conv => rhs; rw [← List.take_append_drop (s + 1) c]
            rw [contSize_append]; omega
          have : c.take (s + 1) = c.take s ++ [.run k l] := by
            rw [List.take_succ_eq_append_getElem hsl]
            congr 2
            have := List.getElem?_eq_getElem hsl
            rw [hs] at this
            exact (Option.some.inj this).symm
          rw [this, contSize_append] at hc1
          simp only [contSize, segSize, hk] at hc1
          rw [Nat.add_assoc]
          exact StR.part hstb (by omega)
        have hsl0 : SlR S w k ((l.drop i).take n) false (.slice (some ⟨b, off + contSize (c.take s) + i, none⟩) ((l.drop i).take n).length n) :=
          ⟨_, _, rfl, by omega, fun h => by simp at h, fun _ => ⟨b, _, rfl, hrp, hstr⟩⟩
        have hcut := slR_cut (x := x') (y := y') (m := n) false hsl0 (by rw [hlen]; exact hxy) (by rw [hlen]; exact hyl) (by rw [hlen]; exact hyl) (fun h => by simp at h)
        rw [hlen] at hcut
        refine Runs.here hst hq (hrun _ ?_) ?_ (x := .slice (if n = x'.getD 0 then some ⟨b, off + contSize (c.take s) + i, none⟩ else (some ⟨b, off + contSize (c.take s) + i, none⟩ : Option Addr).map (·.add (x'.getD 0 * k.size))) (y'.getD n - x'.getD 0) (n - x'.getD 0))
        · simp only [Instr.sliceAt, underlying, hd, Sem.run_bind, run_program, Result.andThen_ok, Sem.run_pure, Instr.sureAddr, hb, run_sizeOf hti, hz1, Nat.mul_one, Nat.add_zero]
          rw [htz, hsz, hk]
          split <;> simp
        · simp only [Rel]; exact hcut
      · exact hp.elim
    · exact hp.elim
  · rename_i e r s i len whole tight full hd
    have hd := desc_some hd (by simp)
    split at hp
    · rename_i b hb
      obtain ⟨v, u, hq, hu1, hu2⟩ := post_sliceExt hst hd hb hx hlo hhi hmx hp
      exact Runs.here hst hq (hrun _ hu1) hu2
    rcases extB_post hp with ⟨b, hb, hp⟩ | hp
    · obtain ⟨v, u, hq, hu1, hu2⟩ := post_sliceExt hst hd hb hx hlo hhi hmx hp
      exact Runs.here hst hq (hrun _ hu1) hu2
    split at hp
    · exact hp.elim
    · rename_i hsz0
      have hsz0 : szOf T.P e ≠ 0 := of_decide_eq_false hsz0
      obtain ⟨ti, hti, htz⟩ := info_of_sz (T := T) (e := e) (by omega)
      obtain ⟨x', y', hp, hx', hy', hxy, hyl⟩ := bnds_post hlo hhi hp
      obtain ⟨th, hp, ht0⟩ := mxB_post hhi hmx hy' hp
      have hx0 := hx
      simp only [Rel] at hx
      have hsl : ∃ ba cap, u0 = .slice ba len cap ∧ len ≤ cap := by
        unfold OsR at hx
        split at hx
        · exact hx.elim
        · obtain ⟨rfl, _, _, ba, rfl⟩ := hx; exact ⟨_, _, rfl, Nat.le_refl _⟩
        · obtain ⟨ba, cap, rfl, _, hle, _⟩ := hx; exact ⟨_, _, rfl, hle⟩
      obtain ⟨ba, cap, rfl, hlc⟩ := hsl
      have hmm : ∃ m, ((mx2 = none ∧ m = cap) ∨ ∃ n, y' = some n ∧ n ≤ m ∧ ∃ q : IntKind, mx2 = some (.int q (m : Int))) ∧ m ≤ cap ∧ y'.getD len ≤ m ∧ (th = true → m = y'.getD len) ∧ (y' = none → m = cap) := by
        rcases ht0 with ⟨g1, rfl⟩ | ⟨n, m, rfl, g2, g3, g4, q, g5⟩
        · exact ⟨cap, .inl ⟨g1, rfl⟩, Nat.le_refl _, by omega, fun h => by simp at h, fun _ => rfl⟩
        · simp only [Option.getD_some] at hyl
          exact ⟨m, .inr ⟨n, rfl, g2, q, g5⟩, by omega, by simpa using g2, fun h => by simpa using g3 h, fun h => by cases h⟩
      obtain ⟨m, hm, hmc, hym, hth, hyn⟩ := hmm
      have hr := hrun _ (run_sliceAt_sl hd hti hx' hy' hm hmc hxy hym)
      unfold OsR at hx
      -- the handle that comes out of it
      have fin : ∀ (s2 i2 ln : Nat) (wh tg fu : Bool), (fu = true → full = true ∧ m = cap) → (x' = none → s2 = s ∧ i2 = i) → ln = y'.getD len - x'.getD 0 → (wh = true → x' = none ∧ y'.getD len = len ∧ m = cap ∧ whole = true) → (tg = true → m - x'.getD 0 = ln) →
          (∀ p, L r = some (some p) → p.lay s2 + i2 * p.z = p.lay s + i * p.z + x'.getD 0 * p.z ∧ (x' ≠ none → ti.size = p.z)) → (L r = some none → s2 = 0 ∧ i2 = 0) →
          Rel T.P S w (.os r s2 i2 ln wh tg fu) L (.slice (if m = x'.getD 0 then ba else ba.map (·.add (x'.getD 0 * ti.size))) (y'.getD len - x'.getD 0) (m - x'.getD 0)) := by
        intro s2 i2 ln wh tg fu f0 f1 f2 f3 f4 f5 f6
        subst f2
        simp only [Rel, OsR]
        cases hl : L r with
        | none => rw [hl] at hx; exact hx.elim
        | some pl =>
          rw [hl] at hx
          cases pl with
          | none =>
            simp only at hx ⊢
            obtain ⟨h0, hi0, hs0, ba', hba⟩ := hx
            subst h0
            injection hba with hb1 _ hb2
            subst hb2
            obtain ⟨g1, g2⟩ := f6 hl
            have e1 : y'.getD 0 = 0 := by omega
            have e2 : x'.getD 0 = 0 := by omega
            have e3 : m = 0 := by omega
            exact ⟨by omega, g2, g1, _, by rw [e1, e2, e3]⟩
          | some p =>
            simp only at hx ⊢
            obtain ⟨ba', cap', hba, h4, h5, h6, h7, h8, h9, h10⟩ := hx
            injection hba with hb1 _ hb2
            subst hb1 hb2
            obtain ⟨g1, g2⟩ := f5 p hl
            refine ⟨_, _, rfl, fun hne => ?_, by omega, fun h => f4 h, ?_, ?_, fun h => ?_, fun h => ?_⟩
            · rw [if_neg (by omega), h4 (by omega), g1]
              cases x' with
              | none => simp [addr_add]
              | some n => simp [addr_add, g2 (by simp)]
            · rw [g1, Nat.add_assoc, ← Nat.add_mul, Nat.add_assoc, ← Nat.add_mul] at *
              exact Nat.le_trans (Nat.add_le_add_left (Nat.mul_le_mul_right _ (by omega)) _) h7
            · rw [g1, Nat.add_assoc, ← Nat.add_mul, Nat.add_assoc, ← Nat.add_mul] at *
              exact Nat.le_trans (Nat.add_le_add_left (Nat.mul_le_mul_right _ (by omega)) _) h8
            · obtain ⟨rfl, hyl2, hmc2, hwh⟩ := f3 h
              obtain ⟨k1, k2, k3, k4, k5⟩ := h9 hwh
              obtain ⟨j1, j2⟩ := f1 rfl
              subst j1 j2 hmc2
              refine ⟨k1, k2, k3, ?_, ?_⟩
              · rw [hyl2]; simpa using k4
              · simpa using k5
            · obtain ⟨hf, rfl⟩ := f0 h
              have h11 := h10 hf
              rw [g1, Nat.add_assoc, ← Nat.add_mul, Nat.add_assoc, ← Nat.add_mul]
              rw [Nat.add_assoc, ← Nat.add_mul] at h11
              exact Nat.le_trans h11 (Nat.add_le_add_left (Nat.mul_le_mul_right _ (by omega)) _)
      have kf : keepF full mx1 = true → full = true ∧ m = cap := by
        intro hk
        cases hmx1 : mx1 with
        | some v => rw [hmx1] at hk; simp [keepF] at hk
        | none =>
          rw [hmx1] at hk hmx
          refine ⟨hk, ?_⟩
          rcases hm with ⟨_, g⟩ | ⟨_, _, _, _, g⟩
          · exact g
          · rw [g] at hmx; exact hmx.elim
      have nilz : L r = some none → s = 0 ∧ i = 0 := fun hl => by rw [hl] at hx; exact ⟨hx.2.2.1, hx.2.1⟩
      have tg0 : tight = true → cap = len := by
        intro htt
        cases hl : L r with
        | none => rw [hl] at hx; exact hx.elim
        | some pl =>
          rw [hl] at hx
          cases pl with
          | none => obtain ⟨h0, _, _, ba', hba⟩ := hx; injection hba with _ _ hb2; omega
          | some p => obtain ⟨ba', cap', hba, _, _, h6, _⟩ := hx; injection hba with _ _ hb2; have := h6 htt; omega
      have drop : ∀ (n : Nat) (k : Nat → Nat → HP AV), (osDrop T e r s i n k).post h ids Q → ∃ i2 s2, (k i2 s2).post h ids Q ∧
          (∀ p, L r = some (some p) → p.lay s2 + i2 * p.z = p.lay s + i * p.z + n * p.z ∧ ti.size = p.z) ∧ (L r = some none → n = 0 → s2 = 0 ∧ i2 = 0) := by
        intro n k hp
        unfold osDrop at hp
        simp only [HP.post] at hp
        obtain ⟨row, hrow, hp⟩ := hp
        split at hp
        · rename_i q l hs
          split at hp
          · rename_i hq
            have hq := of_decide_eq_true hq
            refine ⟨_, _, hp, fun p hl => ?_, fun hl hn => ?_⟩
            · have hok := hst.row hrow hl
              have hz := hok.zz s (lt_of_get hs)
              have : zAt row.c s = q.size := by simp [zAt, hs]
              refine ⟨by rw [Nat.add_mul]; omega, by omega⟩
            · obtain ⟨g1, g2⟩ := nilz hl
              omega
          · exact hp.elim
        · rename_i v hs
          split at hp
          · have hc : (row.c.all single && decide (szOf T.P e = 1)) = true := by assumption
            simp only [Bool.and_eq_true, decide_eq_true_eq, List.all_eq_true] at hc
            have hp : (n + s ≤ row.c.length) ∧ (k 0 (n + s)).post h ids Q := by
              simpa only [HP.post, decide_eq_true_eq] using hp
            refine ⟨_, _, hp.2, fun p hl => ?_, fun hl hn => ?_⟩
            · have hok := hst.row hrow hl
              have hz := hok.zz s (lt_of_get hs)
              rw [zAt_single hc.1] at hz
              rw [hok.lay _ hp.1, hok.lay s (by omega), contSize_take_single hc.1 hp.1, contSize_take_single hc.1 (by omega), ← hz]
              omega
            · obtain ⟨g1, g2⟩ := nilz hl
              omega
          · exact hp.elim
        · exact hp.elim
      cases x' with
      | none =>
        cases y' with
        | none =>
          simp only [HP.post] at hp
          exact Runs.here hst hp hr (fin s i len whole tight _ kf (fun _ => ⟨rfl, rfl⟩) (by simp) (fun h => ⟨rfl, rfl, hyn rfl, h⟩) (fun h => by have := tg0 h; have := hyn rfl; show m - 0 = len; omega) (fun p hl => by simp) nilz)
        | some n =>
          simp only [HP.post] at hp
          refine Runs.here hst hp hr (fin s i n _ _ _ kf (fun _ => ⟨rfl, rfl⟩) (by simp) (fun h => ?_) (fun h => ?_) (fun p hl => by simp) nilz)
          rotate_left
          · rcases tightIf_spec h with h | ⟨h2, hbl, hm0⟩
            · have := hth h; simp at this ⊢; omega
            · have := tg0 h2
              rw [hm0] at hmx
              rcases hm with ⟨_, g⟩ | ⟨_, _, _, _, g⟩
              · simp; omega
              · rw [g] at hmx; exact hmx.elim
          unfold wholeIf at h
          split at h
          · cases h
          · split at h
            · cases h
            · split at h
              · rename_i hmx1 hbl
                refine ⟨rfl, by simpa using hbl, ?_, h⟩
                rcases hm with ⟨_, g⟩ | ⟨_, _, _, _, g⟩
                · exact g
                · rw [g] at hmx; exact hmx.elim
              · cases h
      | some n =>
        cases y' with
        | none =>
          obtain ⟨i2, s2, hp, d1, d2⟩ := drop _ _ hp
          simp only [HP.post] at hp
          refine Runs.here hst hp hr (fin s2 i2 (len - n) false tight _ kf (fun h => by simp at h) (by simp) (fun h => by simp at h) (fun h => by have := tg0 h; have := hyn rfl; show m - n = len - n; omega) (fun p hl => ⟨by simpa using (d1 p hl).1, fun _ => (d1 p hl).2⟩) (fun hl => d2 hl ?_))
          have : len = 0 := by rw [hl] at hx; exact hx.1
          simp at hxy; omega
        | some n' =>
          obtain ⟨i2, s2, hp, d1, d2⟩ := drop _ _ hp
          simp only [HP.post] at hp
          refine Runs.here hst hp hr (fin s2 i2 (n' - n) false th _ kf (fun h => by simp at h) (by simp) (fun h => by simp at h) (fun h => by have := hth h; simp at this ⊢; omega) (fun p hl => ⟨by simpa using (d1 p hl).1, fun _ => (d1 p hl).2⟩) (fun hl => d2 hl ?_))
          have : len = 0 := by rw [hl] at hx; exact hx.1
          simp at hxy hyl; omega
  · rename_i e k l tight hd
    have hd := desc_some hd (by simp)
    split at hp
    · rename_i hsz
      have hsz := of_decide_eq_true hsz
      have hpos : 0 < k.size := by cases k <;> simp [ET.size]
      obtain ⟨ti, hti, htz⟩ := info_of_sz (T := T) (e := e) (by omega)
      obtain ⟨x', y', hp, hx', hy', hxy, hyl⟩ := bnds_post hlo hhi hp
      obtain ⟨th, hp, ht0⟩ := mxB_post hhi hmx hy' hp
      simp only [HP.post] at hp
      simp only [Rel] at hx
      have hx0 := hx
      obtain ⟨ba, cap, rfl, hlc, htg, hcn⟩ := hx
      have hmm : ∃ m, ((mx2 = none ∧ m = cap) ∨ ∃ n, y' = some n ∧ n ≤ m ∧ ∃ q : IntKind, mx2 = some (.int q (m : Int))) ∧ m ≤ cap ∧ y'.getD l.length ≤ m ∧ (th = true → m = y'.getD l.length) ∧ (y' = none → m = cap) := by
        rcases ht0 with ⟨g1, rfl⟩ | ⟨n, m, rfl, g2, g3, g4, q, g5⟩
        · exact ⟨cap, .inl ⟨g1, rfl⟩, Nat.le_refl _, by omega, fun h => by simp at h, fun _ => rfl⟩
        · simp only [Option.getD_some] at hyl
          exact ⟨m, .inr ⟨n, rfl, g2, q, g5⟩, by omega, by simpa using g2, fun h => by simpa using g3 h, fun h => by cases h⟩
      obtain ⟨m, hm, hmc, hym, hth, hyn⟩ := hmm
      have hr := hrun _ (run_sliceAt_sl hd hti hx' hy' hm hmc hxy hym)
      refine Runs.here hst hp hr ?_
      simp only [Rel]
      rw [htz, hsz]
      refine slR_cut _ hx0 hxy hyl hym fun h => ?_
      cases y' with
      | none => have := htg h; have := hyn rfl; simp; omega
      | some n =>
        rcases tightIf_spec h with h | ⟨h, hbl, hm0⟩
        · exact hth h
        · have := htg h
          rw [hm0] at hmx
          rcases hm with ⟨_, g⟩ | ⟨_, _, _, _, g⟩
          · simp; omega
          · rw [g] at hmx; exact hmx.elim
    · exact hp.elim
  · rename_i e vs tight hd
    have hd := desc_some hd (by simp)
    split at hp
    · rename_i hsz
      have hsz := of_decide_eq_true hsz
      obtain ⟨ti, hti, htz⟩ := info_of_sz (T := T) (e := e) (by omega)
      obtain ⟨x', y', hp, hx', hy', hxy, hyl⟩ := bnds_post hlo hhi hp
      obtain ⟨th, hp, ht0⟩ := mxB_post hhi hmx hy' hp
      simp only [HP.post] at hp
      simp only [Rel] at hx
      obtain ⟨hsg, ba, cap, rfl, hlc, htg, hcn⟩ := hx
      have hmm : ∃ m, ((mx2 = none ∧ m = cap) ∨ ∃ n, y' = some n ∧ n ≤ m ∧ ∃ q : IntKind, mx2 = some (.int q (m : Int))) ∧ m ≤ cap ∧ y'.getD vs.length ≤ m ∧ (th = true → m = y'.getD vs.length) ∧ (y' = none → m = cap) := by
        rcases ht0 with ⟨g1, rfl⟩ | ⟨n, m, rfl, g2, g3, g4, q, g5⟩
        · exact ⟨cap, .inl ⟨g1, rfl⟩, Nat.le_refl _, by omega, fun h => by simp at h, fun _ => rfl⟩
        · simp only [Option.getD_some] at hyl
          exact ⟨m, .inr ⟨n, rfl, g2, q, g5⟩, by omega, by simpa using g2, fun h => by simpa using g3 h, fun h => by cases h⟩
      obtain ⟨m, hm, hmc, hym, hth, hyn⟩ := hmm
      have hr := hrun _ (run_sliceAt_sl hd hti hx' hy' hm hmc hxy hym)
      refine Runs.here hst hp hr ?_
      simp only [Rel]
      have hlen := cutL_length hxy hyl
      have hsg' : ∀ v ∈ cutL vs x' y', single v = true := by
        intro v hv
        refine hsg v ?_
        cases x' <;> cases y' <;> simp only [cutL] at hv
        · exact hv
        · exact List.mem_of_mem_take hv
        · exact List.mem_of_mem_drop hv
        · exact List.mem_of_mem_take (List.mem_of_mem_drop hv)
      refine ⟨hsg', _, _, by rw [hlen], by omega, fun h => ?_, fun hne => ?_⟩
      · rw [hlen]
        cases y' with
        | none => have := htg h; have := hyn rfl; simp; omega
        | some n =>
          rcases tightIf_spec h with h | ⟨h, hbl, hm0⟩
          · have := hth h; omega
          · have := htg h
            rw [hm0] at hmx
            rcases hm with ⟨_, g⟩ | ⟨_, _, _, _, g⟩
            · simp; omega
            · rw [g] at hmx; exact hmx.elim
      · have hpos : 0 < (cutL vs x' y').length := List.length_pos_iff.2 hne
        have hne' : vs ≠ [] := by
          have : 0 < vs.length := by omega
          exact List.length_pos_iff.1 this
        obtain ⟨b, q, rfl, hr2, hst2⟩ := hcn hne'
        refine ⟨b, q + x'.getD 0, ?_, cont_cut hsg hxy hyl hr2, StR.part hst2 (by omega)⟩
        rw [if_neg (by omega)]
        simp [addr_add, htz, hsz]
    · exact hp.elim
  · rename_i s hd
    have hd := desc_some hd (by simp)
    split at hp
    · obtain ⟨x', y', hp, hx', hy', hxy, hyl⟩ := bnds_post hlo hhi hp
      simp only [HP.post] at hp
      have hm2 : mx2 = none := by cases mx2 with
        | none => rfl
        | some u => exact hmx.elim
      subst hm2
      simp only [Rel] at hx
      subst hx
      have hb := run_bounds (P := T.P) (w := w) (isSlice := false) (cap := s.size) hx' hy' (.inl ⟨rfl, rfl⟩) (Nat.le_refl _) hxy hyl
      refine Runs.here hst hp (hrun _ ?_) (by simp only [Rel]; rfl)
      simp [Instr.sliceAt, Instr.slice, underlying, hd, hb]
    · exact hp.elim
  · exact hp.elim
theorem op_slice {t : TypeId} {x : Operand} {lo hi mx : Option Operand} (ho : o.op = .slice t x lo hi mx) (hst : St T S w L h ids) (hx : Rel T.P S w (opv T fr x) L (a.eval x))
    (h1 : ∀ y, lo = some y → Rel T.P S w (opv T fr y) L (a.eval y)) (h2 : ∀ y, hi = some y → Rel T.P S w (opv T fr y) L (a.eval y)) (h3 : ∀ y, mx = some y → Rel T.P S w (opv T fr y) L (a.eval y))
    (hp : (sliceN T t (slNil (opv T fr x)) (lo.map (opv T fr)) (hi.map (opv T fr)) (mx.map (opv T fr))).post h ids Q) : Runs T o a w S L Q := by
  have hx := rel_slNil hx
  generalize slNil (opv T fr x) = v at hx hp
  unfold sliceN at hp
  split at hp
  · rename_i r s j _
    simp only [HP.post] at hp
    obtain ⟨row, hrow, hp⟩ := hp
    split at hp
    · rename_i k l hs
      split at hp
      · rename_i hk
        have hk := of_decide_eq_true hk
        refine op_sliceX ho hst ?_ h1 h2 h3 hp
        simp only [Rel] at hx ⊢
        obtain ⟨p, hl, e⟩ := psR_some hx
        have hok := hst.row hrow hl
        have hsl := lt_of_get hs
        have hz1 : p.z = 1 := by rw [← hok.zz s hsl]; simp [zAt, hs, hk]
        unfold PsR
        rw [hl, e]
        simp only [hz1, Nat.zero_mul, Nat.add_zero, Nat.mul_one]
      · exact hp.elim
    · exact hp.elim
  · exact op_sliceX ho hst hx h1 h2 h3 hp
end
end Go.Ev
namespace Go.Ev
open Go
set_option linter.unusedVariables false
set_option linter.unusedSimpArgs false
section
variable {T : Tab} {S : Stab} {w : World} {L : Loc} {h : Hs} {ids : List Nat} {a : Act} {o : Oper} {fr : Fr}
def cellsOf (L : Loc) (rs : List Nat) : Stab := fun b q => ∃ r ∈ rs, ∃ p, L r = some (some p) ∧ p.b = b ∧ q < p.w
def plus (S S' : Stab) : Stab := fun b q => S b q ∨ S' b q
theorem cellsOf_mono {rs rs' : List Nat} (hr : ∀ r ∈ rs, r ∈ rs') : ∀ b q, plus S (cellsOf L rs) b q → plus S (cellsOf L rs') b q := by
  rintro b q (h | ⟨r, h1, h2⟩)
  · exact .inl h
  · exact .inr ⟨r, hr r h1, h2⟩
theorem plus_le (S' : Stab) : ∀ b q, S b q → plus S S' b q := fun _ _ h => .inl h
theorem contSize_congr {c c' : List AV} (h : c'.map segSize = c.map segSize) : contSize c' = contSize c := by rw [contSize_sum, contSize_sum, h]
theorem post_part {r s i len : Nat} {whole tight full : Bool} {row : Row} {c' : List AV} {u : Value} {S' : Stab} {Q : AV → Hs → List Nat → Prop} (hst : St T S w L h ids) (hrow : h r = some row) (hu : OsR L r s i len whole tight full u)
    (hS : ∀ p, L r = some (some p) → ∀ q, q < p.w → S' p.b q) (hc : ∀ p, L r = some (some p) → Cont T.P S' w c' noLoc (cellsAt w p.b) 0) (hsz : c'.map segSize = row.c.map segSize) (hz : ∀ k, zAt c' k = zAt row.c k)
    (hp : (part c' s i len whole).post h ids Q) : ∃ v, Q v h ids ∧ Rel T.P S' w v noLoc u := by
  have hcl : c'.length = row.c.length := by have := congrArg List.length hsz; simpa using this
  have hw := contSize_congr hsz
  rcases hst.inv.rows r row hrow with ⟨hl, hn⟩ | ⟨p, hl, hok⟩
  · -- nothing is there
    unfold OsR at hu
    rw [hl] at hu
    obtain ⟨rfl, rfl, rfl, ba, rfl⟩ := hu
    have hw0 : contSize row.c = 0 := by
      rcases hn with h | ⟨e, h⟩ <;> rw [h] <;> simp [contSize, segSize]
    unfold part at hp
    split at hp
    · split at hp
      · rename_i e l
        simp only [HP.post] at hp
        have hpos : 0 < e.size := by cases e <;> simp [ET.size]
        have : l = [] := by
          simp only [contSize, segSize] at hw
          have h0 : l.length * e.size = 0 := by omega
          rcases Nat.mul_eq_zero.1 h0 with h | h
          · exact List.eq_nil_of_length_eq_zero h
          · omega
        subst this
        refine ⟨_, hp, ?_⟩
        simp only [Rel]
        exact ⟨_, _, rfl, Nat.le_refl _, fun h => by simp at h, fun h => absurd rfl h⟩
      · split at hp
        · rename_i hall
          simp only [HP.post] at hp
          have hall' : ∀ v ∈ c', single v = true := List.all_eq_true.1 hall
          have : c' = [] := List.eq_nil_of_length_eq_zero (by rw [← contSize_single hall']; omega)
          subst this
          refine ⟨_, hp, ?_⟩
          simp only [Rel]
          exact ⟨by simp, _, _, rfl, Nat.le_refl _, fun h => by simp at h, fun h => absurd rfl h⟩
        · exact hp.elim
    · split at hp
      · rename_i e l hs
        simp only [HP.post] at hp
        refine ⟨_, hp.2, ?_⟩
        simp only [Rel, List.take_zero]
        exact ⟨_, _, rfl, Nat.le_refl _, fun h => by simp at h, fun h => absurd rfl h⟩
      · split at hp
        · simp only [HP.post] at hp
          refine ⟨_, hp, ?_⟩
          simp only [Rel, List.take_zero]
          exact ⟨by simp, _, _, rfl, Nat.le_refl _, fun h => by simp at h, fun h => absurd rfl h⟩
        · exact hp.elim
      · exact hp.elim
  · have hcp := hc p hl
    have hSp := hS p hl
    unfold OsR at hu
    rw [hl] at hu
    obtain ⟨ba, cap, rfl, h1, h2, h3, h4, h5, h6, _⟩ := hu
    unfold part at hp
    split at hp
    · obtain ⟨rfl, rfl, k1, k2, k3⟩ := h6 rfl
      split at hp
      · rename_i e l
        simp only [HP.post] at hp
        have hpos : 0 < e.size := by cases e <;> simp [ET.size]
        have hzz : p.z = e.size := by
          have : 0 < row.c.length := by rw [← hcl]; simp
          rw [← hok.zz 0 this, ← hz]; simp [zAt]
        have hll : len = l.length := by
          have : len * e.size = l.length * e.size := by
            rw [← hzz, k2, ← hok.size, ← hw]; simp [contSize, segSize, hzz]
          exact Nat.eq_of_mul_eq_mul_right hpos this
        subst hll
        refine ⟨_, hp, ?_⟩
        simp only [Rel]
        refine ⟨_, _, rfl, h2, fun h => by simp at h, fun hne => ?_⟩
        have hl0 : 0 < l.length := List.length_pos_iff.2 hne
        refine ⟨p.b, 0, by rw [h1 (by omega)]; simp [k1], cont_run hcp, fun q hq => hSp _ ?_⟩
        rw [← k2, hzz]; omega
      · split at hp
        · rename_i hall
          simp only [HP.post] at hp
          have hall' : ∀ v ∈ c', single v = true := List.all_eq_true.1 hall
          refine ⟨_, hp, ?_⟩
          have hcs := contSize_single hall'
          by_cases hc0 : c' = []
          · subst hc0
            have hw0 : p.w = 0 := by rw [← hok.size, ← hw]; rfl
            simp only [Rel]
            have : len = 0 := by
              rw [hw0] at k2
              rcases Nat.mul_eq_zero.1 k2 with h | h
              · exact h
              · have := hok.zp; omega
            subst this
            exact ⟨by simp, _, _, rfl, h2, fun h => by simp at h, fun h => absurd rfl h⟩
          · have hpos : 0 < c'.length := List.length_pos_iff.2 hc0
            have hzz : p.z = 1 := by
              rw [← hok.zz 0 (by omega), ← hz, zAt_single hall']
            have hll : len = c'.length := by rw [← hcs, hw, hok.size, ← k2, hzz]; omega
            subst hll
            simp only [Rel]
            refine ⟨hall', _, _, rfl, h2, fun h => by simp at h, fun hne => ?_⟩
            refine ⟨p.b, 0, by rw [h1 (by omega)]; simp [k1], hcp, fun q hq => hSp _ ?_⟩
            rw [← hok.size, ← hw, hcs]; omega
        · exact hp.elim
    · split at hp
      · rename_i e l hs
        simp only [HP.post, decide_eq_true_eq] at hp
        obtain ⟨hle, hq⟩ := hp
        have hsl := lt_of_get hs
        have hpos : 0 < e.size := by cases e <;> simp [ET.size]
        have hzz : p.z = e.size := by rw [← hok.zz s (by omega), ← hz]; simp [zAt, hs]
        have hr := (cont_get hcp hs).1 e l rfl
        have hoff : contSize (c'.take s) = p.lay s := by
          rw [hok.lay s (by omega)]
          exact contSize_congr (by rw [List.map_take, List.map_take, hsz])
        have hml : dropTake l i len = (l.drop i).take len := by cases i <;> rfl
        have hlen : ((l.drop i).take len).length = len := by simp; omega
        refine ⟨_, hq, ?_⟩
        rw [hml]
        simp only [Rel]
        refine ⟨_, _, by rw [hlen], by omega, fun h => by simp at h, fun hne => ?_⟩
        have hl0 : 0 < len := by rw [← hlen]; exact List.length_pos_iff.2 hne
        refine ⟨p.b, p.lay s + i * p.z, h1 (by omega), fun k x hk => ?_, fun q hq => hSp _ ?_⟩
        · have : l[i + k]? = some x := by
            rw [List.getElem?_take] at hk
            split at hk
            · rwa [List.getElem?_drop] at hk
            · cases hk
          have := hr _ _ this
          rw [hoff, Nat.zero_add, Nat.add_mul, ← Nat.add_assoc] at this
          rwa [hzz]
        · rw [hlen, ← hzz] at hq
          omega
      · rename_i v hv hs
        split at hp
        · have hall : c'.all single = true := by assumption
          simp only [HP.post] at hp
          have hall' : ∀ v ∈ c', single v = true := List.all_eq_true.1 hall
          have hsl := lt_of_get hs
          have hzz : p.z = 1 := by rw [← hok.zz s (by omega), ← hz, zAt_single hall']
          have hoff : contSize (c'.take s) = p.lay s := by
            rw [hok.lay s (by omega)]
            exact contSize_congr (by rw [List.map_take, List.map_take, hsz])
          rw [contSize_take_single hall' (by omega)] at hoff
          have hcs : contSize c' = c'.length := contSize_single hall'
          have hpw : p.w = c'.length := by rw [← hok.size, ← hw, hcs]
          rw [hzz] at h5
          have hlen : ((c'.drop s).take len).length = len := by simp; omega
          refine ⟨_, hp, ?_⟩
          simp only [Rel]
          refine ⟨fun v hv => hall' v (List.mem_of_mem_drop (List.mem_of_mem_take hv)), _, _, by rw [hlen], by omega, fun h => by simp at h, fun hne => ?_⟩
          have hl0 : 0 < len := by rw [← hlen]; exact List.length_pos_iff.2 hne
          refine ⟨p.b, p.lay s + 0 * p.z, h1 (by omega), ?_, fun q hq => hSp _ ?_⟩
          · have := cont_take_drop (s := s) (n := len) hcp
            rw [contSize_take_single hall' (by omega)] at this
            rw [← hoff]; simpa using this
          · rw [hlen] at hq; omega
        · exact hp.elim
      · exact hp.elim
def NormOK (T : Tab) (S : Stab) (w : World) (L : Loc) (h : Hs) (ids : List Nat) (n : Nat) : Prop :=
  ∀ (v : AV) (u : Value) (Q : AV × List Nat → Hs → List Nat → Prop), Rel T.P S w v L u → (norm n v).post h ids Q →
    ∃ p, Q p h ids ∧ (∀ r ∈ p.2, ∃ row, h r = some row) ∧ Rel T.P (plus S (cellsOf L p.2)) w p.1 noLoc u ∧ (single v = true → single p.1 = true)
theorem norm_run {n : Nat} {e : ET} {l : List e.T} {Q : AV × List Nat → Hs → List Nat → Prop} (hp : (norm (n + 1) (.run e l)).post h ids Q) : Q (.run e l, []) h ids := hp
theorem post_mapNorm {n : Nat} (hst : St T S w L h ids) (ih : NormOK T S w L h ids n) : ∀ (vs : List AV) (us : List Value) (Q : List (AV × List Nat) → Hs → List Nat → Prop),
    RelL T.P S w vs L us → (mapH (norm n) vs).post h ids Q →
    ∃ ps, Q ps h ids ∧ (∀ r ∈ (ps.map (·.2)).flatten, ∃ row, h r = some row) ∧ RelL T.P (plus S (cellsOf L (ps.map (·.2)).flatten)) w (ps.map (·.1)) noLoc us
  | [], us, Q, hr, hp => by
    simp only [mapH, HP.post] at hp
    simp only [RelL] at hr
    exact ⟨[], hp, by simp, by simpa [RelL] using hr⟩
  | v :: vs, us, Q, hr, hp => by
    simp only [mapH, HP.post_bind] at hp
    simp only [RelL] at hr
    obtain ⟨u, rest, rfl, h1, h2⟩ := hr
    obtain ⟨p, hp, e1, e2, _⟩ := ih v u _ h1 hp
    obtain ⟨ps, hp, e3, e4⟩ := post_mapNorm hst ih vs rest _ h2 hp
    simp only [HP.post] at hp
    refine ⟨p :: ps, hp, fun r hr => ?_, ?_⟩
    · simp at hr
      rcases hr with h | ⟨x, h, hx⟩
      · exact e1 r h
      · exact e3 r (by simp; exact ⟨x, h, hx⟩)
    · simp only [List.map_cons, RelL]
      refine ⟨u, rest, rfl, e2.mono ?_ (fun _ _ _ => rfl) _ (Loc.le_refl _), RelL.mono ?_ (fun _ _ _ => rfl) _ (Loc.le_refl _) e4⟩
      · exact cellsOf_mono (fun r hr => by simp [hr])
      · exact cellsOf_mono (fun r hr => by simp at hr ⊢; exact .inr hr)
theorem post_contNorm {n : Nat} (hst : St T S w L h ids) (ih : NormOK T S w L h ids n) {F : CellF} : ∀ (c : List AV) (q : Nat) (Q : List (AV × List Nat) → Hs → List Nat → Prop),
    Cont T.P S w c L F q → (mapH (norm n) c).post h ids Q →
    ∃ ps, Q ps h ids ∧ (∀ r ∈ (ps.map (·.2)).flatten, ∃ row, h r = some row) ∧ Cont T.P (plus S (cellsOf L (ps.map (·.2)).flatten)) w (ps.map (·.1)) noLoc F q ∧
      (ps.map (·.1)).map segSize = c.map segSize ∧ ∀ k, zAt (ps.map (·.1)) k = zAt c k
  | [], q, Q, hr, hp => by
    simp only [mapH, HP.post] at hp
    exact ⟨[], hp, by simp, by simp only [List.map_nil, Cont], rfl, fun _ => rfl⟩
  | v :: c, q, Q, hr, hp => by
    simp only [mapH, HP.post_bind] at hp
    simp only [Cont] at hr
    obtain ⟨h0, h1, h2⟩ := hr
    have key : ∀ p : AV × List Nat, (∀ r ∈ p.2, ∃ row, h r = some row) → segSize p.1 = segSize v → (∀ e l, p.1 = .run e l → v = .run e l) → (∀ e l, v = .run e l → p.1 = .run e l) →
        (single p.1 = true → ∃ u, F q = some u ∧ Rel T.P (plus S (cellsOf L p.2)) w p.1 noLoc u) →
        ((mapH (norm n) c).post h ids fun a h ids => (HP.ret (p :: a)).post h ids Q) →
        ∃ ps, Q ps h ids ∧ (∀ r ∈ (ps.map (·.2)).flatten, ∃ row, h r = some row) ∧ Cont T.P (plus S (cellsOf L (ps.map (·.2)).flatten)) w (ps.map (·.1)) noLoc F q ∧
          (ps.map (·.1)).map segSize = (v :: c).map segSize ∧ ∀ k, zAt (ps.map (·.1)) k = zAt (v :: c) k := by
      intro p g1 g2 g3 g3' g4 hp
      obtain ⟨ps, hp, e3, e4, e5, e6⟩ := post_contNorm hst ih c _ _ h2 hp
      simp only [HP.post] at hp
      refine ⟨p :: ps, hp, fun r hr => ?_, ?_, by simp only [List.map_cons, g2, e5], fun k => ?_⟩
      · simp at hr
        rcases hr with h | ⟨x, h, hx⟩
        · exact g1 r h
        · exact e3 r (by simp; exact ⟨x, h, hx⟩)
      · simp only [List.map_cons, Cont]
        refine ⟨fun e l hv => ?_, fun hs => ?_, ?_⟩
        · exact (h0 e l (g3 e l hv)).mono (fun _ _ h => .inl h) (fun _ _ _ => rfl) (fun _ _ => rfl)
        · obtain ⟨u, hu, hr⟩ := g4 hs
          exact ⟨u, hu, hr.mono (cellsOf_mono (fun r hr => by simp [hr])) (fun _ _ _ => rfl) _ (Loc.le_refl _)⟩
        · rw [g2]
          exact e4.mono (cellsOf_mono (fun r hr => by simp at hr ⊢; exact .inr hr)) (fun _ _ _ => rfl) _ (Loc.le_refl _) (fun _ _ => rfl)
      · cases k with
        | zero =>
          simp only [zAt, List.map_cons, List.getElem?_cons_zero]
          by_cases hv : ∃ e l, v = .run e l
          · obtain ⟨e, l, rfl⟩ := hv
            rw [g3' e l rfl]
          · have hp1 : ∀ e l, p.1 ≠ .run e l := fun e l h => hv ⟨e, l, g3 e l h⟩
            have hv1 : ∀ e l, v ≠ .run e l := fun e l h => hv ⟨e, l, h⟩
            split
            · rename_i heq; injection heq with heq; exact absurd heq (hp1 _ _)
            · split
              · rename_i heq; injection heq with heq; exact absurd heq (hv1 _ _)
              · rfl
        | succ k =>
          have := e6 k
          simpa [zAt] using this
    by_cases hs : single v = true
    · obtain ⟨u, hu, hrel⟩ := h1 hs
      obtain ⟨p, hp, e1, e2, e3⟩ := ih v u _ hrel hp
      refine key p e1 (by rw [segSize_single hs, segSize_single (e3 hs)]) (fun e l hv => ?_) (fun e l hv => ?_) (fun _ => ⟨u, hu, e2⟩) hp
      · have := e3 hs; rw [hv] at this; simp [single] at this
      · rw [hv] at hs; simp [single] at hs
    · have : ∃ e l, v = .run e l := by cases v <;> first | (exact ⟨_, _, rfl⟩) | (exact absurd rfl hs)
      obtain ⟨e, l, rfl⟩ := this
      cases n with
      | zero => exact hp.elim
      | succ n =>
        have hp := norm_run hp
        exact key (.run e l, []) (by simp) rfl (fun e' l' h => h) (fun e' l' h => h) (fun h => by simp [single] at h) hp
theorem cont_noLoc_of {row : Row} {p : Place} (hok : RowOK T.P S w L row p) (hl : row.loose = false) : Cont T.P S w row.c noLoc (cellsAt w p.b) 0 := by
  obtain ⟨arr, bt, hb, _, hc⟩ := hok.blk
  rw [hl] at hc
  rw [cellsAt_row hb]
  exact hc
theorem cont_of_row {row : Row} {p : Place} (hok : RowOK T.P S w L row p) : Cont T.P S w row.c L (cellsAt w p.b) 0 := by
  obtain ⟨arr, bt, hb, _, hc⟩ := hok.blk
  rw [cellsAt_row hb]
  refine hc.mono (fun _ _ h => h) (fun _ _ _ => rfl) _ ?_ (fun _ _ => rfl)
  cases row.loose
  · exact noLoc_le L
  · exact Loc.le_refl L
theorem normOK (hst : St T S w L h ids) : ∀ n, NormOK T S w L h ids n := by
  intro n
  induction n with
  | zero => intro v u Q hr hp; exact hp.elim
  | succ n ih =>
    intro v u Q hr hp
    have same : ∀ v', Q (v', []) h ids → Rel T.P S w v' noLoc u → (single v = true → single v' = true) →
        ∃ p, Q p h ids ∧ (∀ r ∈ p.2, ∃ row, h r = some row) ∧ Rel T.P (plus S (cellsOf L p.2)) w p.1 noLoc u ∧ (single v = true → single p.1 = true) :=
      fun v' hq hr hs => ⟨(v', []), hq, by simp, hr.mono (fun _ _ h => .inl h) (fun _ _ _ => rfl) _ (Loc.le_refl _), hs⟩
    cases v with
    | dead => exact same _ hp (by simp only [Rel]) (fun _ => rfl)
    | sc x => exact same _ hp (by simpa only [Rel] using hr) (fun _ => rfl)
    | run e l => simp only [Rel] at hr
    | sl e l t =>
      refine same _ hp ?_ (fun _ => rfl)
      simp only [Rel] at hr ⊢
      obtain ⟨ba, cap, h1, h2, h3, h4⟩ := hr
      exact ⟨ba, cap, h1, h2, fun h => by simp at h, h4⟩
    | slg vs t =>
      refine same _ hp ?_ (fun _ => rfl)
      simp only [Rel] at hr ⊢
      obtain ⟨h0, ba, cap, h1, h2, h3, h4⟩ := hr
      exact ⟨h0, ba, cap, h1, h2, fun h => by simp at h, h4⟩
    | pt c ty s i j => exact same _ hp (by simpa only [Rel] using hr) (fun _ => rfl)
    | iface t v => exact same _ hp (by simpa only [Rel] using hr) (fun _ => rfl)
    | os r s i len whole tight full =>
      simp only [norm, HP.post] at hp
      obtain ⟨row, hrow, hp⟩ := hp
      simp only [Rel] at hr
      split at hp
      · rename_i hlo
        rw [HP.post_bind] at hp
        have hS : ∀ p, L r = some (some p) → ∀ q, q < p.w → plus S (cellsOf L [r]) p.b q := fun p hl q hq => .inr ⟨r, by simp, p, hl, rfl, hq⟩
        obtain ⟨v, hq, hv⟩ := post_part (S' := plus S (cellsOf L [r])) (c' := row.c) hst hrow hr hS
          (fun p hl => (cont_noLoc_of (hst.row hrow hl) hlo).mono (fun _ _ h => .inl h) (fun _ _ _ => rfl) _ (Loc.le_refl _) (fun _ _ => rfl)) rfl (fun _ => rfl) hp
        simp only [HP.post] at hq
        refine ⟨_, hq, fun r' hr' => ?_, hv, fun _ => ?_⟩
        · simp at hr'; subst hr'; exact ⟨row, hrow⟩
        · cases v <;> first | rfl | (simp only [Rel] at hv)
      · rename_i hlo
        rw [HP.post_bind] at hp
        have hcont : ∀ F q, Cont T.P S w row.c L F q → ∃ ps, _ := fun F q hc => post_contNorm hst ih row.c q _ hc hp
        rcases hst.inv.rows r row hrow with ⟨hl, hn⟩ | ⟨p, hl, hok⟩
        · have hc0 : Cont T.P S w row.c L (fun _ => none) 0 := by
            rcases hn with h | ⟨e, h⟩ <;> rw [h]
            · simp only [Cont]
            · exact cont_of_run fun i x hx => by simp at hx
          obtain ⟨ps, hp, e1, e2, e3, e4⟩ := hcont _ _ hc0
          rw [HP.post_bind] at hp
          obtain ⟨v, hq, hv⟩ := post_part (S' := plus S (cellsOf L (r :: (ps.map (·.2)).flatten))) hst hrow hr (fun p hl' => by rw [hl] at hl'; cases hl') (fun p hl' => by rw [hl] at hl'; cases hl') e3 e4 hp
          simp only [HP.post] at hq
          refine ⟨_, hq, fun r' hr' => ?_, hv, fun _ => ?_⟩
          · simp only [List.mem_cons] at hr'
            rcases hr' with rfl | hr'
            · exact ⟨row, hrow⟩
            · exact e1 r' hr'
          · cases v <;> first | rfl | (simp only [Rel] at hv)
        · obtain ⟨ps, hp, e1, e2, e3, e4⟩ := hcont _ _ (cont_of_row hok)
          rw [HP.post_bind] at hp
          obtain ⟨v, hq, hv⟩ := post_part (S' := plus S (cellsOf L (r :: (ps.map (·.2)).flatten))) hst hrow hr (fun p' hl' q hq => .inr ⟨r, by simp, p', hl', rfl, hq⟩)
            (fun p' hl' => by
              rw [hl] at hl'; cases hl'
              exact e2.mono (cellsOf_mono fun r hr => by simp only [List.mem_cons]; exact .inr hr) (fun _ _ _ => rfl) _ (Loc.le_refl _) (fun _ _ => rfl)) e3 e4 hp
          simp only [HP.post] at hq
          refine ⟨_, hq, fun r' hr' => ?_, hv, fun _ => ?_⟩
          · simp only [List.mem_cons] at hr'
            rcases hr' with rfl | hr'
            · exact ⟨row, hrow⟩
            · exact e1 r' hr'
          · cases v <;> first | rfl | (simp only [Rel] at hv)
    | ps r s i j =>
      simp only [norm, HP.post] at hp
      obtain ⟨row, hrow, hs, hp⟩ := hp
      have hs : s < row.c.length := Nat.le_of_ble_eq_true hs
      simp only [Rel] at hr
      obtain ⟨p, hl, rfl⟩ := psR_some hr
      have hok := hst.row hrow hl
      have hfin : ∀ (c' : List AV) (rs : List Nat), Cont T.P (plus S (cellsOf L rs)) w c' noLoc (cellsAt w p.b) 0 → c'.map segSize = row.c.map segSize → (∀ k, zAt c' k = zAt row.c k) → r ∈ rs →
          Rel T.P (plus S (cellsOf L rs)) w (.pt c' (rowTy row) s i j) noLoc (.pointer (some ⟨p.b, p.lay s + i * p.z + j, none⟩)) := by
        intro c' rs hc hsz hz hmem
        simp only [Rel]
        refine ⟨p.b, 0, ?_, hc, fun q hq => .inr ⟨r, hmem, p, hl, rfl, ?_⟩, fun t ht => by rw [hsz]; exact rowTy_sizes hok t ht⟩
        · rw [hok.off hs, hz s]
          have : contSize (c'.take s) = contSize (row.c.take s) := contSize_congr (by rw [List.map_take, List.map_take, hsz])
          rw [this]
        · rw [contSize_congr hsz, hok.size] at hq
          omega
      split at hp
      · rename_i hlo
        simp only [HP.post] at hp
        refine ⟨_, hp, fun r' hr' => ?_, hfin row.c [r] ((cont_noLoc_of hok hlo).mono (fun _ _ h => .inl h) (fun _ _ _ => rfl) _ (Loc.le_refl _) (fun _ _ => rfl)) rfl (fun _ => rfl) (by simp), fun _ => rfl⟩
        simp at hr'; subst hr'; exact ⟨row, hrow⟩
      · rw [HP.post_bind] at hp
        obtain ⟨ps, hp, e1, e2, e3, e4⟩ := post_contNorm hst ih row.c 0 _ (cont_of_row hok) hp
        simp only [HP.post] at hp
        refine ⟨_, hp, fun r' hr' => ?_, hfin _ (r :: (ps.map (·.2)).flatten) (e2.mono (cellsOf_mono fun r hr => by simp only [List.mem_cons]; exact .inr hr) (fun _ _ _ => rfl) _ (Loc.le_refl _) (fun _ _ => rfl)) e3 e4 (by simp), fun _ => rfl⟩
        simp only [List.mem_cons] at hr'
        rcases hr' with rfl | hr'
        · exact ⟨row, hrow⟩
        · exact e1 r' hr'
    | agg c l =>
      cases l with
      | false => exact same _ hp (by simpa only [Rel] using hr) (fun _ => rfl)
      | true =>
        simp only [norm] at hp
        rw [HP.post_bind] at hp
        simp only [Rel] at hr
        obtain ⟨arr, hu, hsz, hc⟩ := hr
        obtain ⟨ps, hp, e1, e2, e3, e4⟩ := post_contNorm hst ih c 0 _ hc hp
        simp only [HP.post] at hp
        refine ⟨_, hp, e1, ?_, fun _ => rfl⟩
        simp only [Rel]
        exact ⟨arr, hu, by rw [hsz, contSize_congr e3], e2⟩
    | fn f first caps =>
      simp only [norm, HP.post_bind] at hp
      simp only [Rel] at hr
      obtain ⟨fa, ca, hu, h1, h2⟩ := hr
      obtain ⟨ps, hp, e1, e2⟩ := post_mapNorm hst ih first _ _ h1 hp
      obtain ⟨qs, hp, e3, e4⟩ := post_mapNorm hst ih caps _ _ h2 hp
      simp only [HP.post] at hp
      refine ⟨_, hp, fun r hr => ?_, ?_, fun _ => rfl⟩
      · simp only [List.mem_append] at hr
        rcases hr with h | h
        · exact e1 r h
        · exact e3 r h
      · simp only [Rel]
        exact ⟨fa, ca, hu, RelL.mono (cellsOf_mono fun r hr => List.mem_append_left _ hr) (fun _ _ _ => rfl) _ (Loc.le_refl _) e2,
          RelL.mono (cellsOf_mono fun r hr => List.mem_append_right _ hr) (fun _ _ _ => rfl) _ (Loc.le_refl _) e4⟩
    | tuple vs =>
      simp only [norm, HP.post_bind] at hp
      simp only [Rel] at hr
      obtain ⟨arr, hu, h1⟩ := hr
      obtain ⟨ps, hp, e1, e2⟩ := post_mapNorm hst ih vs _ _ h1 hp
      simp only [HP.post] at hp
      refine ⟨_, hp, e1, ?_, fun _ => rfl⟩
      simp only [Rel]
      exact ⟨arr, hu, e2⟩
end
end Go.Ev
namespace Go.Ev
open Go
set_option linter.unusedVariables false
set_option linter.unusedSimpArgs false
section
variable {T : Tab} {S : Stab} {w : World} {L : Loc} {h : Hs} {ids : List Nat} {a : Act} {o : Oper} {fr : Fr}
theorem lt_of_heap {w : World} {b : Nat} {x : Obj} (h : w.heap[b]? = some x) : b < w.heap.size := by
  rcases Nat.lt_or_ge b w.heap.size with h' | h'
  · exact h'
  · simp [Array.getElem?_eq_none h'] at h
theorem RowOK.mono {S' : Stab} {L' : Loc} {row : Row} {p : Place} (hok : RowOK T.P S w L row p) (hS : ∀ b q, S b q → S' b q) (hL : L.le L') (hst : ∀ q, S' p.b q → row.fz = true ∧ q < p.w) : RowOK T.P S' w L' row p := by
  obtain ⟨arr, bt, hb, hs, hc⟩ := hok.blk
  exact ⟨⟨arr, bt, hb, hs, hc.mono hS (fun _ _ _ => rfl) _ (lOf_le hL) (fun _ _ => rfl)⟩, hok.size, hok.le, hok.lay, hok.zz, hok.vr, hst, hok.zp⟩
theorem GlobOK.mono {S' : Stab} {w' : World} (hg : GlobOK T S w) (hS : ∀ b q, S b q → S' b q) (hw : Stays S w w') : GlobOK T S' w' :=
  fun g c ty hgl => (hg g c ty hgl).mono hS hw _ (Loc.le_refl _)
theorem St.drop {r : Nat} (hst : St T S w L h ids) : St T S w L (upd h r none) ids := by
  have old : ∀ x rx, upd h r none x = some rx → x ≠ r ∧ h x = some rx := by
    intro x rx hx
    by_cases e : x = r
    · subst e; rw [upd_same] at hx; cases hx
    · rw [upd_ne _ _ e] at hx; exact ⟨e, hx⟩
  refine ⟨⟨fun x row hx => hst.inv.rows x row (old _ _ hx).2, fun r1 r2 x1 x2 p1 p2 h1 h2 h3 h4 h5 => hst.inv.disj r1 r2 x1 x2 p1 p2 (old _ _ h1).2 (old _ _ h2).2 h3 h4 h5, hst.inv.stab⟩, hst.nd, hst.fresh, fun x hx => ?_, hst.glob⟩
  by_cases e : x = r
  · subst e; rw [upd_same]
  · rw [upd_ne _ _ e]; exact hst.dom x hx
def killed (h : Hs) (row : Row) : Hs := match row.kin with
  | none => h
  | some q => upd h q.1 none
theorem post_killKin {α : Type} {row : Row} {p : HP α} {Q : α → Hs → List Nat → Prop} (hp : (killKin row p).post h ids Q) : p.post (killed h row) ids Q := by
  unfold killKin at hp
  unfold killed
  split at hp
  · rename_i hk; rw [hk]; exact hp
  · rename_i q hk; rw [hk]; exact hp
theorem killed_old {row : Row} {x : Nat} {rx : Row} (hx : killed h row x = some rx) : h x = some rx ∧ ∀ q, row.kin = some q → x ≠ q.1 := by
  unfold killed at hx
  cases hk : row.kin with
  | none => rw [hk] at hx; exact ⟨hx, fun q hq => by cases hq⟩
  | some q =>
    rw [hk] at hx
    by_cases e : x = q.1
    · simp only [e, upd_same] at hx; cases hx
    · simp only [upd_ne _ _ e] at hx
      exact ⟨hx, fun q' hq' => by injection hq' with hq'; subst hq'; exact e⟩
theorem St.kill {r : Nat} {row : Row} (hst : St T S w L h ids) (hr : h r = some row) (hk : ∃ old, killed h row r = some old) :
    St T S w L (killed h row) ids ∧ killed h row r = some row ∧ ∀ p, L r = some (some p) → Sole L (killed h row) r p := by
  obtain ⟨old, hk⟩ := hk
  have h1 := (killed_old hk).1
  rw [hr] at h1
  injection h1 with h1
  subst h1
  refine ⟨?_, hk, fun p hl y rowy py hy hly hb => ?_⟩
  · unfold killed
    split
    · exact hst
    · exact hst.drop
  · obtain ⟨hy1, hy2⟩ := killed_old hy
    rcases hst.inv.disj r y row rowy p py hr hy1 hl hly hb.symm with h1 | ⟨h1, _⟩ | ⟨_, h1, _⟩
    · exact h1.symm
    · exact absurd rfl (hy2 _ h1)
    · exact absurd rfl (hy2 _ h1)
theorem St.rekin {r : Nat} {row : Row} (hst : St T S w L h ids) (hr : h r = some row) (hsole : ∀ p, L r = some (some p) → Sole L h r p) (k : Option (Nat × Bool)) :
    St T S w L (upd h r (some { row with kin := k })) ids := by
  refine ⟨⟨fun r' row' hr' => ?_, fun r1 r2 x1 x2 p1 p2 h1 h2 h3 h4 h5 => ?_, hst.inv.stab⟩, hst.nd, hst.fresh, fun r' hr' => ?_, hst.glob⟩
  · by_cases e : r' = r
    · subst e
      rw [upd_same] at hr'
      injection hr' with hr'
      subst hr'
      rcases hst.inv.rows r' row hr with ⟨h1, h2⟩ | ⟨p, h1, h2⟩
      · exact .inl ⟨h1, h2⟩
      · exact .inr ⟨p, h1, ⟨h2.blk, h2.size, h2.le, h2.lay, h2.zz, h2.vr, h2.st, h2.zp⟩⟩
    · rw [upd_ne _ _ e] at hr'
      exact hst.inv.rows r' row' hr'
  · by_cases e1 : r1 = r
    · subst e1
      by_cases e2 : r2 = r1
      · exact .inl e2.symm
      · rw [upd_ne _ _ e2] at h2
        exact .inl (hsole p1 h3 r2 x2 p2 h2 h4 h5.symm).symm
    · rw [upd_ne _ _ e1] at h1
      by_cases e2 : r2 = r
      · subst e2
        exact .inl (hsole p2 h4 r1 x1 p1 h1 h3 h5)
      · rw [upd_ne _ _ e2] at h2
        exact hst.inv.disj r1 r2 x1 x2 p1 p2 h1 h2 h3 h4 h5
  · by_cases e : r' = r
    · subst e; rw [hst.dom r' hr'] at hr; cases hr
    · rw [upd_ne _ _ e]; exact hst.dom r' hr'
theorem St.freeze1 {r : Nat} {row : Row} (hst : St T S w L h ids) (hr : h r = some row) (hsole : ∀ p, L r = some (some p) → Sole L h r p) :
    St T (plus S (cellsOf L [r])) w L (upd h r (some { row with fz := true, kin := none })) ids ∧ Ext w S L w (plus S (cellsOf L [r])) L := by
  refine ⟨⟨⟨fun r' row' hr' => ?_, fun r1 r2 x1 x2 p1 p2 h1 h2 h3 h4 h5 => ?_, fun b q hq => ?_⟩, hst.nd, hst.fresh, fun r' hr' => ?_, hst.glob.mono (fun _ _ h => .inl h) (fun _ _ _ => rfl)⟩, ?_⟩
  · by_cases e : r' = r
    · subst e
      rw [upd_same] at hr'
      injection hr' with hr'
      subst hr'
      rcases hst.inv.rows r' row hr with ⟨h1, h2⟩ | ⟨p, h1, h2⟩
      · exact .inl ⟨h1, h2⟩
      · refine .inr ⟨p, h1, ?_⟩
        obtain ⟨arr, bt, hb, hs, hc⟩ := h2.blk
        refine ⟨⟨arr, bt, hb, hs, hc.mono (fun _ _ h => .inl h) (fun _ _ _ => rfl) _ (Loc.le_refl _) (fun _ _ => rfl)⟩, h2.size, h2.le, h2.lay, h2.zz, h2.vr, fun q hq => ⟨rfl, ?_⟩, h2.zp⟩
        rcases hq with hq | ⟨r2, hr2, p2, h3, h4, h5⟩
        · exact (h2.st q hq).2
        · simp at hr2; subst hr2
          rw [h1] at h3; cases h3
          exact h5
    · rw [upd_ne _ _ e] at hr'
      rcases hst.inv.rows r' row' hr' with ⟨h1, h2⟩ | ⟨p, h1, h2⟩
      · exact .inl ⟨h1, h2⟩
      · refine .inr ⟨p, h1, h2.mono (fun _ _ h => .inl h) (Loc.le_refl _) fun q hq => ?_⟩
        rcases hq with hq | ⟨r2, hr2, p2, h3, h4, h5⟩
        · exact h2.st q hq
        · simp at hr2; subst hr2
          exact absurd (hsole p2 h3 r' row' p hr' h1 h4.symm) e
  · by_cases e1 : r1 = r
    · subst e1
      by_cases e2 : r2 = r1
      · exact .inl e2.symm
      · rw [upd_ne _ _ e2] at h2
        exact .inl (hsole p1 h3 r2 x2 p2 h2 h4 h5.symm).symm
    · rw [upd_ne _ _ e1] at h1
      by_cases e2 : r2 = r
      · subst e2
        exact .inl (hsole p2 h4 r1 x1 p1 h1 h3 h5)
      · rw [upd_ne _ _ e2] at h2
        exact hst.inv.disj r1 r2 x1 x2 p1 p2 h1 h2 h3 h4 h5
  · rcases hq with hq | ⟨r2, hr2, p2, h3, h4, h5⟩
    · exact hst.inv.stab b q hq
    · simp at hr2; subst hr2
      obtain ⟨arr, bt, hb, _, _⟩ := (hst.row hr h3).blk
      rw [← h4]; exact lt_of_heap hb
  · by_cases e : r' = r
    · subst e; rw [hst.dom r' hr'] at hr; cases hr
    · rw [upd_ne _ _ e]; exact hst.dom r' hr'
  · refine ⟨fun _ _ h => .inl h, fun _ _ _ => rfl, Loc.le_refl _, fun b q hq => ?_, fun _ _ _ => rfl, Nat.le_refl _, rfl, rfl, rfl, fun r p h => .inl ⟨r, p, h, rfl⟩, fun _ _ => rfl, fun b arr bt h => ⟨arr, h, rfl⟩⟩
    rcases hq with hq | ⟨r2, hr2, p2, h3, h4, h5⟩
    · exact .inl hq
    · exact .inr (.inr ⟨r2, p2, h3, h4⟩)
theorem post_freezeR : ∀ (rs : List Nat) {S : Stab} {h : Hs} {Q : Unit → Hs → List Nat → Prop}, St T S w L h ids → (freezeR rs).post h ids Q →
    ∃ h' S', Q () h' ids ∧ St T S' w L h' ids ∧ Ext w S L w S' L ∧ (∀ b q, plus S (cellsOf L rs) b q → S' b q)
  | [], S, h, Q, hst, hp => by
    refine ⟨h, S, hp, hst, Ext.refl _ _ _, fun b q hq => ?_⟩
    rcases hq with hq | ⟨r, hr, _⟩
    · exact hq
    · simp at hr
  | r :: rs, S, h, Q, hst, hp => by
    simp only [freezeR, HP.post] at hp
    obtain ⟨row, hrow, hp⟩ := hp
    have hp := post_killKin hp
    simp only [HP.post] at hp
    obtain ⟨hk, hp⟩ := hp
    obtain ⟨k1, k2, k3⟩ := hst.kill hrow hk
    obtain ⟨h1, h2⟩ := k1.freeze1 k2 k3
    obtain ⟨h', S', hq, h3, h4, h5⟩ := post_freezeR rs h1 hp
    refine ⟨h', S', hq, h3, h2.trans h4, fun b q hb => h5 b q ?_⟩
    rcases hb with hb | ⟨r2, hr2, hx⟩
    · exact .inl (.inl hb)
    · simp at hr2
      rcases hr2 with rfl | hr2
      · exact .inl (.inr ⟨r2, by simp, hx⟩)
      · exact .inr ⟨r2, hr2, hx⟩
theorem post_normF {v : AV} {u : Value} {Q : AV → Hs → List Nat → Prop} (hst : St T S w L h ids) (hv : Rel T.P S w v L u) (hp : (normF v).post h ids Q) :
    ∃ v' h' S', Q v' h' ids ∧ St T S' w L h' ids ∧ Ext w S L w S' L ∧ Rel T.P S' w v' noLoc u ∧ (single v = true → single v' = true) := by
  unfold normF at hp
  rw [HP.post_bind] at hp
  obtain ⟨p, hp, _, h2, h3⟩ := normOK hst 6 v u _ hv hp
  rw [HP.post_bind] at hp
  obtain ⟨h', S', hq, h4, h5, h6⟩ := post_freezeR p.2 hst hp
  exact ⟨p.1, h', S', hq, h4, h5, h2.mono h6 (fun _ _ _ => rfl) _ (Loc.le_refl _), h3⟩
theorem post_mapNormF : ∀ (vs : List AV) (us : List Value) {S : Stab} {h : Hs} {Q : List AV → Hs → List Nat → Prop}, St T S w L h ids → RelL T.P S w vs L us → (mapH normF vs).post h ids Q →
    ∃ vs' h' S', Q vs' h' ids ∧ St T S' w L h' ids ∧ Ext w S L w S' L ∧ RelL T.P S' w vs' noLoc us
  | [], us, S, h, Q, hst, hr, hp => by
    simp only [RelL] at hr
    exact ⟨[], h, S, hp, hst, Ext.refl _ _ _, by simpa [RelL] using hr⟩
  | v :: vs, us, S, h, Q, hst, hr, hp => by
    simp only [mapH, HP.post_bind] at hp
    simp only [RelL] at hr
    obtain ⟨u, rest, rfl, h1, h2⟩ := hr
    obtain ⟨v', h', S', hp, h3, h4, h5, _⟩ := post_normF hst h1 hp
    obtain ⟨vs', h'', S'', hp, h6, h7, h8⟩ := post_mapNormF vs rest h3 (RelL.mono h4.sub h4.stays _ (Loc.le_refl _) h2) hp
    simp only [HP.post] at hp
    refine ⟨v' :: vs', h'', S'', hp, h6, h4.trans h7, ?_⟩
    simp only [RelL]
    exact ⟨u, rest, rfl, h5.mono h7.sub h7.stays _ (Loc.le_refl _), h8⟩
section ops
variable {Q : AV → Hs → List Nat → Prop}
theorem op_makeInterface {t : TypeId} {x : Operand} (ho : o.op = .makeInterface t x) (hst : St T S w L h ids) (hx : Rel T.P S w (opv T fr x) L (a.eval x))
    (hp : (evOp T o fr).post h ids Q) : Runs T o a w S L Q := by
  simp only [evOp, ho] at hp
  split at hp
  · exact hp.elim
  · rename_i d hd
    split at hp
    · exact hp.elim
    · rename_i hne
      rw [HP.post_bind] at hp
      obtain ⟨v', h', S', hq, h1, h2, h3, _⟩ := post_normF hst hx hp
      simp only [HP.post] at hq
      refine ⟨_, _, _, S', L, w, _, .iface t (a.eval x), hq, ?_, .inl rfl, ?_, h1, h2⟩
      · have : (underlying t).run T.P w = .ok d w := by simp [underlying, hd]
        simp only [execOp, ho, Instr.makeInterface, Sem.run_bind, this, Result.andThen_ok]
        cases d <;> first | rfl | (exact (hne _ rfl).elim)
      · simp only [Rel]
        exact ⟨_, rfl, h3⟩
theorem run_builtin {b : Builtin} {c : Call} (ho : o.op = .call c) (hc : c.callee = .builtin b) {x : Value} {w' : World}
    (hr : ∀ cs, (builtin b c.argTypes o.type cs (c.args.map a.eval)).run T.P w = .ok (.value x) w') :
    (execOp a.eval o).run T.P w = .ok (.value x) w' := by
  simp [execOp, ho, resolve, hc, invoke, hr]
theorem cont_segNil {L' : Loc} : ∀ (ts : List TypeId) {c : List AV} {F : CellF} {o : Nat}, Cont T.P S w c L' F o → Cont T.P S w (segNil T ts c) L' F o ∧ contSize (segNil T ts c) = contSize c
  | [], _, _, _, h => ⟨h, rfl⟩
  | _ :: _, [], _, _, h => ⟨h, rfl⟩
  | t :: ts, v :: c, F, o, h => by
    simp only [Cont] at h
    obtain ⟨h1, h2, h3⟩ := h
    obtain ⟨i1, i2⟩ := cont_segNil ts h3
    simp only [segNil]
    split
    · rename_i v
      have key : ∀ x : ET, (∀ e l, (.sl x [] false : AV) = .run e l → RunR S w e l F o) ∧ (single (.sl x [] false) = true → ∃ u, F o = some u ∧ Rel T.P S w (.sl x [] false) L' u) := by
        intro x
        refine ⟨fun e l h => by (cases h), fun _ => ?_⟩
        obtain ⟨u, e1, e2⟩ := h2 rfl
        refine ⟨u, e1, ?_⟩
        simp only [Rel] at e2 ⊢
        exact ⟨none, 0, e2, Nat.le_refl _, fun _ => rfl, fun h => absurd rfl h⟩
      split
      · split
        · rename_i x _
          refine ⟨?_, by simp only [contSize, segSize, i2]⟩
          simp only [Cont]
          exact ⟨(key x).1, (key x).2, i1⟩
        · exact ⟨by simp only [Cont]; exact ⟨h1, h2, i1⟩, by simp only [contSize, i2]⟩
      · exact ⟨by simp only [Cont]; exact ⟨h1, h2, i1⟩, by simp only [contSize, i2]⟩
    · exact ⟨by simp only [Cont]; exact ⟨h1, h2, i1⟩, by simp only [contSize, i2]⟩
theorem rel_aggNil {t : TypeId} {v : AV} {u : Value} (hv : Rel T.P S w v L u) : Rel T.P S w (aggNil T t v) L u := by
  unfold aggNil
  split
  · exact rel_typeNil hv
  · split
    · split
      · simp only [Rel] at hv ⊢
        obtain ⟨arr, rfl, e1, e2⟩ := hv
        obtain ⟨i1, i2⟩ := cont_segNil (T := T) _ e2
        exact ⟨arr, rfl, by rw [i2]; exact e1, i1⟩
      · exact hv
    · exact rel_typeNil hv
theorem relL_argsNil : ∀ (ts : List TypeId) {vs : List AV} {us : List Value}, RelL T.P S w vs L us → RelL T.P S w (argsNil T ts vs) L us
  | [], _, _, h => h
  | _ :: _, [], _, h => h
  | t :: ts, v :: vs, us, h => by
    simp only [RelL] at h
    obtain ⟨u, rest, rfl, h1, h2⟩ := h
    simp only [argsNil, RelL]
    exact ⟨u, rest, rfl, rel_aggNil h1, relL_argsNil ts h2⟩
theorem relL_args {ρ : Operand → AV} {xs : Array Operand} (hx : ∀ x ∈ xs.toList, Rel T.P S w (ρ x) L (a.eval x)) : RelL T.P S w (xs.toList.map ρ) L ((xs.map a.eval).toList) := by
  rw [Array.toList_map]
  exact relL_map _ _ _ hx
theorem rel1 {vs : List AV} {us : List Value} {x : AV} (hr : RelL T.P S w vs L us) (h : vs = [x]) : ∃ u, us = [u] ∧ Rel T.P S w x L u := by
  subst h
  simp only [RelL] at hr
  obtain ⟨u, rest, h1, h2, h3⟩ := hr
  exact ⟨u, by rw [h1, h3], h2⟩
theorem rel2 {vs : List AV} {us : List Value} {x y : AV} (hr : RelL T.P S w vs L us) (h : vs = [x, y]) : ∃ u v, us = [u, v] ∧ Rel T.P S w x L u ∧ Rel T.P S w y L v := by
  subst h
  simp only [RelL] at hr
  obtain ⟨u, rest, h1, h2, v, rest', h3, h4, h5⟩ := hr
  exact ⟨u, v, by rw [h1, h3, h5], h2, h4⟩
theorem arr_of {α : Type} {xs : Array α} {l : List α} (h : xs.toList = l) : xs = l.toArray := by
  rw [← h]
theorem run_lenCap {t ty : TypeId} {x : AV} {u : Value} (hx : Rel T.P S w x L u) (hp : (capV T t x).post h ids Q) :
    ∃ n : Nat, Q (vi n) h ids ∧ (Builtin.cap_ #[t] ty #[u]).run T.P w = .ok (.int .i64 n) w := by
  unfold capV at hp
  split at hp
  · rename_i e r s i len x y z h1
    simp only [HP.post] at hp
    obtain ⟨b, n, c, rfl, _, h2⟩ := slice_of_rel hx (.inl ⟨_, _, _, _, _, _, _, rfl⟩)
    have := h2.2 hp.1
    refine ⟨len, hp.2, ?_⟩
    simp [Builtin.cap_, underlying, desc_some h1 (by simp), goInt, this, h2.1]
  · rename_i e q l y h1
    simp only [HP.post] at hp
    obtain ⟨b, n, c, rfl, _, h2⟩ := slice_of_rel hx (.inr (.inl ⟨_, _, _, rfl⟩))
    have := h2.2 hp.1
    refine ⟨l.length, hp.2, ?_⟩
    simp [Builtin.cap_, underlying, desc_some h1 (by simp), goInt, this, h2.1]
  · rename_i e vs y h1
    simp only [HP.post] at hp
    obtain ⟨b, n, c, rfl, _, h2⟩ := slice_of_rel hx (.inr (.inr ⟨_, _, rfl⟩))
    have := h2.2 hp.1
    refine ⟨vs.length, hp.2, ?_⟩
    simp [Builtin.cap_, underlying, desc_some h1 (by simp), goInt, this, h2.1]
  · rename_i n e h1
    simp only [HP.post] at hp
    refine ⟨n, hp, ?_⟩
    simp [Builtin.cap_, underlying, desc_some h1 (by simp), goInt]
  · exact hp.elim
theorem op_lenCap {ρ : Operand → AV} {b : Builtin} {c : Call} (hb : b = .len ∨ b = .cap) (ho : o.op = .call c) (hc : c.callee = .builtin b) (hst : St T S w L h ids) (hx : ∀ x ∈ c.args.toList, Rel T.P S w (ρ x) L (a.eval x))
    (hp : (builtinV T b c.argTypes.toList (c.args.toList.map ρ)).post h ids Q) : Runs T o a w S L Q := by
  have hr := relL_args (T := T) (ρ := ρ) (a := a) hx
  rcases hb with rfl | rfl
  · simp only [builtinV] at hp
    split at hp
    · rename_i t x h1 h2
      obtain ⟨u, hu, hrel⟩ := rel1 hr h2
      have e1 := arr_of h1
      have e2 := arr_of hu
      obtain ⟨n, hq, hrun⟩ := run_lenV (ty := o.type) hrel hp
      refine Runs.here hst hq (run_builtin ho hc fun cs => ?_) (x := .int .i64 n) (by simp only [Rel])
      rw [e1, e2]
      simp [builtin, hrun]
    · exact hp.elim
  · simp only [builtinV] at hp
    split at hp
    · rename_i t x h1 h2
      obtain ⟨u, hu, hrel⟩ := rel1 hr h2
      have e1 := arr_of h1
      have e2 := arr_of hu
      obtain ⟨n, hq, hrun⟩ := run_lenCap (ty := o.type) hrel hp
      refine Runs.here hst hq (run_builtin ho hc fun cs => ?_) (x := .int .i64 n) (by simp only [Rel])
      rw [e1, e2]
      simp [builtin, hrun]
    · exact hp.elim
theorem mmStep_none {mx : Bool} : ∀ l : List AV, l.foldl (mmStep mx) none = none
  | [] => rfl
  | x :: l => by rw [List.foldl_cons]; exact mmStep_none l
theorem run_fold {mx : Bool} : ∀ (l : List AV) (us : List Value) (k : IntKind) (m : Int) (r : AV), RelL T.P S w l L us →
    l.foldl (mmStep mx) (some (AV.sc (.int k m))) = some r →
    ∃ n, r = .sc (.int k n) ∧ (us.foldlM (match mx with | true => Builtin.max2 | false => Builtin.min2) (.int k m)).run T.P w = .ok (.int k n) w
  | [], us, k, m, r, hr, hf => by
    simp only [RelL] at hr
    subst hr
    simp only [List.foldl_nil, Option.some.injEq] at hf
    exact ⟨m, hf.symm, by simp⟩
  | v :: l, us, k, m, r, hr, hf => by
    simp only [RelL] at hr
    obtain ⟨u, rest, rfl, h1, h2⟩ := hr
    rw [List.foldl_cons] at hf
    simp only [mmStep] at hf
    split at hf
    · rename_i k2 b1
      simp only [Rel] at h1
      subst h1
      by_cases hk : k = k2
      · subst hk
        simp only [decide_true, cond_true] at hf
        obtain ⟨n, hn, hrun⟩ := run_fold l rest k _ r h2 hf
        refine ⟨n, hn, ?_⟩
        cases mx
        · simp only [List.foldlM_cons, Sem.run_bind, Builtin.min2, Sem.run_pure, Result.andThen_ok]
          exact hrun
        · simp only [List.foldlM_cons, Sem.run_bind, Builtin.max2, Sem.run_pure, Result.andThen_ok]
          exact hrun
      · simp only [hk, decide_false, cond_false] at hf
        rw [mmStep_none] at hf; cases hf
    · rw [mmStep_none] at hf; cases hf
theorem op_minMax {ρ : Operand → AV} {b : Builtin} {c : Call} (hb : b = .min ∨ b = .max) (ho : o.op = .call c) (hc : c.callee = .builtin b) (hst : St T S w L h ids) (hx : ∀ x ∈ c.args.toList, Rel T.P S w (ρ x) L (a.eval x))
    (hp : (builtinV T b c.argTypes.toList (c.args.toList.map ρ)).post h ids Q) : Runs T o a w S L Q := by
  have hr := relL_args (T := T) (ρ := ρ) (a := a) hx
  have key : ∀ mx, (outOf (foldMM mx (c.args.toList.map ρ))).post h ids Q → ∃ k n, Q (.sc (.int k n)) h ids ∧ ∃ u rest, (c.args.map a.eval).toList = u :: rest ∧ (rest.foldlM (match mx with | true => Builtin.max2 | false => Builtin.min2) u).run T.P w = .ok (.int k n) w := by
    intro mx hp
    unfold outOf at hp
    split at hp
    · rename_i v hv
      simp only [HP.post] at hp
      unfold foldMM at hv
      split at hv
      · cases hv
      · rename_i k m l heq
        rw [heq] at hr
        simp only [RelL] at hr
        obtain ⟨u, rest, hu, h1, h2⟩ := hr
        simp only [Rel] at h1
        subst h1
        obtain ⟨n, hn, hrun⟩ := run_fold (T := T) l rest k m v h2 hv
        subst hn
        exact ⟨k, n, hp, _, rest, hu, hrun⟩
      · cases hv
    · exact hp.elim
  rcases hb with rfl | rfl
  · obtain ⟨k, n, hq, u, rest, hu, hrun⟩ := key false hp
    refine Runs.here hst hq (run_builtin ho hc fun cs => ?_) (x := .int k n) (by simp only [Rel])
    simp only [builtin, Builtin.min_, hu, Sem.run_bind, Sem.run_pure]
    simp only at hrun
    rw [hrun]; rfl
  · obtain ⟨k, n, hq, u, rest, hu, hrun⟩ := key true hp
    refine Runs.here hst hq (run_builtin ho hc fun cs => ?_) (x := .int k n) (by simp only [Rel])
    simp only [builtin, Builtin.max_, hu, Sem.run_bind, Sem.run_pure]
    simp only at hrun
    rw [hrun]; rfl
end ops
end
end Go.Ev
namespace Go.Ev
open Go
set_option linter.unusedVariables false
set_option linter.unusedSimpArgs false
section
variable {T : Tab} {S : Stab} {w : World} {L : Loc} {h : Hs} {ids : List Nat} {a : Act} {o : Oper} {fr : Fr}
theorem cell_push {w w' : World} {x : Obj} (hw : w'.heap = w.heap.push x) {b : Nat} (q : Nat) (hb : b < w.heap.size) : w'.cell? ⟨b, q, none⟩ = w.cell? ⟨b, q, none⟩ := by
  simp only [World.cell?, hw]
  rw [Array.getElem?_push_lt hb]
  rw [Array.getElem?_eq_getElem hb]
theorem frozen_push {w w' : World} {c : Array Value} {t : TypeId} (hw : w'.heap = w.heap.push (.cells c t (0, 0))) (a : Addr) : w'.frozen? a = w.frozen? a := by
  unfold World.frozen?
  rw [hw]
  rcases Nat.lt_trichotomy a.block w.heap.size with h | h | h
  · rw [Array.getElem?_push_lt h, Array.getElem?_eq_getElem h]
  · rw [h]; simp
  · rw [Array.getElem?_eq_none (by simp; omega), Array.getElem?_eq_none (by omega)]
theorem shape_push {w w' : World} {x : Obj} (hw : w'.heap = w.heap.push x) (b : Nat) (arr : Array Value) (bt : TypeId) (hb : w.heap[b]? = some (.cells arr bt (0, 0))) : ∃ arr', w'.heap[b]? = some (.cells arr' bt (0, 0)) ∧ arr'.size = arr.size :=
  ⟨arr, by rw [hw, Array.getElem?_push_lt (lt_of_heap hb)]; rw [← Array.getElem?_eq_getElem (lt_of_heap hb)]; exact hb, rfl⟩
theorem heap_push_lt {w w' : World} {x : Obj} (hw : w'.heap = w.heap.push x) {b : Nat} (hb : b < w.heap.size) : w'.heap[b]? = w.heap[b]? := by
  rw [hw, Array.getElem?_push_lt hb, Array.getElem?_eq_getElem hb]
theorem RowOK.world {w' : World} {S' : Stab} {L' : Loc} {row : Row} {p : Place} (hok : RowOK T.P S w L row p) (hS : ∀ b q, S b q → S' b q) (hw : Stays S w w') (hL : L.le L') (hb : w'.heap[p.b]? = w.heap[p.b]?)
    (hst : ∀ q, S' p.b q → row.fz = true ∧ q < p.w) : RowOK T.P S' w' L' row p := by
  obtain ⟨arr, bt, hb', hs, hc⟩ := hok.blk
  exact ⟨⟨arr, bt, by rw [hb]; exact hb', hs, hc.mono hS hw _ (lOf_le hL) (fun _ _ => rfl)⟩, hok.size, hok.le, hok.lay, hok.zz, hok.vr, hst, hok.zp⟩
theorem RowOK.lt {row : Row} {p : Place} (hok : RowOK T.P S w L row p) : p.b < w.heap.size := by
  obtain ⟨arr, bt, hb, _, _⟩ := hok.blk
  exact lt_of_heap hb
theorem St.newRow {i : Nat} {rest : List Nat} {w' : World} {row : Row} {arr : Array Value} {bt : TypeId} {z : Nat} (hst : St T S w L h (i :: rest)) (hw : w'.heap = w.heap.push (.cells arr bt (0, 0))) (h1 : w'.os = w.os) (h2 : w'.tape = w.tape) (h3 : w'.output = w.output)
    (hc : Cont T.P S w row.c (lOf row.loose L) (fun j => arr[j]?) 0) (hsz : contSize row.c ≤ arr.size) (hz : ∀ s, s < row.c.length → zAt row.c s = z) (hzp : 0 < z ∧ (row.c = [] → z = 1)) (hvr : row.vr = true → row.c.map segSize = segSizes T.P row.ty) :
    St T S w' (setL L i (some ⟨w.heap.size, arr.size, contSize row.c, z, fun s => contSize (row.c.take s)⟩)) (upd h i (some row)) rest ∧
    Ext w S L w' S (setL L i (some ⟨w.heap.size, arr.size, contSize row.c, z, fun s => contSize (row.c.take s)⟩)) := by
  have hi : L i = none := hst.fresh i (.inl (by simp))
  have hle := setL_le (some (⟨w.heap.size, arr.size, contSize row.c, z, fun s => contSize (row.c.take s)⟩ : Place)) hi
  have hstay : Stays S w w' := fun b q hb => cell_push hw q (hst.inv.stab b q hb)
  have hsize : w'.heap.size = w.heap.size + 1 := by rw [hw]; simp
  refine ⟨⟨⟨fun r row' hr => ?_, fun r r' row1 row2 p p' e1 e2 e3 e4 e5 => ?_, fun b q hb => by have := hst.inv.stab b q hb; omega⟩, hst.tail.1, fun j hj => ?_, fun r hr => ?_, hst.glob.mono (fun _ _ h => h) hstay⟩, ?_⟩
  · by_cases e : r = i
    · subst e
      rw [upd_same] at hr
      injection hr with hr
      subst hr
      refine .inr ⟨_, setL_same _ _ _, ⟨⟨arr, bt, ?_, rfl, hc.mono (fun _ _ h => h) hstay _ (lOf_le hle) (fun _ _ => rfl)⟩, rfl, hsz, fun s hs => rfl, hz, hvr, fun q hq => ?_, hzp⟩⟩
      · rw [hw]; simp
      · exact absurd (hst.inv.stab _ q hq) (Nat.lt_irrefl _)
    · rw [upd_ne _ _ e] at hr
      rcases hst.inv.rows r row' hr with ⟨e1, e2⟩ | ⟨p, e1, e2⟩
      · exact .inl ⟨by rw [setL_ne _ _ e]; exact e1, e2⟩
      · exact .inr ⟨p, by rw [setL_ne _ _ e]; exact e1, e2.world (fun _ _ h => h) hstay hle (heap_push_lt hw e2.lt) e2.st⟩
  · have old : ∀ x rx px, x ≠ i → upd h i (some row) x = some rx → L x = some (some px) → px.b < w.heap.size := by
      intro x rx px hx hh hl
      rw [upd_ne _ _ hx] at hh
      exact (hst.row hh hl).lt
    by_cases c1 : r = i
    · by_cases c2 : r' = i
      · left; rw [c1, c2]
      · subst c1
        rw [setL_same] at e3
        rw [setL_ne _ _ c2] at e4
        injection e3 with e3
        injection e3 with e3
        subst e3
        have := old r' row2 p' c2 e2 e4
        simp only at e5; omega
    · by_cases c2 : r' = i
      · subst c2
        rw [setL_same] at e4
        rw [setL_ne _ _ c1] at e3
        injection e4 with e4
        injection e4 with e4
        subst e4
        have := old r row1 p c1 e1 e3
        simp only at e5; omega
      · rw [setL_ne _ _ c1] at e3
        rw [setL_ne _ _ c2] at e4
        rw [upd_ne _ _ c1] at e1
        rw [upd_ne _ _ c2] at e2
        exact hst.inv.disj r r' row1 row2 p p' e1 e2 e3 e4 e5
  · have := hst.tail.2 j hj
    rw [setL_ne _ _ this.1]
    exact this.2
  · by_cases e : r = i
    · subst e; rw [setL_same] at hr; cases hr
    · rw [setL_ne _ _ e] at hr
      rw [upd_ne _ _ e]
      exact hst.dom r hr
  · refine ⟨fun _ _ h => h, hstay, hle, fun _ _ h => .inl h, fun b hb _ => heap_push_lt hw hb, by omega, h1, h2, h3, fun r p hr => ?_, fun a _ => frozen_push hw a, shape_push hw⟩
    by_cases e : r = i
    · subst e
      rw [setL_same] at hr
      injection hr with hr
      injection hr with hr
      subst hr
      exact .inr (Nat.le_refl _)
    · rw [setL_ne _ _ e] at hr
      exact .inl ⟨r, p, hr, rfl⟩
theorem post_mapNil {F : CellF} : ∀ (c : List AV) (q : Nat) {L : Loc} {h : Hs} {ids : List Nat} {Q : List AV → Hs → List Nat → Prop}, St T S w L h ids → Cont T.P S w c L F q → (mapH nilRow c).post h ids Q →
    ∃ c' h' ids' L', Q c' h' ids' ∧ St T S w L' h' ids' ∧ L.le L' ∧ Ext w S L w S L' ∧ Cont T.P S w c' L' F q ∧ c'.map segSize = c.map segSize
  | [], q, L, h, ids, Q, hst, hc, hp => ⟨[], h, ids, L, hp, hst, Loc.le_refl _, Ext.refl _ _ _, by simp only [Cont], rfl⟩
  | v :: c, q, L, h, ids, Q, hst, hc, hp => by
    simp only [mapH, HP.post_bind] at hp
    simp only [Cont] at hc
    obtain ⟨c0, c1, c2⟩ := hc
    by_cases hs : single v = true
    · obtain ⟨u, hu, hr⟩ := c1 hs
      obtain ⟨v', h', ids', L', hp, e1, e2, e3, e4⟩ := post_nilRow hst hr hp
      have hs' : single v' = true := by cases v' <;> first | rfl | (simp only [Rel] at e1)
      obtain ⟨cs, h'', ids'', L'', hp, e5, e6, e7, e8, e9⟩ := post_mapNil c _ e2 (c2.mono (fun _ _ h => h) (fun _ _ _ => rfl) _ e3 (fun _ _ => rfl)) hp
      simp only [HP.post] at hp
      refine ⟨v' :: cs, h'', ids'', L'', hp, e5, fun r x hx => e6 r x (e3 r x hx), e4.trans e7, ?_, ?_⟩
      · simp only [Cont]
        refine ⟨fun e l hv => by rw [hv] at hs'; simp [single] at hs', fun _ => ⟨u, hu, e1.mono (fun _ _ h => h) (fun _ _ _ => rfl) _ e6⟩, ?_⟩
        rw [segSize_single hs', ← segSize_single hs]; exact e8
      · simp only [List.map_cons, e9, segSize_single hs', segSize_single hs]
    · have : ∃ e l, v = .run e l := by cases v <;> first | (exact ⟨_, _, rfl⟩) | (exact absurd rfl hs)
      obtain ⟨e, l, rfl⟩ := this
      obtain ⟨cs, h'', ids'', L'', hp, e5, e6, e7, e8, e9⟩ := post_mapNil c _ hst c2 hp
      simp only [HP.post] at hp
      refine ⟨.run e l :: cs, h'', ids'', L'', hp, e5, e6, e7, ?_, by simp only [List.map_cons, e9]⟩
      simp only [Cont]
      exact ⟨c0, fun hs' => by simp [single] at hs', e8⟩
theorem rel_oneCell {v : AV} {u : Value} (ho : oneCell v = true) (hr : Rel T.P S w v L u) : u.cells = #[u] ∧ u.oneCell' = true := by
  cases v with
  | dead => simp [oneCell] at ho
  | sc x =>
    simp only [Rel] at hr
    subst hr
    cases u <;> simp [oneCell] at ho <;> exact ⟨rfl, rfl⟩
  | run e l => simp [oneCell] at ho
  | sl e l t => simp only [Rel] at hr; obtain ⟨ba, cap, rfl, _⟩ := hr; exact ⟨rfl, rfl⟩
  | slg vs t => simp only [Rel] at hr; obtain ⟨_, ba, cap, rfl, _⟩ := hr; exact ⟨rfl, rfl⟩
  | pt c ty s i j => simp only [Rel] at hr; obtain ⟨_, _, rfl, _⟩ := hr; exact ⟨rfl, rfl⟩
  | os r s i len x y =>
    simp only [Rel, OsR] at hr
    split at hr
    · exact hr.elim
    · obtain ⟨_, _, _, _, rfl⟩ := hr; exact ⟨rfl, rfl⟩
    · obtain ⟨_, _, rfl, _⟩ := hr; exact ⟨rfl, rfl⟩
  | ps r s i j =>
    simp only [Rel] at hr
    obtain ⟨p, _, rfl⟩ := psR_some hr
    exact ⟨rfl, rfl⟩
  | agg c l => simp [oneCell] at ho
  | fn f a b => simp only [Rel] at hr; obtain ⟨_, _, rfl, _⟩ := hr; exact ⟨rfl, rfl⟩
  | iface t v => simp only [Rel] at hr; obtain ⟨_, rfl, _⟩ := hr; exact ⟨rfl, rfl⟩
  | tuple vs => simp [oneCell] at ho
theorem post_fits {t : TypeId} {c : List AV} {p : HP AV} {Q : AV → Hs → List Nat → Prop} (hp : (fits T.P t c p).post h ids Q) :
    p.post h ids Q ∧ c.map segSize = segSizes T.P t ∧ (∀ s, s < c.length → zAt c s = 1) ∧ (∀ v ∈ c, single v = true → oneCell v = true) := by
  unfold fits at hp
  split at hp
  · rename_i hb
    simp only [HP.post, decide_eq_true_eq] at hp
    simp only [Bool.and_eq_true, decide_eq_true_eq, List.all_eq_true] at hb
    refine ⟨hp.2, hp.1, fun s hs => ?_, fun v hv hs => ?_⟩
    · unfold zAt
      split
      · rename_i e l hs'
        have := hb.2 _ (List.mem_of_getElem? hs')
        simpa using this
      · rfl
    · have := hb.2 v hv
      cases v <;> first | (simp [single] at hs; done) | exact this
  · exact hp.elim
section ops
variable {Q : AV → Hs → List Nat → Prop}
theorem post_newVar {t : TypeId} {c : List AV} {loose : Bool} {arr : Array Value} (hst : St T S w L h ids) (hc : Cont T.P S w c (lOf loose L) (fun j => arr[j]?) 0) (hsz : arr.size = contSize c)
    (hp : (fits T.P t c (.new { c := c, vr := true, ty := t, fz := false, loose := loose } fun r => .ret (.ps r 0 0 0))).post h ids Q) :
    ∃ v h' ids' L', Q v h' ids' ∧ Rel T.P S (w.alloc (.cells arr t)) v L' (.pointer (some ⟨w.heap.size, 0, none⟩)) ∧ St T S (w.alloc (.cells arr t)) L' h' ids' ∧ Ext w S L (w.alloc (.cells arr t)) S L' := by
  obtain ⟨hp, h1, h2, _⟩ := post_fits hp
  cases ids with
  | nil => exact hp.elim
  | cons i rest =>
    simp only [HP.post] at hp
    obtain ⟨e1, e2⟩ := hst.newRow (w' := w.alloc (.cells arr t)) (row := { c := c, vr := true, ty := t, fz := false, loose := loose }) (arr := arr) (z := 1) rfl rfl rfl rfl hc (Nat.le_of_eq hsz.symm) h2 ⟨by omega, fun _ => rfl⟩ (fun _ => h1)
    refine ⟨_, _, _, _, hp, ?_, e1, e2⟩
    simp only [Rel, PsR]
    rw [setL_same]
    simp [contSize]
theorem post_boxV {t : TypeId} {v : AV} {u : Value} (hst : St T S w L h ids) (hv : Rel T.P S w v L u) (hp : (boxV T t v).post h ids Q) :
    ∃ v' h' ids' L', Q v' h' ids' ∧ Rel T.P S (w.alloc (.cells u.cells t)) v' L' (.pointer (some ⟨w.heap.size, 0, none⟩)) ∧ St T S (w.alloc (.cells u.cells t)) L' h' ids' ∧ Ext w S L (w.alloc (.cells u.cells t)) S L' := by
  unfold boxV at hp
  split at hp
  · simp only [Rel] at hv
    obtain ⟨arr, rfl, hsz, hc⟩ := hv
    exact post_newVar (loose := false) hst hc hsz hp
  · simp only [Rel] at hv
    obtain ⟨arr, rfl, hsz, hc⟩ := hv
    rw [HP.post_bind] at hp
    obtain ⟨c', h', ids', L', hp, e1, e2, e3, e4, e5⟩ := post_mapNil _ _ hst hc hp
    obtain ⟨v', h'', ids'', L'', hq, e6, e7, e8⟩ := post_newVar (loose := true) e1 e4 (by rw [hsz, contSize_congr e5]) hp
    exact ⟨v', h'', ids'', L'', hq, e6, e7, e3.trans e8⟩
  · rename_i hn1 hn2
    rw [HP.post_bind] at hp
    obtain ⟨v', h', ids', L', hp, e1, e2, e3, e4⟩ := post_nilRow hst hv hp
    have hs' : single v' = true := by cases v' <;> first | rfl | (simp only [Rel] at e1)
    have hone := (post_fits hp).2.2.2 v' (by simp) hs'
    have hcells := (rel_oneCell hone e1).1
    rw [hcells]
    have hc : ∀ L'', Rel T.P S w v' L'' u → Cont T.P S w [v'] L'' (fun j => #[u][j]?) 0 := by
      intro L'' hr
      simp only [Cont, and_true]
      exact ⟨fun e l hv => by rw [hv] at hs'; simp [single] at hs', fun _ => ⟨u, by simp, hr⟩⟩
    have hsz : (#[u] : Array Value).size = contSize [v'] := by simp [contSize, segSize_single hs']
    cases ht : tree v' with
    | true =>
      rw [ht] at hp
      obtain ⟨v'', h'', ids'', L'', hq, e6, e7, e8⟩ := post_newVar (loose := false) e2 (hc _ (rel_tree ht e1 _)) hsz hp
      exact ⟨v'', h'', ids'', L'', hq, e6, e7, e4.trans e8⟩
    | false =>
      rw [ht] at hp
      obtain ⟨v'', h'', ids'', L'', hq, e6, e7, e8⟩ := post_newVar (loose := true) e2 (hc _ e1) hsz hp
      exact ⟨v'', h'', ids'', L'', hq, e6, e7, e4.trans e8⟩
theorem op_box {t : TypeId} {x : Operand} (ho : o.op = .box t x) (hst : St T S w L h ids) (hx : Rel T.P S w (opv T fr x) L (a.eval x))
    (hp : (evOp T o fr).post h ids Q) : Runs T o a w S L Q := by
  simp only [evOp, ho] at hp
  obtain ⟨v', h', ids', L', hq, e1, e2, e3⟩ := post_boxV hst hx hp
  refine ⟨v', h', ids', S, L', _, _, _, hq, ?_, .inl rfl, e1, e2, e3⟩
  simp [execOp, ho, Instr.box, newVar, newRow]
theorem sameV_eq {x y : Value} (h : sameV x y = true) : x = y := by
  unfold sameV at h
  split at h
  · simp at h; obtain ⟨rfl, rfl⟩ := h; rfl
  · simp at h; rw [h]
  · simp at h
    rename_i a b
    have : a = b := by cases a; cases b; simp at h; rw [h]
    rw [this]
  all_goals first | rfl | cases h
theorem sameVs_eq : ∀ {x y : List Value}, sameVs x y = true → x = y
  | [], [], _ => rfl
  | a :: l, b :: l', h => by
    simp [sameVs] at h
    rw [sameV_eq h.1, sameVs_eq h.2]
  | [], _ :: _, h => by simp [sameVs] at h
  | _ :: _, [], h => by simp [sameVs] at h
theorem sameVs_ok : ∀ {x y : List Value}, sameVs x y = true → ∀ v ∈ x, v ≠ .tuple #[]
  | [], _, _, v, hv => by simp at hv
  | a :: l, b :: l', h, v, hv => by
    simp [sameVs] at h
    simp at hv
    rcases hv with rfl | hv
    · rintro rfl; have := h.1; simp [sameV] at this
    · exact sameVs_ok h.2 v hv
  | _ :: _, [], h, v, hv => by simp [sameVs] at h
theorem flatZ_len {v : AV} (hv : ∀ x ∈ flatZ v, x ≠ .tuple #[]) : (flatZ v).length = segSize v := by
  cases v with
  | run e l =>
    cases e with
    | int k => simp [flatZ, segSize, ET.size]
    | bool => simp [flatZ, segSize, ET.size]
    | str => simp [flatZ, segSize, ET.size]
    | pair k =>
      simp only [flatZ, segSize, ET.size]
      have hl : ∀ l : List (Int × Int), ((l.map fun p => [Value.int k p.1, Value.int k p.2]).flatten).length = l.length * 2 := by
        intro l
        induction l with
        | nil => rfl
        | cons x l ih => simp only [List.map_cons, List.flatten_cons, List.length_append, ih, List.length_cons, List.length_nil]; omega
      exact hl l
    | ilist k => exact absurd rfl (hv (.tuple #[]) (by simp [flatZ]))
  | sl e l t => cases l <;> simp [flatZ, segSize]
  | slg vs t => cases vs <;> simp [flatZ, segSize]
  | _ => simp [flatZ, segSize]
theorem cont_zero {F : CellF} : ∀ (c : List AV) (k : Nat), (∀ x ∈ (c.map flatZ).flatten, x ≠ .tuple #[]) → (∀ (i : Nat) x, ((c.map flatZ).flatten)[i]? = some x → F (k + i) = some x) → Cont T.P S w c L F k
  | [], k, _, _ => by simp only [Cont]
  | v :: c, k, hne, hF => by
    simp only [List.map_cons, List.flatten_cons] at hne hF
    have hv : ∀ x ∈ flatZ v, x ≠ .tuple #[] := fun x hx => hne x (List.mem_append_left _ hx)
    have hlen := flatZ_len hv
    have hF1 : ∀ (i : Nat) x, (flatZ v)[i]? = some x → F (k + i) = some x := fun i x hx => hF i x (by rw [List.getElem?_append_left (lt_of_get hx)]; exact hx)
    simp only [Cont]
    refine ⟨fun e l hr => ?_, fun hs => ?_, cont_zero c _ (fun x hx => hne x (List.mem_append_right _ hx)) fun i x hx => ?_⟩
    · subst hr
      intro i x hx
      cases e with
      | int q =>
        simp only [ElR, ElR0, ET.size, Nat.mul_one]
        exact hF1 i _ (by simp only [flatZ, List.getElem?_map]; rw [hx]; rfl)
      | bool =>
        simp only [ElR, ElR0, ET.size, Nat.mul_one]
        exact hF1 i _ (by simp only [flatZ, List.getElem?_map]; rw [hx]; rfl)
      | str =>
        simp only [ElR, ElR0, ET.size, Nat.mul_one]
        exact hF1 i _ (by simp only [flatZ, List.getElem?_map]; rw [hx]; rfl)
      | pair q =>
        have hg : ∀ (l : List (Int × Int)) (i : Nat) (x : Int × Int), l[i]? = some x → ((l.map fun p => [Value.int q p.1, Value.int q p.2]).flatten)[i * 2]? = some (.int q x.1) ∧
            ((l.map fun p => [Value.int q p.1, Value.int q p.2]).flatten)[i * 2 + 1]? = some (.int q x.2) := by
          intro l
          induction l with
          | nil => intro i x hx; simp at hx
          | cons y l ih =>
            intro i x hx
            cases i with
            | zero => simp at hx; subst hx; simp
            | succ i =>
              simp at hx
              have := ih i x hx
              simp only [List.map_cons, List.flatten_cons, List.cons_append, List.nil_append]
              rw [show (i + 1) * 2 = i * 2 + 1 + 1 by omega]
              simpa using this
        have := hg l i x hx
        simp only [ElR, ElR0, ET.size]
        exact ⟨hF1 _ _ this.1, by have := hF1 _ _ this.2; rwa [← Nat.add_assoc] at this⟩
      | ilist q => exact absurd rfl (hv (.tuple #[]) (by simp [flatZ]))
    · cases v with
      | sc x => exact ⟨x, by simpa using hF1 0 x (by simp [flatZ]), by simp only [Rel]⟩
      | run e l => simp [single] at hs
      | sl e l t =>
        cases l with
        | nil => exact ⟨.slice none 0 0, by simpa using hF1 0 (.slice none 0 0) (by simp [flatZ]), by simp only [Rel]; exact ⟨none, 0, rfl, Nat.le_refl _, fun _ => rfl, fun h => absurd rfl h⟩⟩
        | cons x l => exact absurd rfl (hv (.tuple #[]) (by simp [flatZ]))
      | slg vs t =>
        cases vs with
        | nil => exact ⟨.slice none 0 0, by simpa using hF1 0 (.slice none 0 0) (by simp [flatZ]), by simp only [Rel]; exact ⟨by simp, none, 0, rfl, Nat.le_refl _, fun _ => rfl, fun h => absurd rfl h⟩⟩
        | cons x l => exact absurd rfl (hv (.tuple #[]) (by simp [flatZ]))
      | _ => exact absurd rfl (hv (.tuple #[]) (by simp [flatZ]))
    · rw [Nat.add_assoc, ← hlen]
      exact hF _ x (by rw [List.getElem?_append_right (by omega), Nat.add_sub_cancel_left]; exact hx)
theorem zeroT_spec {P : Program} {t : TypeId} {c : List AV} (h : zeroT P t = some c) :
    ∃ i z, P.info? t = some i ∧ i.zero = some z ∧ z.cells.size = contSize c ∧ i.size = contSize c ∧ ∀ (T : Tab) S w L, T.P = P → Cont T.P S w c L (fun j => z.cells[j]?) 0 := by
  unfold zeroT at h
  split at h
  · rename_i c0 hc0
    split at h
    · rename_i i hi
      split at h
      · rename_i z hz
        split at h
        · rename_i hb
          injection h with h
          subst h
          simp only [Bool.and_eq_true, decide_eq_true_eq] at hb
          have hflat := sameVs_eq hb.1
          have hok := sameVs_ok hb.1
          have hlen : ((c0.map flatZ).flatten).length = contSize c0 := by
            have : ∀ c : List AV, (∀ x ∈ (c.map flatZ).flatten, x ≠ .tuple #[]) → ((c.map flatZ).flatten).length = contSize c := by
              intro c
              induction c with
              | nil => intro _; rfl
              | cons v c ih =>
                intro hv
                simp only [List.map_cons, List.flatten_cons] at hv ⊢
                rw [List.length_append, ih (fun x hx => hv x (List.mem_append_right _ hx)), flatZ_len (fun x hx => hv x (List.mem_append_left _ hx))]
                rfl
            exact this c0 hok
          refine ⟨i, z, hi, hz, ?_, by rw [hb.2, contSize_sum], fun T S w L hT => cont_zero c0 0 hok fun j x hx => ?_⟩
          · rw [← Array.length_toList, ← hflat, hlen]
          · rw [hflat] at hx
            simpa using hx
        · cases h
      · cases h
    · cases h
  · cases h
theorem op_alloc {t : TypeId} (ho : o.op = .alloc t) (hst : St T S w L h ids) (hp : (evOp T o fr).post h ids Q) : Runs T o a w S L Q := by
  simp only [evOp, ho, allocV] at hp
  split at hp
  · rename_i c hc
    obtain ⟨i, z, hi, hz, hs, _, hcont⟩ := zeroT_spec hc
    have hrun : (execOp a.eval o).run T.P w = .ok (.value (.pointer (some ⟨w.heap.size, 0, none⟩))) (w.alloc (.cells z.cells t)) := by
      simp [execOp, ho, Instr.alloc, zeroValue, typeInfo, hi, hz, newVar, newRow]
    have hrel : Rel T.P S w (.agg c (c.any fun v => !tree v)) L (.agg z.cells) := by
      simp only [Rel]
      exact ⟨z.cells, rfl, hs, hcont T S w _ rfl⟩
    obtain ⟨v', h', ids', L', hq, e1, e2, e3⟩ := post_boxV hst hrel hp
    exact ⟨v', h', ids', S, L', _, _, _, hq, hrun, .inl rfl, e1, e2, e3⟩
  · exact hp.elim
end ops
end
end Go.Ev
