/- Code, loops and bodies. -/
import Derived.Test.YtajhpbahjindkaaDoorEvD
import Derived.RowKit3
import Derived.WideKeyArgs
import Derived.Deep.Frames
import Derived.ChangeBears
import Derived.ChangeOld
set_option linter.unusedVariables false
set_option linter.unusedSimpArgs false
namespace Go.Ev
open Go
set_option linter.unusedVariables false
set_option linter.unusedSimpArgs false
def exitOf : Out → Exit
  | .nrm => .normal
  | .ext id => .exit id
  | .ret => .ret
def RoundWp (P : Program) (c : Code) (Q : Exit → Act → World → Prop) (a : Act) (w : World) : Prop :=
  ∀ (b : Frame) (k : List Item) (cs : List Frame), ∃ e a' w', Q e a' w' ∧ Arrives P (lone (b.at a (.code c :: .inLoop c :: k)) cs w) b k cs e a' w'
theorem RoundWp.loop {P : Program} {c : Code} {Q : Exit → Act → World → Prop} {a : Act} {w : World} (h : RoundWp P c Q a w) : (Code.loop c).wp P Q a w := by
  intro b k cs
  obtain ⟨e, a', w', hq, harr⟩ := h b k cs
  exact ⟨e, a', w', hq, .of_steps (.one step_loop) harr⟩
theorem RoundWp.unroll {P : Program} {c : Code} {Q : Exit → Act → World → Prop} {a : Act} {w : World} (h : c.wp P (Exit.then (RoundWp P c Q) Q) a w) : RoundWp P c Q a w := by
  intro b k cs
  obtain ⟨e, a₁, w₁, hq, harr⟩ := h b (.inLoop c :: k) cs
  cases e with
  | normal =>
    obtain ⟨e₂, a₂, w₂, hq₂, harr₂⟩ := hq b k cs
    exact ⟨e₂, a₂, w₂, hq₂, .of_steps (Steps.trans harr (.one step_inLoop)) harr₂⟩
  | exit id => exact ⟨_, a₁, w₁, hq, .pass (x := .inLoop c) rfl (fun _ _ => .inl (by simp)) harr⟩
  | goto l => exact ⟨_, a₁, w₁, hq, .pass (x := .inLoop c) rfl (fun _ _ => .inl (by simp)) harr⟩
  | ret => exact ⟨_, a₁, w₁, hq, .pass (x := .inLoop c) rfl (fun _ _ => .inl (by simp)) harr⟩
  | panic ch => exact ⟨_, a₁, w₁, hq, .pass (x := .inLoop c) rfl (fun _ _ => .inl (by simp)) harr⟩
  | outgrown => exact ⟨_, a₁, w₁, hq, .pass (x := .inLoop c) rfl (fun _ _ => .inl (by simp)) harr⟩
structure LoopOK (T : Tab) (fid lid base : Nat) (kv : List AV) (H : Hp) (o : Out) (kv' : List AV) (H' : Hp) : Prop where
  len : base ≤ H.length → base ≤ H'.length
  run : ∀ (f : Func) (c : Code), T.fn fid = some f → loopOf T.fn fid lid = some c → ∀ (w0 : World) (S0 : Stab) (L0 : Loc) (a : Act) (w : World) (S : Stab) (L : Loc), base ≤ H.length → (∀ r, base ≤ r → L0 r = none) →
    CS T f.ntmps w0 S0 L0 (mkFr (T.keep fid lid) kv) H a w S L → ∀ (Q : Exit → Act → World → Prop), (∀ a' w' S' L', CS T f.ntmps w0 S0 L0 (mkFr (T.keep fid lid) kv') H' a' w' S' L' → Q (exitOf o) a' w') → RoundWp T.P c Q a w
def LoopsOK (T : Tab) : Prop := ∀ fid lid base kv H o kv' H', (T.loopT fid lid base kv H).val = some (o, kv', H') → LoopOK T fid lid base kv H o kv' H'
structure TabOK (T : Tab) : Prop where
  calls : CallsOK T
  loops : LoopsOK T
  fns : ∀ f fn, T.fn f = some fn → T.P.funcs[f]? = some fn ∧ fnOK fn = true
  mixed : T.P.follows .mixedOrders = true
section
variable {T : Tab}
theorem CS.congr {n : Nat} {w0 : World} {S0 : Stab} {L0 : Loc} {fr fr' : Fr} {H : Hp} {a : Act} {w : World} {S : Stab} {L : Loc} (h : CS T n w0 S0 L0 fr H a w S L) (he : ∀ t, get fr' t = get fr t) : CS T n w0 S0 L0 fr' H a w S L :=
  ⟨h.st, fun t => by rw [he t]; exact h.fr t, h.size, h.dfr, h.ext⟩
theorem loopIn_of {l : List (Nat × Code)} {lid : Nat} {c : Code} (hn : distinct (l.map (·.1)) = true) (hm : (lid, c) ∈ l) : loopIn lid l = some c := by
  induction l with
  | nil => cases hm
  | cons p l ih =>
    simp only [List.map_cons, distinct, Bool.and_eq_true, Bool.not_eq_true'] at hn
    simp only [loopIn]
    rw [List.mem_cons] at hm
    rcases hm with rfl | hm
    · have : Nat.beq lid lid = true := by simp
      simp only [this]
    · have hne : p.1 ≠ lid := by
        intro he
        have h1 := hn.1
        have : (l.map (·.1)).contains p.1 = true := by
          simp only [List.contains_iff_mem]
          rw [he]; exact List.mem_map.2 ⟨_, hm, rfl⟩
        rw [this] at h1; cases h1
      have : Nat.beq p.1 lid = false := by
        cases hb : Nat.beq p.1 lid with
        | false => rfl
        | true => exact absurd (Nat.eq_of_beq_eq_true hb) hne
      simp only [this]
      exact ih hn.2 hm
theorem loopsIn_sub : ∀ (b : Code) (p : Nat × Code), p ∈ loopsIn b → ∀ q ∈ loopsIn p.2, q ∈ loopsIn b := by
  intro b
  induction b with
  | seq x y ihx ihy =>
    intro p hp q hq
    simp only [loopsIn, List.mem_append] at hp ⊢
    rcases hp with hp | hp
    · exact .inl (ihx p hp q hq)
    · exact .inr (ihy p hp q hq)
  | cond c x y ihx ihy =>
    intro p hp q hq
    simp only [loopsIn, List.mem_append] at hp ⊢
    rcases hp with hp | hp
    · exact .inl (ihx p hp q hq)
    · exact .inr (ihy p hp q hq)
  | block id c ih => intro p hp q hq; simp only [loopsIn] at hp ⊢; exact ih p hp q hq
  | scope c ih => intro p hp q hq; simp only [loopsIn] at hp ⊢; exact ih p hp q hq
  | loop c ih =>
    intro p hp q hq
    simp only [loopsIn] at hp ⊢
    split at hp
    · rw [List.mem_cons] at hp
      rcases hp with rfl | hp
      · exact List.mem_cons_of_mem _ hq
      · exact List.mem_cons_of_mem _ (ih p hp q hq)
    · exact ih p hp q hq
  | _ => intro p hp; simp [loopsIn] at hp
theorem codeOK_loop : ∀ (n : Nat) (b : Code), codeOK n b = true → ∀ p ∈ loopsIn b, codeOK n p.2 = true := by
  intro n b
  induction b with
  | seq x y ihx ihy =>
    intro h p hp
    simp only [codeOK, Bool.and_eq_true] at h
    simp only [loopsIn, List.mem_append] at hp
    rcases hp with hp | hp
    · exact ihx h.1 p hp
    · exact ihy h.2 p hp
  | cond c x y ihx ihy =>
    intro h p hp
    simp only [codeOK, Bool.and_eq_true] at h
    simp only [loopsIn, List.mem_append] at hp
    rcases hp with hp | hp
    · exact ihx h.1 p hp
    · exact ihy h.2 p hp
  | block id c ih => intro h p hp; simp only [loopsIn] at hp; exact ih h p hp
  | scope c ih => intro h p hp; simp only [loopsIn] at hp; exact ih h p hp
  | loop c ih =>
    intro h p hp
    simp only [loopsIn] at hp
    split at hp
    · rw [List.mem_cons] at hp
      rcases hp with rfl | hp
      · exact h
      · exact ih h p hp
    · exact ih h p hp
  | _ => intro h p hp; simp [loopsIn] at hp
theorem loopIn_mem {lid : Nat} {c : Code} : ∀ {l : List (Nat × Code)}, loopIn lid l = some c → (lid, c) ∈ l
  | [], h => by cases h
  | p :: l, h => by
    simp only [loopIn] at h
    split at h
    · rename_i hb
      have hb := Nat.eq_of_beq_eq_true hb
      simp only [Option.some.injEq] at h
      subst h; subst hb
      exact List.mem_cons_self
    · exact List.mem_cons_of_mem _ (loopIn_mem h)
theorem fnOK_spec {f : Func} (h : fnOK f = true) : ∃ c, f.body = some c ∧ codeOK f.ntmps c = true ∧ distinct ((loopsIn c).map (·.1)) = true ∧ (f.name == "runtime.NumGoroutine") = false := by
  unfold fnOK at h
  split at h
  · rename_i c hb
    simp only [Bool.and_eq_true, Bool.not_eq_true'] at h
    exact ⟨c, hb, h.1.1.1, h.1.1.2, h.2⟩
  · cases h
theorem evC_sound {R : Type} {fid base : Nat} {f : Func} {body : Code} (hT : TabOK T) (hf : T.fn fid = some f) (hbody : f.body = some body) {w0 : World} {S0 : Stab} {L0 : Loc} (hL : ∀ r, base ≤ r → L0 r = none) {x : R} :
    ∀ (c : Code), codeOK f.ntmps c = true → (∀ p ∈ loopsIn c, p ∈ loopsIn body) → ∀ (k : Out → Fr → Hp → Option R) (fr : Fr) (H : Hp), evC T fid base c k fr H = some x →
      ∀ (a : Act) (w : World) (S : Stab) (L : Loc), CS T f.ntmps w0 S0 L0 fr H a w S L → base ≤ H.length → ∀ (Q : Exit → Act → World → Prop),
        (∀ o fr' H', k o fr' H' = some x → base ≤ H'.length → ∀ a' w' S' L', CS T f.ntmps w0 S0 L0 fr' H' a' w' S' L' → Q (exitOf o) a' w') → c.wp T.P Q a w := by
  intro c
  induction c with
  | skip => intro _ _ k fr H hx a w S L hcs hb Q hQ; exact wp_skip (hQ .nrm fr H hx hb a w S L hcs)
  | ret => intro _ _ k fr H hx a w S L hcs hb Q hQ; exact wp_ret (hQ .ret fr H hx hb a w S L hcs)
  | exit id => intro _ _ k fr H hx a w S L hcs hb Q hQ; exact wp_exit (hQ (.ext id) fr H hx hb a w S L hcs)
  | region id ops draw =>
    intro hok _ k fr H hx a w S L hcs hb Q hQ
    simp only [codeOK, List.all_eq_true] at hok
    have hd : ∀ o ∈ ops.toList, ∀ d, o.dst = some d → d < f.ntmps := fun o ho d hd => by
      have := hok o ho
      rw [hd] at this
      simp only [Nat.blt_eq] at this
      exact this
    refine region_sound (k := fun fr H => sweep T fid id base (k .nrm) fr H) (x := x) hT.calls hT.mixed hd hcs ?_ ?_
    · cases draw with
      | false => exact hx
      | true => exact hx
    · intro frE HE hk hle a' w' S' L' hcs'
      simp only [sweep] at hk
      split at hk
      · exact hQ .nrm frE HE hk (Nat.le_trans hb hle) a' w' S' L' hcs'
      · rename_i b keep hgc
        have fin : ∀ H1, CS T f.ntmps w0 S0 L0 frE H1 a' w' S' L' → (match seenFrom base (keep.map (get frE)) H1 with
            | none => none
            | some seen => k .nrm (mkFr keep ((keep.map (get frE)).map (renV 6 (renBy seen)))) (renH seen H1)) = some x → Q (exitOf .nrm) a' w' := by
          intro H1 hcs1 hk
          split at hk
          · cases hk
          · rename_i seen hseen
            have hs := seenFrom_spec hseen
            exact hQ .nrm _ _ hk (by unfold renH; simpa using hs.base.1) a' w' S' _ (hcs1.gc hs hL)
        cases b with
        | false => exact fin HE hcs' hk
        | true =>
          simp only at hk
          split at hk
          · cases hk
          · rename_i H1 hH1
            split at hH1
            · cases hH1
            · injection hH1 with hH1
              subst hH1
              exact fin _ hcs'.unbase hk
  | seq x y ihx ihy =>
    intro hok hl k fr H hx a w S L hcs hb Q hQ
    simp only [codeOK, Bool.and_eq_true] at hok
    refine wp_seq ?_
    refine ihx hok.1 (fun p hp => hl p (by simp [loopsIn, hp])) _ fr H hx a w S L hcs hb _ ?_
    intro o fr' H' hk hb' a' w' S' L' hcs'
    cases o with
    | nrm => exact ihy hok.2 (fun p hp => hl p (by simp [loopsIn, hp])) k fr' H' hk a' w' S' L' hcs' hb' Q hQ
    | ext id => exact hQ (.ext id) fr' H' hk hb' a' w' S' L' hcs'
    | ret => exact hQ .ret fr' H' hk hb' a' w' S' L' hcs'
  | cond c x y ihx ihy =>
    intro hok hl k fr H hx a w S L hcs hb Q hQ
    simp only [codeOK, Bool.and_eq_true] at hok
    have hlx := fun p (hp : p ∈ loopsIn x) => hl p (by simp [loopsIn, hp])
    have hly := fun p (hp : p ∈ loopsIn y) => hl p (by simp [loopsIn, hp])
    simp only [evC] at hx
    split at hx
    · rename_i t
      split at hx
      · rename_i b hg
        have ht := hcs.fr t
        rw [hg] at ht
        simp only [Rel] at ht
        have hk := get_known fr hg
        cases b with
        | true => exact wp_cond_true (by simp only [Act.eval]; exact ht) (ihx hok.1 hlx k _ H hx a w S L (hcs.congr hk) hb Q hQ)
        | false => exact wp_cond_false (by simp only [Act.eval]; exact ht) (ihy hok.2 hly k _ H hx a w S L (hcs.congr hk) hb Q hQ)
      · cases hx
    · rename_i b
      cases b with
      | true => exact wp_cond_true rfl (ihx hok.1 hlx k _ H hx a w S L hcs hb Q hQ)
      | false => exact wp_cond_false rfl (ihy hok.2 hly k _ H hx a w S L hcs hb Q hQ)
    · cases hx
  | block id c ih =>
    intro hok hl k fr H hx a w S L hcs hb Q hQ
    refine wp_block ?_
    refine ih hok hl _ fr H hx a w S L hcs hb _ ?_
    intro o fr' H' hk hb' a' w' S' L' hcs'
    cases o with
    | nrm => exact hQ .nrm fr' H' hk hb' a' w' S' L' hcs'
    | ret => exact hQ .ret fr' H' hk hb' a' w' S' L' hcs'
    | ext j =>
      simp only [exitOf, Exit.inBlock]
      simp only at hk
      cases hbq : Nat.beq j id with
      | true =>
        rw [hbq] at hk
        have := Nat.eq_of_beq_eq_true hbq
        rw [if_pos this]
        exact hQ .nrm fr' H' hk hb' a' w' S' L' hcs'
      | false =>
        rw [hbq] at hk
        have : ¬ j = id := by
          rintro rfl
          simp at hbq
        rw [if_neg this]
        exact hQ (.ext j) fr' H' hk hb' a' w' S' L' hcs'
  | loop c ih =>
    intro hok hl k fr H hx a w S L hcs hb Q hQ
    simp only [evC] at hx
    split at hx
    · cases hx
    · rename_i lid hreg
      split at hx
      · cases hx
      · rename_i seen hseen
        obtain ⟨r, hr, hk⟩ := Tree.go_some hx
        have hs := seenFrom_spec hseen
        have hfns := hT.fns fid f hf
        obtain ⟨c0, hc0, _, hdis, _⟩ := fnOK_spec hfns.2
        rw [hbody] at hc0
        cases hc0
        have hlo : loopOf T.fn fid lid = some c := by
          unfold loopOf
          simp only [hf, hbody]
          exact loopIn_of hdis (hl (lid, c) (by simp [loopsIn, hreg]))
        have hloop := hT.loops fid lid base _ _ r.1 r.2.1 r.2.2 hr
        have hlen : base ≤ (renH seen H).length := by unfold renH; simpa using hs.base.1
        refine RoundWp.loop (hloop.run f c hf hlo w0 S0 L0 a w S _ hlen hL (hcs.gc hs hL) Q ?_)
        intro a' w' S' L' hcs'
        exact hQ r.1 _ r.2.2 hk (hloop.len hlen) a' w' S' L' hcs'
  | _ => intro _ _ k fr H hx; simp [evC] at hx
theorem evC_cont {R : Type} {fid base : Nat} (hT : TabOK T) {x : R} : ∀ (c : Code) (k : Out → Fr → Hp → Option R) (fr : Fr) (H : Hp), evC T fid base c k fr H = some x → ∃ o fr' H', k o fr' H' = some x := by
  intro c
  induction c with
  | skip => intro k fr H hx; exact ⟨_, _, _, hx⟩
  | ret => intro k fr H hx; exact ⟨_, _, _, hx⟩
  | exit id => intro k fr H hx; exact ⟨_, _, _, hx⟩
  | region id ops draw =>
    intro k fr H hx
    have fin : ∀ fr H, sweep T fid id base (k .nrm) fr H = some x → ∃ o fr' H', k o fr' H' = some x := by
      intro fr H h
      simp only [sweep] at h
      split at h
      · exact ⟨_, _, _, h⟩
      · split at h
        · cases h
        · split at h
          · cases h
          · exact ⟨_, _, _, h⟩
    cases draw with
    | false =>
      obtain ⟨recs, frE, HE, _, _, h3⟩ := evOps_spec hT.calls _ _ _ _ hx
      exact fin _ _ h3
    | true =>
      obtain ⟨recs, frE, HE, _, _, h3⟩ := evOps_spec hT.calls _ _ _ _ hx
      split at h3
      · exact fin _ _ h3
      · cases h3
  | seq x y ihx ihy =>
    intro k fr H hx
    obtain ⟨o, fr', H', hk⟩ := ihx _ fr H hx
    cases o with
    | nrm => exact ihy k fr' H' hk
    | ext id => exact ⟨_, _, _, hk⟩
    | ret => exact ⟨_, _, _, hk⟩
  | cond c x y ihx ihy =>
    intro k fr H hx
    simp only [evC] at hx
    split at hx
    · split at hx
      · rename_i b hg
        cases b with
        | true => exact ihx k _ H hx
        | false => exact ihy k _ H hx
      · cases hx
    · rename_i b
      cases b with
      | true => exact ihx k _ H hx
      | false => exact ihy k _ H hx
    · cases hx
  | block id c ih =>
    intro k fr H hx
    obtain ⟨o, fr', H', hk⟩ := ih _ fr H hx
    cases o with
    | nrm => exact ⟨_, _, _, hk⟩
    | ret => exact ⟨_, _, _, hk⟩
    | ext j =>
      simp only at hk
      cases hbq : Nat.beq j id with
      | true => rw [hbq] at hk; exact ⟨_, _, _, hk⟩
      | false => rw [hbq] at hk; exact ⟨_, _, _, hk⟩
  | loop c ih =>
    intro k fr H hx
    simp only [evC] at hx
    split at hx
    · cases hx
    · split at hx
      · cases hx
      · obtain ⟨r, hr, hk⟩ := Tree.go_some hx
        exact ⟨_, _, _, hk⟩
  | _ => intro k fr H hx; simp [evC] at hx
theorem lpStep_sound {fid lid base : Nat} {c : Code} {again : List AV → Hp → Option (Out × List AV × Hp)} (hT : TabOK T) (hlo : loopOf T.fn fid lid = some c) {kv : List AV} {H : Hp} {o : Out} {kv' : List AV} {H' : Hp}
    (hag : ∀ kv H o kv' H', again kv H = some (o, kv', H') → LoopOK T fid lid base kv H o kv' H') (hx : lpStep T fid lid base c again kv H = some (o, kv', H')) : LoopOK T fid lid base kv H o kv' H' := by
  unfold lpStep at hx
  refine ⟨fun _ => ?_, ?_⟩
  · obtain ⟨o', fr', H1, hk⟩ := evC_cont hT _ _ _ _ hx
    simp only at hk
    split at hk
    · cases hk
    · rename_i seen hseen
      have hs := seenFrom_spec hseen
      have hlen : base ≤ (renH seen H1).length := by unfold renH; simpa using hs.base.1
      cases o' with
      | nrm => exact (hag _ _ _ _ _ hk).len hlen
      | ext id => simp only [Option.some.injEq, Prod.mk.injEq] at hk; rw [← hk.2.2]; exact hlen
      | ret => simp only [Option.some.injEq, Prod.mk.injEq] at hk; rw [← hk.2.2]; exact hlen
  · intro f c' hf hlo' w0 S0 L0 a w S L hb hL hcs Q hQ
    rw [hlo] at hlo'
    cases hlo'
    obtain ⟨hfu, hfo⟩ := hT.fns fid f hf
    obtain ⟨body, hbody, hcode, hdis, _⟩ := fnOK_spec hfo
    have hm : (lid, c) ∈ loopsIn body := by
      unfold loopOf at hlo
      simp only [hf, hbody] at hlo
      exact loopIn_mem hlo
    refine RoundWp.unroll (evC_sound hT hf hbody hL c (codeOK_loop _ _ hcode _ hm) (loopsIn_sub _ _ hm) _ _ _ hx a w S L hcs hb _ ?_)
    intro o' fr' H1 hk hb' a' w' S' L' hcs'
    simp only at hk
    split at hk
    · cases hk
    · rename_i seen hseen
      have hs := seenFrom_spec hseen
      have hlen : base ≤ (renH seen H1).length := by unfold renH; simpa using hs.base.1
      have hgc := hcs'.gc hs hL
      cases o' with
      | nrm => exact (hag _ _ _ _ _ hk).run f c hf hlo w0 S0 L0 a' w' S' _ hlen hL hgc Q hQ
      | ext id =>
        simp only [Option.some.injEq, Prod.mk.injEq] at hk
        obtain ⟨rfl, rfl, rfl⟩ := hk
        exact hQ a' w' S' _ hgc
      | ret =>
        simp only [Option.some.injEq, Prod.mk.injEq] at hk
        obtain ⟨rfl, rfl, rfl⟩ := hk
        exact hQ a' w' S' _ hgc
theorem lpRun_sound {fid lid base : Nat} {c : Code} (hT : TabOK T) (hlo : loopOf T.fn fid lid = some c) : ∀ (m : Nat) (kv : List AV) (H : Hp) (o : Out) (kv' : List AV) (H' : Hp), lpRun T fid lid base c m kv H = some (o, kv', H') → LoopOK T fid lid base kv H o kv' H'
  | 0, _, _, _, _, _, hx => by simp [lpRun] at hx
  | m + 1, _, _, _, _, _, hx => lpStep_sound hT hlo (lpRun_sound hT hlo m) hx
theorem get_argFr : ∀ (vs : List AV) (n t : Nat), get (argFr n vs) t = if n ≤ t then (vs[t - n]?).getD .dead else .dead
  | [], n, t => by simp [argFr, get]
  | v :: vs, n, t => by
    simp only [argFr, get]
    by_cases h : n = t
    · subst h
      have : Nat.beq n n = true := by simp
      simp [this]
    · have : Nat.beq n t = false := by
        cases hb : Nat.beq n t with
        | false => rfl
        | true => exact absurd (Nat.eq_of_beq_eq_true hb) h
      simp only [this]
      rw [get_argFr vs (n + 1) t]
      by_cases h1 : n + 1 ≤ t
      · have e : t - n = (t - (n + 1)) + 1 := by omega
        rw [if_pos h1, if_pos (by omega), e]; simp
      · rw [if_neg h1, if_neg (by omega)]
theorem relL_length {P : Program} {S : Stab} {w : World} {L : Loc} : ∀ {vs : List AV} {us : List Value}, RelL P S w vs L us → vs.length = us.length
  | [], us, h => by simp only [RelL] at h; subst h; rfl
  | v :: vs, us, h => by
    simp only [RelL] at h
    obtain ⟨u, rest, rfl, _, h2⟩ := h
    simp [relL_length h2]
def resOne (tmps : Array Value) : ResultVar → Sem Value
  | .tmp t => pure (tmps.getD t undef)
  | .cell a t => do loadVar t (← asAddr (tmps.getD a undef))
theorem run_results {P : Program} {fn : Func} {tmps : Array Value} {w : World} {us : List Value} (h : (fn.results.toList.mapM (resOne tmps)).run P w = .ok us w) :
    (results fn tmps).run P w = .ok (if h : us.toArray.size = 1 then us.toArray[0] else .tuple us.toArray) w := by
  have e : results fn tmps = (do let vs ← fn.results.mapM (resOne tmps); pure (if h : vs.size = 1 then vs[0] else .tuple vs)) := by
    unfold results
    congr 1
  rw [e, Array.mapM_eq_mapM_toList]
  simp only [bind_map_left, Sem.run_bind, h, Result.andThen_ok, Sem.run_pure]
theorem idsOf_mono : ∀ (n : Nat) (v : AV) (r : Nat), r ∈ idsOf n v → r ∈ idsOf (n + 1) v
  | 0, v, r, h => by simp [idsOf] at h
  | n + 1, v, r, h => by
    have ih := idsOf_mono n
    have ihL : ∀ vs : List AV, r ∈ (vs.map (idsOf n)).flatten → r ∈ (vs.map (idsOf (n + 1))).flatten := by
      intro vs hm
      rw [List.mem_flatten] at hm ⊢
      obtain ⟨l, h1, h2⟩ := hm
      obtain ⟨v, h3, rfl⟩ := List.mem_map.1 h1
      exact ⟨_, List.mem_map.2 ⟨v, h3, rfl⟩, ih v r h2⟩
    cases v with
    | agg c l =>
      cases l with
      | false => simp [idsOf] at h
      | true => exact ihL c h
    | fn g first caps =>
      simp only [idsOf, List.mem_append] at h ⊢
      exact h.imp (ihL _) (ihL _)
    | tuple vs => exact ihL vs h
    | os r s i len a b c => exact h
    | ps r s i j => exact h
    | _ => simp [idsOf] at h
theorem idsOf_oneOf {vs : List AV} {r : Nat} (h : r ∈ idsOf 6 (oneOf vs)) : r ∈ (vs.map (idsOf 6)).flatten := by
  have tup : r ∈ idsOf 6 (.tuple vs) → r ∈ (vs.map (idsOf 6)).flatten := by
    intro h
    have h : r ∈ (vs.map (idsOf 5)).flatten := h
    rw [List.mem_flatten] at h ⊢
    obtain ⟨l, h1, h2⟩ := h
    obtain ⟨v, h3, rfl⟩ := List.mem_map.1 h1
    exact ⟨_, List.mem_map.2 ⟨v, h3, rfl⟩, idsOf_mono 5 v r h2⟩
  cases vs with
  | nil => exact tup h
  | cons v vs =>
    cases vs with
    | nil => simpa [oneOf] using h
    | cons v2 vs => exact tup h
theorem post_resV {fr : Fr} {a : Act} {w : World} {S : Stab} {L : Loc} {h : Hs} {ids ids0 : List Nat} (hst : St T S w L h ids0) (hfr : ∀ t, Rel T.P S w (get fr t) L (a.tmps.getD t undef)) :
    ∀ (rs : List ResultVar) (Q : List AV → Hs → List Nat → Prop), (mapH (resV T fr) rs).post h ids Q → ∃ vs us, Q vs h ids ∧ RelL T.P S w vs L us ∧
      (rs.mapM (resOne a.tmps)).run T.P w = .ok us w
  | [], Q, hp => ⟨[], [], hp, by simp [RelL], by simp⟩
  | r :: rs, Q, hp => by
    simp only [mapH] at hp
    rw [HP.post_bind] at hp
    have fin : ∀ (v : AV) (u : Value), ((mapH (resV T fr) rs).bind fun bs => .ret (v :: bs)).post h ids Q → Rel T.P S w v L u →
        (resOne a.tmps r).run T.P w = .ok u w → ∃ vs us, Q vs h ids ∧ RelL T.P S w vs L us ∧
      ((r :: rs).mapM (resOne a.tmps)).run T.P w = .ok us w := by
      intro v u hp hv hrun
      rw [HP.post_bind] at hp
      obtain ⟨vs, us, hq, hr, hm⟩ := post_resV hst hfr rs _ hp
      refine ⟨v :: vs, u :: us, hq, ?_, ?_⟩
      · simp only [RelL]; exact ⟨u, us, rfl, hv, hr⟩
      · rw [List.mapM_cons]
        simp only [Sem.run_bind, Sem.run_pure, hrun, Result.andThen_ok, hm]
    cases r with
    | tmp t => exact fin _ _ hp (hfr t) (by simp [resOne])
    | cell b t =>
      simp only [resV] at hp
      have hx := hfr b
      generalize hg : get fr b = v at hx hp
      unfold load at hp
      split at hp
      · rename_i c ty s i j
        simp only [Rel] at hx
        obtain ⟨b', off, hu, hc, hs, hty⟩ := hx
        have hc' : Cont T.P S w c (lOf false L) (cellsAt w b') off := hc
        obtain ⟨hsl, v, u, hq, hr, hv⟩ := post_loadC hc' hty hp
        refine fin v u hq hv ?_
        simp [resOne, hu, asAddr, hr]
      · rename_i r s i j
        simp only [HP.bind, HP.post] at hp
        obtain ⟨row, hrow, hp⟩ := hp
        simp only [Rel] at hx
        obtain ⟨p, hl, hu⟩ := psR_some hx
        have hok := hst.row hrow hl
        obtain ⟨arr, bt, hb, hsz, hc⟩ := hok.blk
        rw [← cellsAt_row hb] at hc
        obtain ⟨hsl, v, u, hq, hr, hv⟩ := post_loadC hc (rowTy_sizes hok) hp
        refine fin v u hq hv ?_
        rw [← hok.off hsl] at hr
        simp [resOne, hu, asAddr, hr]
      · exact hp.elim
theorem oneOf_rel {P : Program} {S : Stab} {w : World} {L : Loc} {vs : List AV} {us : List Value} (h : RelL P S w vs L us) :
    Rel P S w (oneOf vs) L (if h : us.toArray.size = 1 then us.toArray[0] else .tuple us.toArray) := by
  cases vs with
  | nil =>
    simp only [RelL] at h
    subst h
    simp [oneOf, Rel, RelL]
  | cons v vs =>
    cases vs with
    | nil =>
      simp only [RelL] at h
      obtain ⟨u, rest, rfl, h1, rfl⟩ := h
      simpa [oneOf] using h1
    | cons v2 vs =>
      have hl := relL_length h
      have : ¬ (us.toArray.size = 1) := by simp; simp at hl; omega
      rw [dif_neg this]
      simp only [oneOf, Rel]
      exact ⟨_, rfl, h⟩
theorem evBody_sound {f : FuncId} {args : List AV} {H : Hp} {v : AV} {H' : Hp} (hT : TabOK T) (hx : evBody T f args H = some (v, H')) : CallOK T f args H v H' := by
  unfold evBody at hx
  split at hx
  · cases hx
  · rename_i fn hf
    split at hx
    · cases hx
    · rename_i body hbody
      split at hx
      · cases hx
      · rename_i hargs
        rw [Nat.ble_eq] at hargs
        obtain ⟨hfu, hfo⟩ := hT.fns f fn hf
        obtain ⟨c0, hc0, hcode, hdis, hname⟩ := fnOK_spec hfo
        rw [hbody] at hc0
        cases hc0
        -- the end of a body
        have fin : ∀ (o : Out) (fr' : Fr) (H1 : Hp), (match o with
            | .ext _ => none
            | _ => (mapH (resV T fr') fn.results.toList).run (fun vs H' _ _ =>
                match seenFrom H.length vs H' with
                | none => none
                | some seen => some (renV 6 (renBy seen) (oneOf vs), renH seen H')) H1 [] []) = some (v, H') →
            (o = .nrm ∨ o = .ret) ∧ ∃ (vs : List AV) (H2 : Hp) (rs ws : List Nat) (news : Nat) (seen : List Nat), seenFrom H.length vs H2 = some seen ∧ v = renV 6 (renBy seen) (oneOf vs) ∧ H' = renH seen H2 ∧ H2.length = H1.length + news ∧
              (∀ r, r ∉ ws → look H2 r = look H1 r) ∧ ∀ (h : Hs) (more : List Nat), (∀ r ∈ rs ++ ws, r < H1.length → h r = look H1 r) →
                (mapH (resV T fr') fn.results.toList).post h ((List.range news).map (· + H1.length) ++ more) fun a' h' ids' => a' = vs ∧ ids' = more ∧ (∀ r ∈ ws, h' r = look H2 r) ∧ ∀ r, r ∉ ws → h' r = h r := by
          intro o fr' H1 hk
          have ho : o = .nrm ∨ o = .ret := by
            cases o with
            | nrm => exact .inl rfl
            | ret => exact .inr rfl
            | ext id => cases hk
          refine ⟨ho, ?_⟩
          have hk' : (mapH (resV T fr') fn.results.toList).run (fun vs H' _ _ =>
                match seenFrom H.length vs H' with
                | none => none
                | some seen => some (renV 6 (renBy seen) (oneOf vs), renH seen H')) H1 [] [] = some (v, H') := by
            rcases ho with rfl | rfl <;> exact hk
          obtain ⟨vs, H2, rs, ws, news, h1, h2, h3, _, _, h6⟩ := run_acc _ hk'
          split at h1
          · cases h1
          · rename_i seen hseen
            simp only [Option.some.injEq, Prod.mk.injEq] at h1
            exact ⟨vs, H2, rs, ws, news, seen, hseen, h1.1.symm, h1.2.symm, h2, h3, h6⟩
        refine ⟨⟨fn, body, hfu, hbody, hname⟩, ?_, ?_⟩
        · obtain ⟨o, fr', H1, hk⟩ := evC_cont hT _ _ _ _ hx
          obtain ⟨_, vs, H2, rs, ws, news, seen, hseen, _, rfl, _⟩ := fin o fr' H1 hk
          have := (seenFrom_spec hseen).base.1
          unfold renH
          simpa using this
        · intro S w L us hst hrel
          have hL : ∀ r, H.length ≤ r → L r = none := fun r hr => hst.fresh r (.inr ⟨_, rfl, hr⟩)
          have hul := relL_length hrel
          refine calls_of_wp hfu hbody ?_
          have hcs : CS T fn.ntmps w S L (argFr 0 args) H { tmps := us.toArray ++ Array.replicate (fn.ntmps - us.toArray.size) undef, defers := [] } w S L := by
            refine ⟨hst, fun t => ?_, by simp; omega, rfl, Ext.refl _ _ _⟩
            rw [get_argFr]
            simp only [Nat.zero_le, if_true, Nat.sub_zero]
            cases ht : args[t]? with
            | none => simp only [Option.getD_none, Rel]
            | some x =>
              obtain ⟨u, h1, h2⟩ := relL_get _ _ hrel ht
              have htl := lt_of_get h1
              simp only [Option.getD_some]
              have : (us.toArray ++ Array.replicate (fn.ntmps - us.toArray.size) undef).getD t undef = u := by
                rw [Array.getD_eq_getD_getElem?, Array.getElem?_append_left (by simpa using htl)]
                simp [h1]
              rw [this]
              exact h2
          refine evC_sound hT hf hbody hL body hcode (fun p hp => hp) _ _ _ hx _ w S L hcs (Nat.le_refl _) _ ?_
          intro o fr' H1 hk hb a' w' S' L' hcs'
          obtain ⟨ho, vs, H2, rs, ws, news, seen, hseen, rfl, rfl, h2, h3, h6⟩ := fin o fr' H1 hk
          have hp := h6 (look H1) [H1.length] (fun _ _ _ => rfl)
          obtain ⟨vs', us', ⟨rfl, e2, e3, e4⟩, hr, hm⟩ := post_resV hcs'.st hcs'.fr _ _ hp
          have hnews : news = 0 := by
            have := congrArg List.length e2
            simpa using this
          have hH : look H2 = look H1 := by
            funext r
            by_cases hr : r ∈ ws
            · exact (e3 r hr).symm
            · exact h3 r hr
          have hs := seenFrom_spec hseen
          have hst2 : St T S' w' L' (look H2) [H1.length] := by rw [hH]; exact hcs'.st
          have hgc := hst2.gc hs
          have hlen : (renH seen H2).length = seen.length := by unfold renH; simp
          have hres : (results fn a'.tmps).run T.P w' = .ok (if h : us'.toArray.size = 1 then us'.toArray[0] else .tuple us'.toArray) w' := run_results hm
          have hR : ∃ u S'' L'', Ending.returned (if h : us'.toArray.size = 1 then us'.toArray[0] else .tuple us'.toArray) = .returned u ∧ Rel T.P S'' w' (renV 6 (renBy seen) (oneOf vs')) L'' u ∧ St T S'' w' L'' (look (renH seen H2)) [(renH seen H2).length] ∧ Ext w S L w' S'' L'' := by
            refine ⟨_, S', locBy L' seen, rfl, Rel.ren (renOK_by fun r hr => hs.vals r (idsOf_oneOf hr)) (oneOf_rel hr), by rw [hlen]; exact hgc, hcs'.ext.gc hs hL⟩
          rcases ho with rfl | rfl
          · exact ⟨hcs'.dfr, _, hres, hR⟩
          · exact ⟨hcs'.dfr, _, hres, hR⟩
end
end Go.Ev
namespace Go.Ev
open Go
set_option linter.unusedVariables false
set_option linter.unusedSimpArgs false
section tab
variable {T T' : Tab}
theorem St.tab {S : Stab} {w : World} {L : Loc} {h : Hs} {ids : List Nat} (h1 : T'.P = T.P) (h2 : T'.glob = T.glob) (hst : St T S w L h ids) : St T' S w L h ids :=
  ⟨by rw [h1]; exact hst.inv, hst.nd, hst.fresh, hst.dom, by have := hst.glob; unfold GlobOK at *; rw [h1, h2]; exact this⟩
theorem CS.tab {n : Nat} {w0 : World} {S0 : Stab} {L0 : Loc} {fr : Fr} {H : Hp} {a : Act} {w : World} {S : Stab} {L : Loc} (h1 : T'.P = T.P) (h2 : T'.glob = T.glob) (h : CS T n w0 S0 L0 fr H a w S L) : CS T' n w0 S0 L0 fr H a w S L :=
  ⟨h.st.tab h1 h2, by rw [h1]; exact h.fr, h.size, h.dfr, h.ext⟩
theorem CallOK.tab {f : FuncId} {args : List AV} {H : Hp} {v : AV} {H' : Hp} (h1 : T'.P = T.P) (h2 : T'.glob = T.glob) (h : CallOK T f args H v H') : CallOK T' f args H v H' := by
  refine ⟨by rw [h1]; exact h.fn, h.len, fun S w L us hst hr => ?_⟩
  rw [h1]
  refine (h.run S w L us (hst.tab h1.symm h2.symm) (by rw [← h1]; exact hr)).mono ?_
  rintro e w' ⟨u, S', L', e1, e2, e3, e4⟩
  exact ⟨u, S', L', e1, e2, e3.tab h1 h2, e4⟩
theorem LoopOK.tab {fid lid base : Nat} {kv : List AV} {H : Hp} {o : Out} {kv' : List AV} {H' : Hp} (h1 : T'.P = T.P) (h2 : T'.glob = T.glob) (h3 : T'.fn = T.fn) (h4 : T'.keep = T.keep) (h : LoopOK T fid lid base kv H o kv' H') :
    LoopOK T' fid lid base kv H o kv' H' := by
  refine ⟨h.len, fun f c hf hc w0 S0 L0 a w S L hb hL hcs Q hQ => ?_⟩
  rw [h1]
  rw [h3] at hf hc
  rw [h4] at hcs hQ
  exact h.run f c hf hc w0 S0 L0 a w S L hb hL (hcs.tab h1.symm h2.symm) Q fun a' w' S' L' hcs' => hQ a' w' S' L' (hcs'.tab h1 h2)
def Tab.addCall (T : Tab) (g : FuncId) (r : List AV → Hp → Tree (AV × Hp)) : Tab :=
  { T with callR := fun f args H => match Nat.beq f g with
    | true => r args H
    | false => T.callR f args H }
def Tab.addLoop (T : Tab) (g lid : Nat) (r : Nat → List AV → Hp → Tree (Out × List AV × Hp)) : Tab :=
  { T with loopT := fun f l base kv H => match Nat.beq f g && Nat.beq l lid with
    | true => r base kv H
    | false => T.loopT f l base kv H }
theorem TabOK.addCall (hT : TabOK T) {g : FuncId} {r : List AV → Hp → Tree (AV × Hp)} (h : ∀ args H v H', (r args H).val = some (v, H') → CallOK T g args H v H') : TabOK (T.addCall g r) := by
  refine ⟨fun f args H v H' hv => ?_, fun fid lid base kv H o kv' H' hv => (hT.loops fid lid base kv H o kv' H' hv).tab (T := T) (T' := T.addCall g r) rfl rfl rfl rfl, hT.fns, hT.mixed⟩
  simp only [Tab.addCall] at hv
  cases hb : Nat.beq f g with
  | true =>
    rw [hb] at hv
    have := Nat.eq_of_beq_eq_true hb
    subst this
    exact (h args H v H' hv).tab (T := T) (T' := T.addCall f r) rfl rfl
  | false =>
    rw [hb] at hv
    exact (hT.calls f args H v H' hv).tab (T := T) (T' := T.addCall g r) rfl rfl
theorem TabOK.addLoop (hT : TabOK T) {g lid : Nat} {r : Nat → List AV → Hp → Tree (Out × List AV × Hp)} (h : ∀ base kv H o kv' H', (r base kv H).val = some (o, kv', H') → LoopOK T g lid base kv H o kv' H') : TabOK (T.addLoop g lid r) := by
  refine ⟨fun f args H v H' hv => (hT.calls f args H v H' hv).tab (T := T) (T' := T.addLoop g lid r) rfl rfl, fun fid l base kv H o kv' H' hv => ?_, hT.fns, hT.mixed⟩
  simp only [Tab.addLoop] at hv
  cases hb : Nat.beq fid g && Nat.beq l lid with
  | true =>
    rw [hb] at hv
    rw [Bool.and_eq_true] at hb
    have e1 := Nat.eq_of_beq_eq_true hb.1
    have e2 := Nat.eq_of_beq_eq_true hb.2
    subst e1; subst e2
    exact (h base kv H o kv' H' hv).tab (T := T) (T' := T.addLoop fid l r) rfl rfl rfl rfl
  | false =>
    rw [hb] at hv
    exact (hT.loops fid l base kv H o kv' H' hv).tab (T := T) (T' := T.addLoop g lid r) rfl rfl rfl rfl
def Tab.bare (T : Tab) : Tab := { T with callR := fun _ _ _ => .fail, loopT := fun _ _ _ _ _ => .fail }
theorem TabOK.bare (hf : ∀ f fn, T.fn f = some fn → T.P.funcs[f]? = some fn ∧ fnOK fn = true) (hm : T.P.follows .mixedOrders = true) : TabOK T.bare :=
  ⟨fun _ _ _ _ _ hv => (by cases hv), fun _ _ _ _ _ _ _ _ hv => (by cases hv), hf, hm⟩
theorem fnsOf_spec {P : Program} {f : FuncId} {fn : Func} (h : fnsOf P f = some fn) : P.funcs[f]? = some fn ∧ fnOK fn = true := by
  unfold fnsOf at h
  split at h
  · rename_i g hg
    split at h
    · rename_i ho
      simp only [Option.some.injEq] at h
      subst h
      exact ⟨hg, ho⟩
    · cases h
  · cases h
end tab
section forced
variable {α : Type}
theorem fNat_eq (n : Nat) (k : Nat → α) : fNat n k = k n := by cases n <;> rfl
theorem fInt_eq (n : Int) (k : Int → α) : fInt n k = k n := by cases n <;> simp [fInt, fNat_eq]
theorem fBool_eq (b : Bool) (k : Bool → α) : fBool b k = k b := by cases b <;> rfl
theorem fList_eq {β : Type} {fe : β → (β → α) → α} (h : ∀ x k, fe x k = k x) : ∀ (l : List β) (k : List β → α), fList fe l k = k l
  | [], k => rfl
  | x :: l, k => by simp only [fList, h, fList_eq h l]
theorem fRun_eq : ∀ (e : ET) (l : List e.T) (k : List e.T → α), fRun e l k = k l
  | .int _, l, k => fList_eq (fun x k => fInt_eq x k) l k
  | .bool, l, k => fList_eq (fun x k => fBool_eq x k) l k
  | .pair _, l, k => fList_eq (fun x k => by simp only [fInt_eq]) l k
  | .ilist _, l, k => fList_eq (fun x k => fList_eq (fun x k => fInt_eq x k) x k) l k
  | .str, l, k => fList_eq (fun x k => rfl) l k
theorem fVal_eq (v : Value) (k : Value → α) : fVal v k = k v := by
  cases v <;> simp [fVal, fInt_eq, fBool_eq]
theorem fAV_eq : ∀ (n : Nat) (v : AV) (k : AV → α), fAV n v k = k v
  | 0, v, k => rfl
  | n + 1, v, k => by
    have ih := fun (v : AV) (k : List AV → α) => fAV_eq n v
    have ihL : ∀ (l : List AV) (k : List AV → α), fList (fAV n) l k = k l := fun l k => fList_eq (fun x k => fAV_eq n x k) l k
    cases v <;> simp only [fAV, fVal_eq, fRun_eq, fNat_eq, fBool_eq, ihL]
theorem fKin_eq (o : Option (Nat × Bool)) (k : Option (Nat × Bool) → α) : fKin o k = k o := by
  cases o <;> simp only [fKin, fNat_eq, fBool_eq]
theorem fRow_eq (row : Row) (k : Row → α) : fRow row k = k row := by
  simp only [fRow, fList_eq (fun x k => fAV_eq 6 x k), fBool_eq, fKin_eq]
theorem fHp_eq (H : Hp) (k : Hp → α) : fHp H k = k H := by
  unfold fHp
  refine fList_eq (fun x k => ?_) H k
  cases x with
  | none => rfl
  | some row => simp only [fRow_eq]
end forced
theorem lpForced_eq (T : Tab) (fid lid base : Nat) (c : Code) : ∀ m, lpForced T fid lid base c m = lpRun T fid lid base c m
  | 0 => rfl
  | m + 1 => by
    have : (fun kv H => fList (fAV 6) kv fun kv => fHp H fun H => lpForced T fid lid base c m kv H) = lpRun T fid lid base c m := by
      funext kv H
      rw [fList_eq (fun x k => fAV_eq 6 x k), fHp_eq, lpForced_eq T fid lid base c m]
    simp only [lpForced, lpRun, this]
theorem carried_ok {T : Tab} (hf : ∀ f fn, T.fn f = some fn → T.P.funcs[f]? = some fn ∧ fnOK fn = true) (hm : T.P.follows .mixedOrders = true) (rounds : Nat) : ∀ n, TabOK (carried T rounds n) ∧ (carried T rounds n).P = T.P ∧ (carried T rounds n).glob = T.glob ∧ (carried T rounds n).fn = T.fn ∧ (carried T rounds n).keep = T.keep
  | 0 => ⟨TabOK.bare hf hm, rfl, rfl, rfl, rfl⟩
  | n + 1 => by
    obtain ⟨ih, e1, e2, e3, e4⟩ := carried_ok hf hm rounds n
    refine ⟨⟨fun f args H v H' hv => ?_, fun fid lid base kv H o kv' H' hv => ?_, hf, hm⟩, rfl, rfl, rfl, rfl⟩
    · simp only [carried] at hv
      rw [fList_eq (fun x k => fAV_eq 6 x k), fHp_eq] at hv
      split at hv
      · rename_i v0 H0 hb
        rw [fAV_eq, fHp_eq] at hv
        simp only [Tree.val, Option.some.injEq, Prod.mk.injEq] at hv
        obtain ⟨rfl, rfl⟩ := hv
        exact (evBody_sound ih hb).tab e1.symm e2.symm
      · cases hv
    · simp only [carried] at hv
      split at hv
      · rename_i c hc
        split at hv
        · rename_i o0 kv0 H0 hb
          rw [fList_eq (fun x k => fAV_eq 6 x k), fHp_eq] at hv
          simp only [Tree.val, Option.some.injEq, Prod.mk.injEq] at hv
          obtain ⟨rfl, rfl, rfl⟩ := hv
          rw [lpForced_eq] at hb
          exact (lpRun_sound ih (by rw [e3]; exact hc) rounds kv H _ _ _ hb).tab e1.symm e2.symm e3.symm e4.symm
        · cases hv
      · cases hv
end Go.Ev
namespace Go.Ev
open Go Go.RowKit
set_option linter.unusedVariables false
set_option linter.unusedSimpArgs false
def allOld (w : World) : Stab := fun b _ => b < w.heap.size
structure Grew (W w' : World) : Prop where
  kept : W.keptBut w' (fun _ => False)
  frz : ∀ a, a.block < W.heap.size → w'.frozen? a = W.frozen? a
  size : W.heap.size ≤ w'.heap.size
theorem Grew.frame {W w' : World} (h : Grew W w') (may : MemPlace → Prop) : W.keptBut w' may := World.keptBut_mono (fun _ f => f.elim) h.kept
theorem grown_of_ext {w w' : World} {S S' : Stab} {L : Loc} (h : Ext w S noLoc w' S' L) : Grew w w' := by
  have hb : ∀ b, b < w.heap.size → w'.heap[b]? = w.heap[b]? := fun b hb => h.blocks b hb (by rintro ⟨r, p, h1, _⟩; cases h1)
  refine ⟨⟨h.os, h.output, fun i hi => ?_⟩, h.frz, h.size⟩
  rw [hb i hi]
  cases ho : w.heap[i]? with
  | none => rfl
  | some o =>
    cases o with
    | cells c t fr => exact ⟨rfl, rfl, rfl, fun _ _ => rfl⟩
    | map es clock => exact .inr ⟨rfl, rfl⟩
    | _ => rfl
theorem St.begin {T : Tab} {w : World} (hg : GlobOK T (allOld w) w) : St T (allOld w) w noLoc (look []) [0] :=
  ⟨⟨fun r row hr => by simp [look] at hr, fun r r' row row' p p' h1 _ _ _ _ => by simp [look] at h1, fun b o hb => hb⟩, ⟨by simp, fun b hb => by simp at hb; subst hb; simp⟩, fun _ _ => rfl, fun r _ => by simp [look], hg⟩
theorem law_calls {T : Tab} {f : FuncId} {args : List AV} {H' : Hp} {w : World} {us : List Value} (h : CallOK T f args [] (vb true) H') (hg : GlobOK T (allOld w) w) (hr : RelL T.P (allOld w) w args noLoc us) :
    Calls T.P f us.toArray w fun e w' => e = .returned (.bool true) ∧ Grew w w' := by
  refine (h.run (allOld w) w noLoc us (St.begin hg) hr).mono ?_
  rintro e w' ⟨u, S', L', rfl, hu, hst, hext⟩
  simp only [Rel] at hu
  subst hu
  exact ⟨rfl, grown_of_ext hext⟩
end Go.Ev
namespace Go.Ev
open Go
set_option linter.unusedVariables false
set_option linter.unusedSimpArgs false
theorem lpRun_of {T : Tab} {fid lid base : Nat} {c : Code} {α : Type} (P : α → Prop) (S : α → List AV) (SH : α → Hp) (res : α → Out × List AV × Hp) (μ : α → Nat)
    (h : ∀ a, P a → ∀ again : List AV → Hp → Option (Out × List AV × Hp), lpStep T fid lid base c again (S a) (SH a) = some (res a) ∨
      ∃ a', P a' ∧ μ a' < μ a ∧ res a' = res a ∧ lpStep T fid lid base c again (S a) (SH a) = again (S a') (SH a')) :
    ∀ a, P a → ∃ m, lpRun T fid lid base c m (S a) (SH a) = some (res a) := by
  have main : ∀ n a, P a → μ a ≤ n → lpRun T fid lid base c (n + 1) (S a) (SH a) = some (res a) := by
    intro n
    induction n with
    | zero =>
      intro a hP hμ
      rcases h a hP (lpRun T fid lid base c 0) with h1 | ⟨a', _, h2, _⟩
      · exact h1
      · omega
    | succ n ih =>
      intro a hP hμ
      rcases h a hP (lpRun T fid lid base c (n + 1)) with h1 | ⟨a', h1, h2, h3, h4⟩
      · exact h1
      · show lpStep T fid lid base c (lpRun T fid lid base c (n + 1)) (S a) (SH a) = _
        rw [h4, ih a' h1 (by omega), h3]
  exact fun a hP => ⟨_, main (μ a) a hP (Nat.le_refl _)⟩
theorem loop_ok {T : Tab} {fid lid base : Nat} {c : Code} (hT : TabOK T) (hlo : loopOf T.fn fid lid = some c) {kv : List AV} {H : Hp} {r : Out × List AV × Hp}
    (h : ∃ m, lpRun T fid lid base c m kv H = some r) : LoopOK T fid lid base kv H r.1 r.2.1 r.2.2 := by
  obtain ⟨m, hm⟩ := h
  exact lpRun_sound hT hlo m _ _ _ _ _ hm
theorem wrapi {x : Int} (h1 : -9223372036854775808 ≤ x) (h2 : x < 9223372036854775808) : IntKind.i64.wrap x = x := by
  simp only [IntKind.wrap, IntKind.signed, IntKind.bits]
  simp
  omega
theorem wrap_succ {i : Nat} (h : i < 4611686018427387904) : IntKind.i64.wrap ((i : Int) + 1) = ((i + 1 : Nat) : Int) := by
  rw [wrapi (by omega) (by omega)]; rfl
def sm {α : Type} (l : List α) : Bool := decide (l.length ≤ 100000)
theorem sm_le {α : Type} {l : List α} (h : sm l = true) : l.length ≤ 100000 := of_decide_eq_true h
theorem toNat_cast (i : Nat) : ((i : Int)).toNat = i := Int.toNat_natCast i
theorem dec_lt {i n : Nat} (h : i < n) : decide ((i : Int) < (n : Int)) = true := decide_eq_true (by omega)
theorem dec_ge (i : Nat) : decide ((0 : Int) ≤ (i : Int)) = true := decide_eq_true (by omega)
theorem dec_ll (n : Nat) : decide ((n : Int) < (n : Int)) = false := decide_eq_false (by omega)
theorem room_ok {n b : Nat} (h : n ≤ 1000000) (hb : b ≤ 200) : room n b = true := by
  unfold room
  have : n * (b + 1) ≤ 1000000 * 201 := Nat.mul_le_mul h (by omega)
  exact Nat.ble_eq_true_of_le (by omega)
theorem br_val {α : Type} {b : Bool} {t e : Tree α} {r : α} (h : (Tree.br b t e).val = some r) : (b = true ∧ t.val = some r) ∨ (b = false ∧ e.val = some r) := by
  cases b
  · exact .inr ⟨rfl, h⟩
  · exact .inl ⟨rfl, h⟩
theorem guard_val {α : Type} {b : Bool} {t : Tree α} {r : α} (h : (Tree.br b t .fail).val = some r) : b = true ∧ t.val = some r := by
  rcases br_val h with h | h
  · exact h
  · cases h.2
theorem leaf_val {α : Type} {a r : α} (h : (Tree.leaf a).val = some r) : r = a := (Option.some.inj h).symm
noncomputable def lpc (T : Tab) (f l : Nat) : Code := match loopOf T.fn f l with
  | some c => c
  | none => .skip
@[reducible] def rowI (l : List Int) (t : TypeId) : Row := { c := [.run (.int .i64) l], vr := false, ty := t, fz := false, loose := false }
@[reducible] def osW (r len : Nat) : AV := .os r 0 0 len true false true
def foldX {σ β ρ : Type} (f : Nat → σ → β → Sum ρ σ) : Nat → List β → σ → Sum ρ σ
  | _, [], s => .inr s
  | i, x :: l, s => match f i s x with
    | .inl r => .inl r
    | .inr s' => foldX f (i + 1) l s'
def endX {σ ρ : Type} (E : σ → ρ) : Sum ρ σ → ρ
  | .inl r => r
  | .inr s => E s
theorem each_of {T : Tab} {fid lid base : Nat} {c : Code} {σ β : Type} (l : List β) (Inv : Nat → σ → Prop) (f : Nat → σ → β → Sum (Out × List AV × Hp) σ)
    (S : Int → σ → List AV) (SH : σ → Hp) (E : σ → Out × List AV × Hp)
    (h : ∀ (i : Nat) x s, l[i]? = some x → i < l.length → Inv i s → ∀ again : List AV → Hp → Option (Out × List AV × Hp), lpStep T fid lid base c again (S i s) (SH s) = match f i s x with
      | .inl r => some r
      | .inr s' => again (S ((i + 1 : Nat) : Int) s') (SH s'))
    (hi : ∀ (i : Nat) x s s', l[i]? = some x → i < l.length → Inv i s → f i s x = .inr s' → Inv (i + 1) s')
    (he : ∀ s, Inv l.length s → ∀ again : List AV → Hp → Option (Out × List AV × Hp), lpStep T fid lid base c again (S (l.length : Nat) s) (SH s) = some (E s))
    (s0 : σ) (h0 : Inv 0 s0) : ∃ m, lpRun T fid lid base c m (S 0 s0) (SH s0) = some (endX E (foldX f 0 l s0)) := by
  have main : ∀ (k i : Nat) (s : σ), i + k = l.length → Inv i s → lpRun T fid lid base c (k + 1) (S i s) (SH s) = some (endX E (foldX f i (l.drop i) s)) := by
    intro k
    induction k with
    | zero =>
      intro i s hk hI
      obtain rfl : i = l.length := by omega
      rw [List.drop_eq_nil_of_le (Nat.le_refl _)]
      exact he s hI _
    | succ k ih =>
      intro i s hk hI
      have hlt : i < l.length := by omega
      rw [List.drop_eq_getElem_cons hlt]
      have hx : l[i]? = some l[i] := List.getElem?_eq_getElem hlt
      show lpStep T fid lid base c (lpRun T fid lid base c (k + 1)) (S i s) (SH s) = _
      rw [h i _ s hx hlt hI]
      have hn := hi i l[i] s
      cases hf : f i s l[i] with
      | inl r => simp only [foldX, hf, endX]
      | inr s' =>
        simp only [foldX, hf]
        exact ih (i + 1) s' (by omega) (hn s' hx hlt hI hf)
  obtain h := main l.length 0 s0 (by omega) h0
  rw [List.drop_zero] at h
  exact ⟨_, h⟩
end Go.Ev
namespace Go.Ev
open Go Go.RowKit Go.ChangeShapes
set_option linter.unusedVariables false
set_option linter.unusedSimpArgs false
section stay
variable {H : Type} {enc : TypeId × Value → H} {P : Program} {W W' : World}
theorem grown_same (hg : Grew W W') {p : MemPlace} (hb : p.block < W.heap.size) (hgood : Good W p) : W.sameAt W' p := by
  refine hg.kept.sameAt hb (fun f => f) fun b hp => ?_
  subst hp
  exact hgood
theorem trod_stay {t : TypeId} (hl : laidOutB P = true) (hr : P.readableRec t = true) (hrow : t < P.types.size) (hg : Grew W W') {sp' : Nat → Bool} {v : Value} {d : DataW H} {ps : List MemPlace}
    (h : DataW.Trod enc P W 0 (fun _ => true) true t v d ps) (hlt : ∀ p ∈ ps, p.block < W.heap.size) (hs : ∀ p ∈ ps, sp' p.block = true) : DataW.Trod enc P W' 0 sp' true t v d ps := by
  refine WideElems.Trod_stays hl hr hrow h (fun p hp => ?_) hs
  obtain ⟨n, hn⟩ := h
  exact grown_same hg (hlt p hp) (DataW.trod_good (kids_book hl hr) (fun h => by cases h) n t _ (d, ps) ⟨hrow, book_self t⟩ hn p hp)
theorem trodAll_stay (hl : laidOutB P = true) (hg : Grew W W') {sp' : Nat → Bool} : ∀ {ts : List TypeId} {vs : List Value} {ds : List (DataW H)} {ps : List MemPlace}, (∀ t ∈ ts, P.readableRec t = true ∧ t < P.types.size) →
    DataW.TrodAll enc P W 0 (fun _ => true) true ts vs ds ps → (∀ p ∈ ps, p.block < W.heap.size) → (∀ p ∈ ps, sp' p.block = true) → DataW.TrodAll enc P W' 0 sp' true ts vs ds ps
  | [], [], [], ps, _, h, _, _ => h
  | t :: ts, v :: vs, d :: ds, ps, ht, h, hlt, hs => by
    obtain ⟨p, q, h1, h2, rfl⟩ := h
    exact ⟨p, q, trod_stay hl (ht t (by simp)).1 (ht t (by simp)).2 hg h1 (fun x hx => hlt x (by simp [hx])) (fun x hx => hs x (by simp [hx])),
      trodAll_stay hl hg (fun x hx => ht x (by simp [hx])) h2 (fun x hx => hlt x (by simp [hx])) (fun x hx => hs x (by simp [hx])), rfl⟩
  | [], _ :: _, _, _, _, h, _, _ => h.elim
  | [], [], _ :: _, _, _, h, _, _ => h.elim
  | _ :: _, [], _, _, _, h, _, _ => h.elim
  | _ :: _, _ :: _, [], _, _, h, _, _ => h.elim
theorem post_same {f : Func} {s : ChangeSpec} {apart fresh handsOn again : Bool} {args : Array Value} {v : Value} {ds gs : List (DataW H)} {before pa pv : List MemPlace}
    (hW : DataW.Whole enc P f.params.toList s.vars apart W args.toList ds gs before)
    (hres : ∀ (b : Nat) (sp : Nat → Bool) (held : Bool), DataW.TrodAll enc P W' b sp held f.resultTypes.toList (v.resultList f.resultTypes.size) (s.fn H (ds ++ gs)).results [])
    (hargs : ∀ sp : Nat → Bool, (∀ p ∈ before, sp p.block = true) → DataW.TrodAll enc P W' 0 sp true f.params.toList args.toList (s.fn H (ds ++ gs)).args pa)
    (hvars : ∀ sp : Nat → Bool, (∀ p ∈ before, sp p.block = true) → DataW.TrodVars enc P W' sp s.vars (s.fn H (ds ++ gs)).vars pv)
    (hps : before = pa ++ pv) (hg : Grew W W')
    (hok : ∀ (j : Nat) (t : TypeId) (r : Value), f.resultTypes[j]? = some t → (v.resultList f.resultTypes.size)[j]? = some r → Value.okWide P W' .any 0 t r) :
    s.post enc P f apart fresh handsOn again W args v W' := by
  have hlt := hW.lt
  have ho : ∀ p ∈ before, (fun b => decide (b < W.heap.size)) p.block = true := fun p hp => decide_eq_true (hlt p hp)
  obtain ⟨_, _, _, _, _, hz, hn⟩ := id hW
  refine ⟨ds, gs, before, [], pa, pv, hW, hres _ _ _, hargs _ ho, hvars _ ho, World.keptBut_mono (fun p hp => ⟨hp, ?_⟩) (hg.frame (· ∈ before)), fun _ => ?_⟩
  · right; rw [← List.mem_append, ← hps]; exact hp
  · refine ⟨hok, _, _, ([] ++ pa) ++ pv, ⟨[] ++ pa, pv, trodAll_append (hargs _ (fun _ _ => rfl)) (hres _ _ _), hvars _ (fun _ _ => rfl), rfl, fun b off hp => ?_, fun ha => ?_⟩, fun p hp _ => ?_⟩
    · have hm : MemPlace.cell b off ∈ before := by rw [hps]; simpa using hp
      rw [hg.frz _ (hlt _ hm)]
      exact hz b off hm
    · have := hn ha
      rw [hps] at this
      simpa using this
    · rw [hps]; simpa using hp
end stay
section read
variable {H : Type} {enc : TypeId × Value → H} {P : Program} {W : World} {base : Nat} {sp : Nat → Bool} {held : Bool} {fuel : Nat}
theorem trod_int {t : TypeId} {k : IntKind} {cs : List Value} {x : DataW H × List MemPlace} (ht : P.underlying t = some (.int k)) (h : DataW.trod enc P W base sp held fuel t cs = some x) : ∃ n, cs = [.int k n] ∧ (Lit.int k n).wf = true := by
  obtain ⟨n, h1, h2, h3⟩ := DataW.trod_int ht h
  exact ⟨n, h1, h3⟩
end read
end Go.Ev
namespace Go.Ev
open Go
set_option linter.unusedVariables false
def parts : Code → List Code
  | .seq a b => parts a ++ parts b
  | c => [c]
section
variable (T : Tab) {R : Type}
def thenL (k : Out → Fr → Hp → Option R) (n : Fr → Hp → Option R) : Out → Fr → Hp → Option R
  | .nrm => n
  | o => k o
def evL (fid base : Nat) : List Code → (Out → Fr → Hp → Option R) → Fr → Hp → Option R
  | [], k => k .nrm
  | c :: l, k => evC T fid base c (thenL k (evL fid base l k))
theorem thenL_self (k : Out → Fr → Hp → Option R) : thenL k (k .nrm) = k := by
  funext o
  cases o <;> rfl
theorem evL_append {fid base : Nat} (l' : List Code) : ∀ (l : List Code) (k : Out → Fr → Hp → Option R), evL T fid base (l ++ l') k = evL T fid base l (thenL k (evL T fid base l' k))
  | [], k => rfl
  | c :: l, k => by
    simp only [List.cons_append, evL]
    rw [evL_append l' l k]
    congr 1
    funext o
    cases o <;> rfl
theorem evC_parts {fid base : Nat} : ∀ (c : Code) (k : Out → Fr → Hp → Option R), evC T fid base c k = evL T fid base (parts c) k
  | .seq a b, k => by
    show evC T fid base a _ = evL T fid base (parts a ++ parts b) k
    rw [evL_append, ← evC_parts a]
    congr 1
    funext o
    cases o
    · exact evC_parts b k
    · rfl
    · rfl
  | .skip, k => by simp only [parts, evL, thenL_self]
  | .ret, k => by simp only [parts, evL, thenL_self]
  | .exit _, k => by simp only [parts, evL, thenL_self]
  | .region _ _ _, k => by simp only [parts, evL, thenL_self]
  | .cond _ _ _, k => by simp only [parts, evL, thenL_self]
  | .block _ _, k => by simp only [parts, evL, thenL_self]
  | .loop _, k => by simp only [parts, evL, thenL_self]
  | .scope _, k => by simp only [parts, evL, thenL_self]
  | .rangeFunc _ _ _ _, k => by simp only [parts, evL, thenL_self]
  | .label _, k => by simp only [parts, evL, thenL_self]
  | .goto _, k => by simp only [parts, evL, thenL_self]
  | .refuse _, k => by simp only [parts, evL, thenL_self]
theorem evL_step {fid base i n : Nat} {l : List Code} {k : Out → Fr → Hp → Option R} {fr fr' : Fr} {H H' : Hp} {q : Option R}
    (h : ∀ k : Out → Fr → Hp → Option R, evL T fid base ((l.drop i).take n) k fr H = k .nrm fr' H') (hq : evL T fid base (l.drop (i + n)) k fr' H' = q) : evL T fid base (l.drop i) k fr H = q := by
  have e : l.drop i = (l.drop i).take n ++ l.drop (i + n) := by
    rw [← List.drop_drop, List.take_append_drop]
  rw [e, evL_append, h]
  exact hq
end
section
variable (T : Tab)
def endK (fn : Func) (n : Nat) : Out → Fr → Hp → Option (AV × Hp) := fun o fr H' => match o with
  | .ext _ => none
  | _ => (mapH (resV T fr) fn.results.toList).run (fun vs H' _ _ =>
      match seenFrom n vs H' with
      | none => none
      | some seen => some (renV 6 (renBy seen) (oneOf vs), renH seen H')) H' [] []
theorem evBody_of {f : FuncId} {args : List AV} {H : Hp} {fn : Func} {c : Code} {r : Option (AV × Hp)} (h1 : T.fn f = some fn) (h2 : fn.body = some c) (h3 : Nat.ble args.length fn.ntmps = true)
    (h : evL T f H.length ((parts c).drop 0) (endK T fn H.length) (argFr 0 args) H = r) : evBody T f args H = r := by
  rw [List.drop_zero, ← evC_parts] at h
  rw [← h]
  simp only [evBody, h1, h2, h3]
  congr 1
end
end Go.Ev
