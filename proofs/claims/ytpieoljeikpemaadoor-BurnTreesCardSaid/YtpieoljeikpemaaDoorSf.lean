/- The search of the burn chapter: its loop is what BSpec4 says. -/
import Derived.Test.YtpieoljeikpemaaDoorSe
import Derived.Test.YtpieoljeikpemaaDoorLa
set_option linter.unusedVariables false
set_option linter.unusedSimpArgs false
namespace Go.Ev.Burn
open Go Go.Ev
set_option maxRecDepth 1000000
set_option linter.unusedVariables false
set_option linter.unusedSimpArgs false
theorem c52_run : ∀ args H v H', (c52 args H).val = some (v, H') → CallOK S15 52 args H v H' := c52_ok S15_ok (by
  intro s r hv
  obtain ⟨hl, hv⟩ := guard_val hv
  simp only [Bool.and_eq_true, decide_eq_true_eq] at hl
  have hsl := sm_le hl.1
  rw [leaf_val hv, nf52]
  have hr : room (0 + s.length) 8 = true := room_ok (by omega) (by omega)
  simp only [decide_eq_true hl.2, cond_true, hr, Nat.zero_add]
  rw [Nat.zero_add] at hr
  simp only [hr, cond_true])
def mapX {ρ ρ' σ : Type} (h : ρ → ρ') : Sum ρ σ → Sum ρ' σ
  | .inl r => .inl (h r)
  | .inr s => .inr s
def caseX {ρ σ τ : Type} (h : ρ → τ) (E : σ → τ) : Sum ρ σ → τ
  | .inl r => h r
  | .inr s => E s
theorem foldX_map {σ β ρ ρ' : Type} (f : Nat → σ → β → Sum ρ σ) (h : ρ → ρ') (E : σ → ρ') : ∀ (l : List β) (i : Nat) (s : σ), endX E (foldX (fun i s x => mapX h (f i s x)) i l s) = caseX h E (foldX f i l s)
  | [], i, s => rfl
  | x :: l, i, s => by
    simp only [foldX]
    cases f i s x with
    | inl r => rfl
    | inr s' => exact foldX_map f h E l (i + 1) s'
def shN (rn : Int → Hp) (rs : Int → List Int → Hp) (s : Int × List Int) : Hp := match s.2 with
  | [] => rn s.1
  | x :: l => rs s.1 (x :: l)
theorem tLoop_val {kv : Int → List AV} {rn : Int → Hp} {rs : Int → List Int → Hp} {n : Int} {X : Sum (Nat × Int × List Int) (Int × List Int)} {r : Out × List AV × Hp} (hv : (tLoop kv rn rs n X).val = some r) :
    r = caseX (fun x => (.ret, kv x.1, shN rn rs x.2)) (fun s => (.ext 0, kv n, shN rn rs s)) X := by
  unfold tLoop at hv
  cases X with
  | inl x =>
    obtain ⟨i, c, f⟩ := x
    cases f with
    | nil => exact leaf_val hv
    | cons y f => exact leaf_val hv
  | inr s =>
    obtain ⟨c, f⟩ := s
    cases f with
    | nil => exact leaf_val hv
    | cons y f => exact leaf_val hv
theorem loop_put {T : Tab} {base : Nat} {c : Code} {n : Nat} {kv : Int → List AV} {rn : Int → Hp} {rs : Int → List Int → Hp} {P : List Int → Int → Int → List Int → Bool × Int × List Int} {g : List Int} {l M : Nat} {fs : List Int} {b cnt : Int}
    (hfair : ∀ p : Nat, ∀ b c f, 0 ≤ c → Brn.Fair M (fs ++ [(p : Int)]) c f (P (fs ++ [(p : Int)]) b c f).2)
    (s0 : Int × List Int) (hstep : ∀ (i : Nat), i < n → ∀ (s : Int × List Int), cnt ≤ s.1 → s.1 ≤ cnt + ((i * M : Nat) : Int) → (s.2 ≠ [] → 0 < s.1) → (0 < cnt → s.2 = s0.2) → ∀ again : Ag, lpStep T 113 10 base c again (kv i) (shN rn rs s) = caseX (fun x => some (.ret, kv x.1, shN rn rs x.2)) (fun s' => again (kv ((i + 1 : Nat) : Int)) (shN rn rs s')) (Brn.putF P g l fs b i s i))
    (hend : ∀ (s : Int × List Int) (again : Ag), lpStep T 113 10 base c again (kv n) (shN rn rs s) = some (.ext 0, kv n, shN rn rs s)) (h0 : s0.1 = cnt) (h1 : 0 ≤ cnt) (h2 : s0.2 ≠ [] → 0 < cnt) :
    ∃ mm, lpRun T 113 10 base c mm (kv 0) (shN rn rs s0) = some (caseX (fun x => (.ret, kv x.1, shN rn rs x.2)) (fun s => (.ext 0, kv n, shN rn rs s)) (foldX (Brn.putF P g l fs b) 0 (List.range n) s0)) := by
  obtain ⟨mm, hm⟩ := each_of (T := T) (fid := 113) (lid := 10) (base := base) (c := c) (List.range n) (fun i (s : Int × List Int) => cnt ≤ s.1 ∧ s.1 ≤ cnt + ((i * M : Nat) : Int) ∧ (s.2 ≠ [] → 0 < s.1) ∧ (0 < cnt → s.2 = s0.2))
    (fun i s p => mapX (fun x => ((.ret, kv x.1, shN rn rs x.2) : Out × List AV × Hp)) (Brn.putF P g l fs b i s p)) (fun i _ => kv i) (fun s => shN rn rs s) (fun s => (.ext 0, kv n, shN rn rs s))
    (fun i x s hx hlt hI again => by
      obtain ⟨rfl, hi⟩ := range_get hx
      rw [hstep x hi s hI.1 hI.2.1 hI.2.2.1 hI.2.2.2 again]
      cases Brn.putF P g l fs b x s x <;> rfl)
    (fun i x s s' hx hlt hI hf => by
      obtain ⟨rfl, hi⟩ := range_get hx
      have hP := hfair x (Brn.orU b (g.getD (l + x * 9) 0)) s.1 s.2 (Int.le_trans h1 hI.1)
      unfold Brn.putF at hf
      cases hb : (P (fs ++ [(x : Int)]) (Brn.orU b (g.getD (l + x * 9) 0)) s.1 s.2).1 with
      | false => rw [hb] at hf; cases hf
      | true =>
        rw [hb] at hf
        simp only [cond_true, mapX, Sum.inr.injEq] at hf
        subst hf
        obtain ⟨a1, a2, a3, a4⟩ := hP
        refine ⟨by have := hI.1; omega, ?_, a4 hI.2.2.1, fun hc => by rw [a3 (by have := hI.1; omega)]; exact hI.2.2.2 hc⟩
        rw [Nat.succ_mul]
        have hI2 := hI.2.1
        push_cast at a2 hI2 ⊢
        omega)
    (fun s hI again => by
      rw [List.length_range]
      exact hend s again) s0 ⟨by omega, by omega, by rw [h0]; exact h2, fun _ => rfl⟩
  exact ⟨mm, hm.trans (congrArg some (foldX_map (Brn.putF P g l fs b) (fun x => ((.ret, kv x.1, shN rn rs x.2) : Out × List AV × Hp)) (fun s => (.ext 0, kv n, shN rn rs s)) (List.range n) 0 s0))⟩
theorem gLoop_of {d k : Nat} {fs : List Int} {left size m n : Int} {g : List Int} {cnt : Int} (h : gLoop d k fs left size m n g cnt = true) : k = fs.length ∧ left = size - fs.length ∧ 1 ≤ left ∧ left ≤ d ∧ size ≤ 9 ∧ m = n ∧ 1 ≤ n ∧ n ≤ 9 ∧ g.length = 81 ∧ 0 ≤ cnt ∧ cnt + ((9 ^ left.toNat : Nat) : Int) ≤ 1000000000000000000 := by
  unfold gLoop Brn.capOK at h
  simp only [Bool.and_eq_true, decide_eq_true_eq] at h
  omega
theorem cap_of {c : Int} {l : Nat} {left : Int} (hl : left = (l : Int)) (h0 : 0 ≤ c) (h : c + ((9 ^ l : Nat) : Int) ≤ 1000000000000000000) : Brn.capOK c left = true := by
  unfold Brn.capOK
  subst hl
  rw [toNat_cast, decide_eq_true h0, decide_eq_true h]; rfl
theorem step_B (d : Nat) {fs : List Int} {t : TypeId} {z : Bool} {b size kind : Int} {n l : Nat} {g : List Int} {cnt : Int} (hfs : fs ≠ []) (hl : size - fs.length = ((l + 1 : Nat) : Int)) (hd : l + 1 ≤ d) (hs9 : size ≤ 9) (h1 : 1 ≤ n) (h9 : n ≤ 9) (hg : g.length = 81) (h0 : 0 ≤ cnt) (hcap : cnt + ((9 ^ (l + 1) : Nat) : Int) ≤ 1000000000000000000)
    (i : Nat) (hi : i < n) (s : Int × List Int) (a1 : cnt ≤ s.1) (a2 : s.1 ≤ cnt + ((i * 9 ^ l : Nat) : Int)) (a3 : s.2 ≠ [] → 0 < s.1) (again : Ag) :
    lpStep (S17 d) 113 10 8 (lpc (S17 d) 113 10) again (kvB fs.length b ((l + 1 : Nat) : Int) n i) (shN (rowsN size n kind g 7 putB [some (rowZ fs t z)]) (rowsS size n kind g 7 putB [some (rowZ fs t z)]) s) =
      caseX (fun x => some (.ret, kvB fs.length b ((l + 1 : Nat) : Int) n x.1, shN (rowsN size n kind g 7 putB [some (rowZ fs t z)]) (rowsS size n kind g 7 putB [some (rowZ fs t z)]) x.2))
        (fun s' => again (kvB fs.length b ((l + 1 : Nat) : Int) n ((i + 1 : Nat) : Int)) (shN (rowsN size n kind g 7 putB [some (rowZ fs t z)]) (rowsS size n kind g 7 putB [some (rowZ fs t z)]) s')) (Brn.putF (Brn.putS n g (Brn.allN n) (kind == 2) l) g l fs b i s i) := by
  obtain ⟨c, f⟩ := s
  dsimp only at a1 a2 a3
  have hpow : i * 9 ^ l + 9 ^ l ≤ 9 ^ (l + 1) := by
    rw [← Nat.succ_mul, Nat.pow_succ, Nat.mul_comm (9 ^ l)]; exact Nat.mul_le_mul_right _ (by omega)
  have hcc : c + ((9 ^ l : Nat) : Int) ≤ 1000000000000000000 := by
    have h' : ((i * 9 ^ l : Nat) : Int) + ((9 ^ l : Nat) : Int) ≤ ((9 ^ (l + 1) : Nat) : Int) := by rw [← Int.natCast_add]; exact Int.ofNat_le.2 hpow
    generalize ((i * 9 ^ l : Nat) : Int) = A at a2 h'
    generalize ((9 ^ l : Nat) : Int) = B at h' ⊢
    generalize ((9 ^ (l + 1) : Nat) : Int) = C at h' hcap
    omega
  have hlen : fs.length ≤ 9 := by omega
  have e0 : decide ((i : Int) < (n : Int)) = true := decide_eq_true (by omega)
  have e1 : room (fs.length + 1) 8 = true := room_ok (by omega) (by omega)
  have e2 : decide ((i : Int) < 9) = true := decide_eq_true (by omega)
  have e3 : IntKind.i64.wrap (((l + 1 : Nat) : Int) - 1) = (l : Int) := by rw [wrapi (by omega) (by omega)]; omega
  have e4 : decide ((l : Int) < 9) = true := decide_eq_true (by omega)
  have e5 : g[l + i * 9]? = some (g.getD (l + i * 9) 0) := get9 hg (by omega)
  have e6 : (fs ++ [(i : Int)]).length = fs.length + 1 := by simp
  have e7 : size - ((fs.length + 1 : Nat) : Int) = (l : Int) := by omega
  have c1 : decide (0 < fs.length + 1) = true := decide_eq_true (by omega)
  have c2 : decide ((l : Int) < (d : Int)) = true := decide_eq_true (by omega)
  have c3 : decide (1 ≤ (n : Int)) = true := decide_eq_true (by omega)
  have c4 : decide ((n : Int) ≤ 9) = true := decide_eq_true (by omega)
  have c5 := cap_of (c := c) rfl (by omega) hcc
  have hF := Brn.putS_fair (n := n) h9 (g := g) (all := Brn.allN n) (many := kind == 2) l (fs ++ [(i : Int)]) (Brn.orU b (g.getD (l + i * 9) 0)) c f (by omega) (by simp)
  unfold Brn.putF
  cases f with
  | nil =>
    show lpStep (S17 d) 113 10 8 (lpc (S17 d) 113 10) again [osW 0 fs.length, vint .u64 b, ps 2, ps 6, vb false, vi ((l + 1 : Nat) : Int), vi n, vi i] (some (rowZ fs t z) :: boxes size n c kind g 7 nilSl false putB) = _
    rw [nl113Bn]
    simp only [e0, e1, e2, e3, e4, e5, e6, e7, c1, c2, c3, c4, c5, dec_ge, decide_true, decide_eq_true hs9, decide_eq_true hg, Bool.and_self, cond_true, toNat_cast, oM]
    rw [wrap_succ (by omega)]
    have hor : IntKind.u64.wrap ((BitVec.ofInt 64 b ||| BitVec.ofInt 64 (g.getD (l + i * 9) 0)).toNat : Int) = Brn.orU b (g.getD (l + i * 9) 0) := rfl
    simp only [hor]
    generalize Brn.putS n g (Brn.allN n) (kind == 2) l (fs ++ [(i : Int)]) (Brn.orU b (g.getD (l + i * 9) 0)) c [] = r
    obtain ⟨r1, rc, rf⟩ := r
    cases r1 <;> cases rf <;> rfl
  | cons x f =>
    have hc0 := a3 (by simp)
    have c6 : decide (0 < c) = true := decide_eq_true hc0
    have hk := hF.keep hc0
    show lpStep (S17 d) 113 10 8 (lpc (S17 d) 113 10) again [osW 0 fs.length, vint .u64 b, ps 2, ps 6, vb false, vi ((l + 1 : Nat) : Int), vi n, vi i] (some (rowZ fs t z) :: (boxes size n c kind g 7 (osW 8 (x :: f).length) true putB ++ [some (rowI (x :: f) 3)])) = _
    rw [nl113Bs]
    simp only [e0, e1, e2, e3, e4, e5, e6, e7, c1, c2, c3, c4, c5, c6, dec_ge, decide_true, decide_eq_true hs9, decide_eq_true hg, Bool.and_self, cond_true, toNat_cast, oM]
    rw [wrap_succ (by omega)]
    have hor : IntKind.u64.wrap ((BitVec.ofInt 64 b ||| BitVec.ofInt 64 (g.getD (l + i * 9) 0)).toNat : Int) = Brn.orU b (g.getD (l + i * 9) 0) := rfl
    simp only [hor]
    generalize Brn.putS n g (Brn.allN n) (kind == 2) l (fs ++ [(i : Int)]) (Brn.orU b (g.getD (l + i * 9) 0)) c (x :: f) = r at hk ⊢
    obtain ⟨r1, rc, rf⟩ := r
    simp only at hk
    subst hk
    cases r1 <;> rfl
end Go.Ev.Burn
namespace Go.Ev.Burn
open Go Go.Ev
set_option maxRecDepth 1000000
set_option linter.unusedVariables false
set_option linter.unusedSimpArgs false
theorem cap_next {cnt c : Int} {i n l : Nat} (hi : i < n) (h9 : n ≤ 9) (a2 : c ≤ cnt + ((i * 9 ^ l : Nat) : Int)) (hcap : cnt + ((9 ^ (l + 1) : Nat) : Int) ≤ 1000000000000000000) : c + ((9 ^ l : Nat) : Int) ≤ 1000000000000000000 := by
  have hpow : i * 9 ^ l + 9 ^ l ≤ 9 ^ (l + 1) := by
    rw [← Nat.succ_mul, Nat.pow_succ, Nat.mul_comm (9 ^ l)]; exact Nat.mul_le_mul_right _ (by omega)
  have h' : ((i * 9 ^ l : Nat) : Int) + ((9 ^ l : Nat) : Int) ≤ ((9 ^ (l + 1) : Nat) : Int) := by rw [← Int.natCast_add]; exact Int.ofNat_le.2 hpow
  generalize ((i * 9 ^ l : Nat) : Int) = A at a2 h'
  generalize ((9 ^ l : Nat) : Int) = B at h' ⊢
  generalize ((9 ^ (l + 1) : Nat) : Int) = C at h' hcap
  omega
theorem step_A (d : Nat) {b size kind : Int} {n l : Nat} {g : List Int} {cnt : Int} (hl : size = ((l + 1 : Nat) : Int)) (hd : l + 1 ≤ d) (hs9 : size ≤ 9) (h1 : 1 ≤ n) (h9 : n ≤ 9) (hg : g.length = 81) (h0 : 0 ≤ cnt) (hcap : cnt + ((9 ^ (l + 1) : Nat) : Int) ≤ 1000000000000000000)
    (i : Nat) (hi : i < n) (s : Int × List Int) (a1 : cnt ≤ s.1) (a2 : s.1 ≤ cnt + ((i * 9 ^ l : Nat) : Int)) (a3 : s.2 ≠ [] → 0 < s.1) (again : Ag) :
    lpStep (S17 d) 113 10 7 (lpc (S17 d) 113 10) again (kvA b ((l + 1 : Nat) : Int) n i) (shN (rowsN size n kind g 6 putA []) (rowsS size n kind g 6 putA []) s) =
      caseX (fun x => some (.ret, kvA b ((l + 1 : Nat) : Int) n x.1, shN (rowsN size n kind g 6 putA []) (rowsS size n kind g 6 putA []) x.2))
        (fun s' => again (kvA b ((l + 1 : Nat) : Int) n ((i + 1 : Nat) : Int)) (shN (rowsN size n kind g 6 putA []) (rowsS size n kind g 6 putA []) s')) (Brn.putF (Brn.putS n g (Brn.allN n) (kind == 2) l) g l [] b i s i) := by
  obtain ⟨c, f⟩ := s
  dsimp only at a1 a2 a3
  have hcc := cap_next hi h9 a2 hcap
  have e0 : decide ((i : Int) < (n : Int)) = true := decide_eq_true (by omega)
  have e2 : decide ((i : Int) < 9) = true := decide_eq_true (by omega)
  have e3 : IntKind.i64.wrap (((l + 1 : Nat) : Int) - 1) = (l : Int) := by rw [wrapi (by omega) (by omega)]; omega
  have e4 : decide ((l : Int) < 9) = true := decide_eq_true (by omega)
  have e5 : g[l + i * 9]? = some (g.getD (l + i * 9) 0) := get9 hg (by omega)
  have e7 : size - 1 = (l : Int) := by omega
  have e8 : decide ((0 : Int) ≤ (l : Int)) = true := decide_eq_true (by omega)
  have c2 : decide ((l : Int) < (d : Int)) = true := decide_eq_true (by omega)
  have c3 : decide (1 ≤ (n : Int)) = true := decide_eq_true (by omega)
  have c4 : decide ((n : Int) ≤ 9) = true := decide_eq_true (by omega)
  have c5 := cap_of (c := c) rfl (by omega) hcc
  have hF := Brn.putS_fair (n := n) h9 (g := g) (all := Brn.allN n) (many := kind == 2) l ([] ++ [(i : Int)]) (Brn.orU b (g.getD (l + i * 9) 0)) c f (by omega) (by simp)
  unfold Brn.putF
  have hor : IntKind.u64.wrap ((BitVec.ofInt 64 b ||| BitVec.ofInt 64 (g.getD (l + i * 9) 0)).toNat : Int) = Brn.orU b (g.getD (l + i * 9) 0) := rfl
  cases f with
  | nil =>
    show lpStep (S17 d) 113 10 7 (lpc (S17 d) 113 10) again [nilA, vint .u64 b, ps 1, ps 5, vb false, vi ((l + 1 : Nat) : Int), vi n, vi i] (boxes size n c kind g 6 nilSl false putA) = _
    rw [nl113An]
    simp only [e0, e2, e3, e4, e5, dec_ge, decide_true, cond_true, toNat_cast, oM]
    rw [wrap_succ (by omega)]
    simp only [List.length_cons, List.length_nil, Nat.zero_add, Int.natCast_one, e7, e8, c2, c3, c4, c5, hor, decide_eq_true hs9, decide_eq_true hg, decide_true, show decide (0 < 1) = true from rfl, Bool.and_self, cond_true, toNat_cast, List.nil_append]
    generalize Brn.putS n g (Brn.allN n) (kind == 2) l [(i : Int)] (Brn.orU b (g.getD (l + i * 9) 0)) c [] = r
    obtain ⟨r1, rc, rf⟩ := r
    cases r1 <;> cases rf <;> rfl
  | cons x f =>
    have hc0 := a3 (by simp)
    have c6 : decide (0 < c) = true := decide_eq_true hc0
    have hk := hF.keep hc0
    show lpStep (S17 d) 113 10 7 (lpc (S17 d) 113 10) again [nilA, vint .u64 b, ps 1, ps 5, vb false, vi ((l + 1 : Nat) : Int), vi n, vi i] (boxes size n c kind g 6 (osW 7 (x :: f).length) true putA ++ [some (rowI (x :: f) 3)]) = _
    rw [nl113As]
    simp only [e0, e2, e3, e4, e5, dec_ge, decide_true, cond_true, toNat_cast, oM]
    rw [wrap_succ (by omega)]
    simp only [List.length_singleton, Int.natCast_one, e7, e8, c2, c3, c4, c5, c6, hor, decide_eq_true hs9, decide_eq_true hg, decide_true, show decide (0 < 1) = true from rfl, Bool.and_self, cond_true, toNat_cast, List.nil_append] at hk ⊢
    generalize Brn.putS n g (Brn.allN n) (kind == 2) l [(i : Int)] (Brn.orU b (g.getD (l + i * 9) 0)) c (x :: f) = r at hk ⊢
    obtain ⟨r1, rc, rf⟩ := r
    simp only at hk
    subst hk
    cases r1 <;> rfl
abbrev rowsC (size n kind : Int) (g : List Int) (kf : Nat) (f : List Int) (tf : TypeId) (pre : Hp) (c : Int) : Hp := pre ++ (boxes size n c kind g 7 (osW 8 kf) true putB ++ [some (rowI f tf)])
theorem step_C (d : Nat) {fs f : List Int} {kf : Nat} {t tf : TypeId} {z : Bool} {b size kind : Int} {n l : Nat} {g : List Int} {cnt : Int} (hfs : fs ≠ []) (hl : size - fs.length = ((l + 1 : Nat) : Int)) (hd : l + 1 ≤ d) (hs9 : size ≤ 9) (h1 : 1 ≤ n) (h9 : n ≤ 9) (hg : g.length = 81) (h0 : 0 < cnt) (hcap : cnt + ((9 ^ (l + 1) : Nat) : Int) ≤ 1000000000000000000)
    (i : Nat) (hi : i < n) (s : Int × List Int) (a1 : cnt ≤ s.1) (a2 : s.1 ≤ cnt + ((i * 9 ^ l : Nat) : Int)) (a4 : s.2 = f) (again : Ag) :
    lpStep (S17 d) 113 10 9 (lpc (S17 d) 113 10) again (kvB fs.length b ((l + 1 : Nat) : Int) n i) (shN (rowsC size n kind g kf f tf [some (rowZ fs t z)]) (fun c _ => rowsC size n kind g kf f tf [some (rowZ fs t z)] c) s) =
      caseX (fun x => some (.ret, kvB fs.length b ((l + 1 : Nat) : Int) n x.1, shN (rowsC size n kind g kf f tf [some (rowZ fs t z)]) (fun c _ => rowsC size n kind g kf f tf [some (rowZ fs t z)] c) x.2))
        (fun s' => again (kvB fs.length b ((l + 1 : Nat) : Int) n ((i + 1 : Nat) : Int)) (shN (rowsC size n kind g kf f tf [some (rowZ fs t z)]) (fun c _ => rowsC size n kind g kf f tf [some (rowZ fs t z)] c) s')) (Brn.putF (Brn.putS n g (Brn.allN n) (kind == 2) l) g l fs b i s i) := by
  have hsh : ∀ s : Int × List Int, shN (rowsC size n kind g kf f tf [some (rowZ fs t z)]) (fun c _ => rowsC size n kind g kf f tf [some (rowZ fs t z)] c) s = rowsC size n kind g kf f tf [some (rowZ fs t z)] s.1 := by
    rintro ⟨c, f'⟩
    cases f' <;> rfl
  obtain ⟨c, f'⟩ := s
  dsimp only at a1 a2 a4
  subst a4
  have hcc := cap_next hi h9 a2 hcap
  have e0 : decide ((i : Int) < (n : Int)) = true := decide_eq_true (by omega)
  have e1 : room (fs.length + 1) 8 = true := room_ok (by omega) (by omega)
  have e2 : decide ((i : Int) < 9) = true := decide_eq_true (by omega)
  have e3 : IntKind.i64.wrap (((l + 1 : Nat) : Int) - 1) = (l : Int) := by rw [wrapi (by omega) (by omega)]; omega
  have e4 : decide ((l : Int) < 9) = true := decide_eq_true (by omega)
  have e5 : g[l + i * 9]? = some (g.getD (l + i * 9) 0) := get9 hg (by omega)
  have e6 : (fs ++ [(i : Int)]).length = fs.length + 1 := by simp
  have e7 : size - ((fs.length + 1 : Nat) : Int) = (l : Int) := by omega
  have c1 : decide (0 < fs.length + 1) = true := decide_eq_true (by omega)
  have c2 : decide ((l : Int) < (d : Int)) = true := decide_eq_true (by omega)
  have c3 : decide (1 ≤ (n : Int)) = true := decide_eq_true (by omega)
  have c4 : decide ((n : Int) ≤ 9) = true := decide_eq_true (by omega)
  have c5 := cap_of (c := c) rfl (by omega) hcc
  have c6 : decide (0 < c) = true := decide_eq_true (by omega)
  unfold Brn.putF
  have hor : IntKind.u64.wrap ((BitVec.ofInt 64 b ||| BitVec.ofInt 64 (g.getD (l + i * 9) 0)).toNat : Int) = Brn.orU b (g.getD (l + i * 9) 0) := rfl
  rw [hsh]
  show lpStep (S17 d) 113 10 9 (lpc (S17 d) 113 10) again [osW 0 fs.length, vint .u64 b, ps 2, ps 6, vb false, vi ((l + 1 : Nat) : Int), vi n, vi i] (some (rowZ fs t z) :: (boxes size n c kind g 7 (osW 8 kf) true putB ++ [some (rowI f' tf)])) = _
  rw [nl113Cs]
  simp only [e0, e1, e2, e3, e4, e5, e6, e7, c1, c2, c3, c4, c5, c6, dec_ge, decide_true, decide_eq_true hs9, decide_eq_true hg, Bool.and_self, cond_true, toNat_cast, oM]
  rw [wrap_succ (by omega)]
  simp only [hor]
  generalize Brn.putS n g (Brn.allN n) (kind == 2) l (fs ++ [(i : Int)]) (Brn.orU b (g.getD (l + i * 9) 0)) c f' = r
  obtain ⟨r1, rc, rf⟩ := r
  cases r1 <;> simp only [cond_true, cond_false, caseX, hsh] <;> rfl
end Go.Ev.Burn
namespace Go.Ev.Burn
open Go Go.Ev
set_option maxRecDepth 1000000
set_option linter.unusedVariables false
set_option linter.unusedSimpArgs false
set_option maxHeartbeats 4000000
theorem end_B (d : Nat) {fs : List Int} {t : TypeId} {z : Bool} {b size kind left : Int} {n : Nat} {g : List Int} (s : Int × List Int) (again : Ag) :
    lpStep (S17 d) 113 10 8 (lpc (S17 d) 113 10) again (kvB fs.length b left n n) (shN (rowsN size n kind g 7 putB [some (rowZ fs t z)]) (rowsS size n kind g 7 putB [some (rowZ fs t z)]) s) = some (.ext 0, kvB fs.length b left n n, shN (rowsN size n kind g 7 putB [some (rowZ fs t z)]) (rowsS size n kind g 7 putB [some (rowZ fs t z)]) s) := by
  obtain ⟨c, f⟩ := s
  cases f with
  | nil =>
    show lpStep (S17 d) 113 10 8 (lpc (S17 d) 113 10) again [osW 0 fs.length, vint .u64 b, ps 2, ps 6, vb false, vi left, vi n, vi n] (some (rowZ fs t z) :: boxes size n c kind g 7 nilSl false putB) = _
    rw [nl113Bn]
    simp only [dec_ll, cond_false]
    rfl
  | cons x f =>
    show lpStep (S17 d) 113 10 8 (lpc (S17 d) 113 10) again [osW 0 fs.length, vint .u64 b, ps 2, ps 6, vb false, vi left, vi n, vi n] (some (rowZ fs t z) :: (boxes size n c kind g 7 (osW 8 (x :: f).length) true putB ++ [some (rowI (x :: f) 3)])) = _
    rw [nl113Bs]
    simp only [dec_ll, cond_false]
    rfl
theorem end_A (d : Nat) {b size kind left : Int} {n : Nat} {g : List Int} (s : Int × List Int) (again : Ag) :
    lpStep (S17 d) 113 10 7 (lpc (S17 d) 113 10) again (kvA b left n n) (shN (rowsN size n kind g 6 putA []) (rowsS size n kind g 6 putA []) s) = some (.ext 0, kvA b left n n, shN (rowsN size n kind g 6 putA []) (rowsS size n kind g 6 putA []) s) := by
  obtain ⟨c, f⟩ := s
  cases f with
  | nil =>
    show lpStep (S17 d) 113 10 7 (lpc (S17 d) 113 10) again [nilA, vint .u64 b, ps 1, ps 5, vb false, vi left, vi n, vi n] (boxes size n c kind g 6 nilSl false putA) = _
    rw [nl113An]
    simp only [dec_ll, cond_false]
    rfl
  | cons x f =>
    show lpStep (S17 d) 113 10 7 (lpc (S17 d) 113 10) again [nilA, vint .u64 b, ps 1, ps 5, vb false, vi left, vi n, vi n] (boxes size n c kind g 6 (osW 7 (x :: f).length) true putA ++ [some (rowI (x :: f) 3)]) = _
    rw [nl113As]
    simp only [dec_ll, cond_false]
    rfl
theorem end_C (d : Nat) {fs f : List Int} {kf : Nat} {t tf : TypeId} {z : Bool} {b size kind left : Int} {n : Nat} {g : List Int} (s : Int × List Int) (again : Ag) :
    lpStep (S17 d) 113 10 9 (lpc (S17 d) 113 10) again (kvB fs.length b left n n) (shN (rowsC size n kind g kf f tf [some (rowZ fs t z)]) (fun c _ => rowsC size n kind g kf f tf [some (rowZ fs t z)] c) s) = some (.ext 0, kvB fs.length b left n n, shN (rowsC size n kind g kf f tf [some (rowZ fs t z)]) (fun c _ => rowsC size n kind g kf f tf [some (rowZ fs t z)] c) s) := by
  have hsh : shN (rowsC size n kind g kf f tf [some (rowZ fs t z)]) (fun c _ => rowsC size n kind g kf f tf [some (rowZ fs t z)] c) s = rowsC size n kind g kf f tf [some (rowZ fs t z)] s.1 := by
    obtain ⟨c, f'⟩ := s
    cases f' <;> rfl
  rw [hsh]
  show lpStep (S17 d) 113 10 9 (lpc (S17 d) 113 10) again [osW 0 fs.length, vint .u64 b, ps 2, ps 6, vb false, vi left, vi n, vi n] (some (rowZ fs t z) :: (boxes size n s.1 kind g 7 (osW 8 kf) true putB ++ [some (rowI f tf)])) = _
  rw [nl113Cs]
  simp only [dec_ll, cond_false]
  rfl
theorem lpc17 (d : Nat) : loopOf (S17 d).fn 113 10 = some (lpc (S17 d) 113 10) := by kernel_rfl
theorem l113B_run (d : Nat) (hT : TabOK (S17 d)) : ∀ kv H o kv' H', (l113B d kv H).val = some (o, kv', H') → LoopOK (S17 d) 113 10 8 kv H o kv' H' := by
  intro kv H o kv' H' hv
  unfold l113B at hv
  split at hv
  · rename_i k b left m fs t z size cnt kind n g
    obtain ⟨hg, hv⟩ := guard_val hv
    rw [Bool.and_eq_true, decide_eq_true_eq] at hg
    obtain ⟨hg, hk⟩ := hg
    obtain ⟨rfl, hl, hl1, hld, hs9, rfl, h1, h9, hgl, h0, hcap⟩ := gLoop_of hg
    obtain ⟨n, rfl⟩ := Int.eq_ofNat_of_zero_le (show 0 ≤ m by omega)
    obtain ⟨l, hll⟩ := Int.eq_ofNat_of_zero_le (show 0 ≤ left - 1 by omega)
    obtain rfl : left = ((l + 1 : Nat) : Int) := by omega
    have hfs : fs ≠ [] := by intro h; subst h; simp at hk
    have hl' : (((l + 1 : Nat) : Int) - 1).toNat = l := by omega
    rw [toNat_cast] at hcap
    have e := tLoop_val hv
    rw [hl', toNat_cast] at e
    have := loop_ok hT (lpc17 d) (loop_put (P := Brn.putS n g (Brn.allN n) (kind == 2) l) (g := g) (l := l) (fs := fs) (b := b) (n := n) (kv := kvB fs.length b ((l + 1 : Nat) : Int) n) (rn := rowsN size n kind g 7 putB [some (rowZ fs t z)]) (rs := rowsS size n kind g 7 putB [some (rowZ fs t z)]) (T := S17 d) (base := 8) (c := lpc (S17 d) 113 10) (M := 9 ^ l) (cnt := cnt)
      (fun p b c f hc => Brn.putS_fair (by omega) l _ b c f hc (by simp)) (cnt, [])
      (fun i hi s a1 a2 a3 _ again => step_B d hfs hl.symm (by omega) hs9 (by omega) (by omega) hgl h0 hcap i hi s a1 a2 a3 again) (fun s again => end_B d s again) rfl h0 (by simp))
    unfold Brn.putX at e
    rw [← e] at this
    exact this
  · cases hv
theorem tO_val {α β : Type} {o : Option β} {f : β → Tree α} {r : α} (h : (tO o f).val = some r) : ∃ x, o = some x ∧ (f x).val = some r := by
  cases o with
  | none => cases h
  | some x => exact ⟨x, rfl, h⟩
theorem vW0_eq {a : AV} {k : Nat} (h : vW0 a = some k) : a = osW 0 k := by
  unfold vW0 at h; split at h <;> cases h; rfl
theorem vU_eq {a : AV} {b : Int} (h : vU a = some b) : a = vint .u64 b := by
  unfold vU at h; split at h <;> cases h; rfl
theorem vI_eq {a : AV} {b : Int} (h : vI a = some b) : a = vi b := by
  unfold vI at h; split at h <;> cases h; rfl
theorem vPs_eq {a : AV} {r : Nat} {u : Unit} (h : vPs r a = some u) : a = ps r := by
  unfold vPs at h
  split at h
  · rename_i q
    cases hb : Nat.beq q r with
    | true => rw [Nat.eq_of_beq_eq_true hb]
    | false => rw [hb] at h; cases h
  · cases h
theorem vF_eq {a : AV} {u : Unit} (h : vF a = some u) : a = vb false := by
  unfold vF at h; split at h <;> cases h; rfl
theorem v0_eq {a : AV} {u : Unit} (h : v0 a = some u) : a = vi 0 := by
  unfold v0 at h; split at h <;> cases h; rfl
theorem rFs_eq {a : Option Row} {x : List Int × TypeId × Bool} (h : rFs a = some x) : a = some (rowZ x.1 x.2.1 x.2.2) := by
  unfold rFs at h; split at h <;> cases h; rfl
theorem rInt_eq {a : Option Row} {x : Int} (h : rInt a = some x) : a = some (rV (vi x) 3) := by
  unfold rInt at h; split at h <;> cases h; rfl
theorem rPs7_eq {a : Option Row} {u : Unit} (h : rPs7 a = some u) : a = some (rVl (ps 7) 99) := by
  unfold rPs7 at h; split at h <;> cases h; rfl
theorem rOs8_eq {a : Option Row} {k : Nat} (h : rOs8 a = some k) : a = some ⟨[osW 8 k], true, 25, false, true, none⟩ := by
  unfold rOs8 at h; split at h <;> cases h; rfl
theorem rPut_eq {a : Option Row} {u : Unit} (h : rPut a = some u) : a = some (rVl putB 122) := by
  unfold rPut at h; split at h <;> cases h; rfl
theorem rGr_eq {a : Option Row} {x : Int × List Int} (h : rGr a = some x) : a = some (rG x.1 x.2) := by
  unfold rGr at h; split at h <;> cases h; rfl
theorem rL0_eq {a : Option Row} {x : List Int × TypeId} (h : rL0 a = some x) : a = some (rowI x.1 x.2) := by
  unfold rL0 at h; split at h <;> cases h; rfl
theorem l113C_run (d : Nat) (hT : TabOK (S17 d)) : ∀ kv H o kv' H', (l113C d kv H).val = some (o, kv', H') → LoopOK (S17 d) 113 10 9 kv H o kv' H' := by
  intro kv H o kv' H' hv
  unfold l113C at hv
  split at hv
  · rename_i a0 a1 a2 a3 a4 a5 a6 a7 r0 r1 r2 r3 r4 r5 r6 r7 r8
    obtain ⟨k, hx0, hv0⟩ := tO_val hv
    obtain rfl := vW0_eq hx0
    clear hx0
    obtain ⟨b, hx1, hv1⟩ := tO_val hv0
    obtain rfl := vU_eq hx1
    clear hx1
    obtain ⟨_, hx2, hv2⟩ := tO_val hv1
    obtain rfl := vPs_eq hx2
    clear hx2
    obtain ⟨_, hx3, hv3⟩ := tO_val hv2
    obtain rfl := vPs_eq hx3
    clear hx3
    obtain ⟨_, hx4, hv4⟩ := tO_val hv3
    obtain rfl := vF_eq hx4
    clear hx4
    obtain ⟨left, hx5, hv5⟩ := tO_val hv4
    obtain rfl := vI_eq hx5
    clear hx5
    obtain ⟨m, hx6, hv6⟩ := tO_val hv5
    obtain rfl := vI_eq hx6
    clear hx6
    obtain ⟨_, hx7, hv7⟩ := tO_val hv6
    obtain rfl := v0_eq hx7
    clear hx7
    obtain ⟨⟨fs, t, z⟩, hx8, hv8⟩ := tO_val hv7
    obtain rfl := rFs_eq hx8
    clear hx8
    obtain ⟨size, hx9, hv9⟩ := tO_val hv8
    obtain rfl := rInt_eq hx9
    clear hx9
    obtain ⟨_, hx10, hv10⟩ := tO_val hv9
    obtain rfl := rPs7_eq hx10
    clear hx10
    obtain ⟨cnt, hx11, hv11⟩ := tO_val hv10
    obtain rfl := rInt_eq hx11
    clear hx11
    obtain ⟨kf, hx12, hv12⟩ := tO_val hv11
    obtain rfl := rOs8_eq hx12
    clear hx12
    obtain ⟨kind, hx13, hv13⟩ := tO_val hv12
    obtain rfl := rInt_eq hx13
    clear hx13
    obtain ⟨_, hx14, hv14⟩ := tO_val hv13
    obtain rfl := rPut_eq hx14
    clear hx14
    obtain ⟨⟨n, g⟩, hx15, hv15⟩ := tO_val hv14
    obtain rfl := rGr_eq hx15
    clear hx15
    obtain ⟨⟨f, tf⟩, hx16, hv16⟩ := tO_val hv15
    obtain rfl := rL0_eq hx16
    clear hx16
    obtain ⟨hg, hv⟩ := guard_val hv16
    rw [Bool.and_eq_true, decide_eq_true_eq, Bool.and_eq_true, decide_eq_true_eq] at hg
    obtain ⟨⟨hg, hk⟩, hc⟩ := hg
    obtain ⟨rfl, hl, hl1, hld, hs9, rfl, h1, h9, hgl, h0, hcap⟩ := gLoop_of hg
    obtain ⟨n, rfl⟩ := Int.eq_ofNat_of_zero_le (show 0 ≤ m by omega)
    obtain ⟨l, hll⟩ := Int.eq_ofNat_of_zero_le (show 0 ≤ left - 1 by omega)
    obtain rfl : left = ((l + 1 : Nat) : Int) := by omega
    have hfs : fs ≠ [] := by intro h; subst h; simp at hk
    have hl' : (((l + 1 : Nat) : Int) - 1).toNat = l := by omega
    rw [toNat_cast] at hcap
    rw [hl', toNat_cast] at hv
    have := loop_ok hT (lpc17 d) (loop_put (P := Brn.putS n g (Brn.allN n) (kind == 2) l) (g := g) (l := l) (fs := fs) (b := b) (n := n) (kv := kvB fs.length b ((l + 1 : Nat) : Int) n) (rn := rowsC size n kind g kf f tf [some (rowZ fs t z)]) (rs := fun c _ => rowsC size n kind g kf f tf [some (rowZ fs t z)] c) (T := S17 d) (base := 9) (c := lpc (S17 d) 113 10) (M := 9 ^ l) (cnt := cnt)
      (fun p b c f hc => Brn.putS_fair (by omega) l _ b c f hc (by simp)) (cnt, f)
      (fun i hi s a1 a2 a3 a4 again => step_C d hfs hl.symm (by omega) hs9 (by omega) (by omega) hgl hc hcap i hi s a1 a2 (a4 hc) again) (fun s again => end_C d s again) rfl h0 (fun _ => hc))
    have hsh : ∀ s : Int × List Int, shN (rowsC size n kind g kf f tf [some (rowZ fs t z)]) (fun c _ => rowsC size n kind g kf f tf [some (rowZ fs t z)] c) s = rowsC size n kind g kf f tf [some (rowZ fs t z)] s.1 := by
      rintro ⟨c, f'⟩
      cases f' <;> rfl
    unfold Brn.putX at hv
    rw [shN] at this
    have hsh0 : (shN (rowsC size n kind g kf f tf [some (rowZ fs t z)]) (fun c _ => rowsC size n kind g kf f tf [some (rowZ fs t z)] c) (cnt, f)) = rowsC size n kind g kf f tf [some (rowZ fs t z)] cnt := hsh _
    unfold shN at hsh0
    rw [hsh0] at this
    generalize foldX (Brn.putF (Brn.putS n g (Brn.allN n) (kind == 2) l) g l fs b) 0 (List.range n) (cnt, f) = X at this hv
    cases X with
    | inl x =>
      have e := leaf_val hv
      simp only [caseX, hsh] at this
      simp only [Prod.mk.injEq] at e
      obtain ⟨rfl, rfl, rfl⟩ := e
      exact this
    | inr s =>
      have e := leaf_val hv
      simp only [caseX, hsh] at this
      simp only [Prod.mk.injEq] at e
      obtain ⟨rfl, rfl, rfl⟩ := e
      exact this
  · cases hv
theorem l113A_run (d : Nat) (hT : TabOK (S17 d)) : ∀ kv H o kv' H', (l113A d kv H).val = some (o, kv', H') → LoopOK (S17 d) 113 10 7 kv H o kv' H' := by
  intro kv H o kv' H' hv
  unfold l113A at hv
  split at hv
  · rename_i b left m size cnt kind n g
    obtain ⟨hg, hv⟩ := guard_val hv
    obtain ⟨_, hl, hl1, hld, hs9, rfl, h1, h9, hgl, h0, hcap⟩ := gLoop_of hg
    obtain ⟨n, rfl⟩ := Int.eq_ofNat_of_zero_le (show 0 ≤ m by omega)
    obtain ⟨l, hll⟩ := Int.eq_ofNat_of_zero_le (show 0 ≤ left - 1 by omega)
    obtain rfl : left = ((l + 1 : Nat) : Int) := by omega
    have hl' : (((l + 1 : Nat) : Int) - 1).toNat = l := by omega
    rw [toNat_cast] at hcap
    have e := tLoop_val hv
    rw [hl', toNat_cast] at e
    have := loop_ok hT (lpc17 d) (loop_put (P := Brn.putS n g (Brn.allN n) (kind == 2) l) (g := g) (l := l) (fs := []) (b := b) (n := n) (kv := kvA b ((l + 1 : Nat) : Int) n) (rn := rowsN size n kind g 6 putA []) (rs := rowsS size n kind g 6 putA []) (T := S17 d) (base := 7) (c := lpc (S17 d) 113 10) (M := 9 ^ l) (cnt := cnt)
      (fun p b c f hc => Brn.putS_fair (by omega) l _ b c f hc (by simp)) (cnt, [])
      (fun i hi s a1 a2 a3 _ again => step_A d (by simp at hl; omega) (by omega) hs9 (by omega) (by omega) hgl h0 hcap i hi s a1 a2 a3 again) (fun s again => end_A d s again) rfl h0 (by simp))
    unfold Brn.putX at e
    rw [← e] at this
    exact this
  · cases hv
theorem l113_run (d : Nat) (hT : TabOK (S17 d)) : ∀ base kv H o kv' H', (l113 d base kv H).val = some (o, kv', H') → LoopOK (S17 d) 113 10 base kv H o kv' H' := by
  intro base kv H o kv' H' hv
  unfold l113 at hv
  cases h8 : Nat.beq base 8 with
  | true =>
    rw [h8] at hv
    obtain rfl := Nat.eq_of_beq_eq_true h8
    exact l113B_run d hT _ _ _ _ _ hv
  | false =>
    rw [h8] at hv
    cases h9 : Nat.beq base 9 with
    | true =>
      rw [h9] at hv
      obtain rfl := Nat.eq_of_beq_eq_true h9
      exact l113C_run d hT _ _ _ _ _ hv
    | false =>
      rw [h9] at hv
      cases h7 : Nat.beq base 7 with
      | true =>
        rw [h7] at hv
        obtain rfl := Nat.eq_of_beq_eq_true h7
        exact l113A_run d hT _ _ _ _ _ hv
      | false => rw [h7] at hv; cases hv
end Go.Ev.Burn
namespace Go.Ev.Burn
open Go Go.Ev
set_option maxRecDepth 1000000
set_option linter.unusedVariables false
set_option linter.unusedSimpArgs false
set_option maxHeartbeats 4000000
theorem cap_parts {cnt left : Int} (h : Brn.capOK cnt left = true) : 0 ≤ cnt ∧ cnt + ((9 ^ left.toNat : Nat) : Int) ≤ 1000000000000000000 := by
  unfold Brn.capOK at h
  rw [Bool.and_eq_true, decide_eq_true_eq, decide_eq_true_eq] at h
  exact h
theorem pow9 (k : Nat) : 1 ≤ 9 ^ k := Nat.pos_of_ne_zero (by simp)
theorem cap_lt {cnt left : Int} (h : Brn.capOK cnt left = true) : 0 ≤ cnt ∧ cnt < 1000000000000000000 := by
  have h' := cap_parts h
  have := pow9 left.toNat
  have e : ((1 : Nat) : Int) ≤ ((9 ^ left.toNat : Nat) : Int) := Int.ofNat_le.2 this
  generalize ((9 ^ left.toNat : Nat) : Int) = A at h' e
  omega
theorem putS_outX (n : Nat) (g : List Int) (all : Int) (many : Bool) (l : Nat) (fs : List Int) (b c : Int) (f : List Int) : Brn.putS n g all many (l + 1) fs b c f = Brn.outX (Brn.putX n g all many l fs b c f) := rfl
theorem body_B (d : Nat) {fs : List Int} {t : TypeId} {z : Bool} {b size cnt kind n : Int} {g : List Int} (hfs : 0 < fs.length) (hl : 0 ≤ size - fs.length) (hd : size - fs.length ≤ d) (hs9 : size ≤ 9) (h1 : 1 ≤ n) (h9 : n ≤ 9) (hg : g.length = 81) (hcap : Brn.capOK cnt (size - fs.length) = true) (r : AV × Hp)
    (hv : (tBox size n kind g 7 putB [some (rowZ fs t z)] (Brn.putS n.toNat g (Brn.allN n) (kind == 2) (size - fs.length).toNat fs b cnt [])).val = some r) :
    evBody (S18 d) 113 [osW 0 fs.length, vint .u64 b, ps 1, ps 2, ps 3, ps 4, ps 5, ps 6] (some (rowZ fs t z) :: boxes size n cnt kind g 7 nilSl false putB) = some r := by
  rw [nbB, wrapi (by omega) (by omega)]
  have hc := cap_lt hcap
  rw [wrapi (x := cnt + 1) (by omega) (by omega)]
  have hsm : sm fs = true := sm_of (k := 9) (by omega) (by omega)
  obtain ⟨L, hL⟩ := Int.eq_ofNat_of_zero_le hl
  rw [hL] at hcap hd hv ⊢
  rw [Int.toNat_natCast] at hv
  cases L with
  | zero =>
    simp only [show ((((0 : Nat) : Int) == 0) = true) from rfl, cond_true, decide_eq_true h9, decide_eq_true (show (0 : Int) ≤ n by omega), Bool.and_self, hsm, decide_eq_true hfs]
    simp only [Brn.putS] at hv
    cases hb : b != Brn.allN n with
    | true => rw [hb] at hv; exact hv
    | false =>
      rw [hb] at hv
      simp only [cond_false] at hv ⊢
      cases h2 : cnt + 1 == 1 with
      | false => rw [h2] at hv; exact hv
      | true =>
        rw [h2] at hv
        simp only [tBox, cond_true] at hv ⊢
        rw [show fs.isEmpty = false by cases fs <;> simp_all] at hv
        exact hv
  | succ l =>
    simp only [show ((((l + 1 : Nat) : Int) == 0) = false) by simp; omega, cond_false]
    have e : (((l + 1 : Nat) : Int) - 1).toNat = l := by omega
    simp only [e, decide_true, decide_eq_true (show (1 : Int) ≤ ((l + 1 : Nat) : Int) by omega), decide_eq_true hd, decide_eq_true hs9, decide_eq_true h1, decide_eq_true h9, decide_eq_true hg, hcap, decide_eq_true hfs, Bool.and_self, cond_true]
    rw [putS_outX] at hv
    generalize Brn.putX n.toNat g (Brn.allN n) (kind == 2) l fs b cnt [] = X at hv ⊢
    cases X with
    | inl x => exact hv
    | inr s => exact hv
theorem body_C (d : Nat) {fs f : List Int} {kf : Nat} {t tf : TypeId} {z : Bool} {b size cnt kind n : Int} {g : List Int} (hfs : 0 < fs.length) (hl : 0 ≤ size - fs.length) (hd : size - fs.length ≤ d) (hs9 : size ≤ 9) (h1 : 1 ≤ n) (h9 : n ≤ 9) (hg : g.length = 81) (hcap : Brn.capOK cnt (size - fs.length) = true) (hc0 : 0 < cnt) (r : AV × Hp)
    (hv : r = (vb (Brn.putS n.toNat g (Brn.allN n) (kind == 2) (size - fs.length).toNat fs b cnt f).1, some (rowZ fs t z) :: (boxes size n (Brn.putS n.toNat g (Brn.allN n) (kind == 2) (size - fs.length).toNat fs b cnt f).2.1 kind g 7 (osW 8 kf) true putB ++ [some (rowI f tf)]))) :
    evBody (S18 d) 113 [osW 0 fs.length, vint .u64 b, ps 1, ps 2, ps 3, ps 4, ps 5, ps 6] (some (rowZ fs t z) :: (boxes size n cnt kind g 7 (osW 8 kf) true putB ++ [some (rowI f tf)])) = some r := by
  rw [nbC, wrapi (by omega) (by omega)]
  have hc := cap_lt hcap
  rw [wrapi (x := cnt + 1) (by omega) (by omega)]
  have hsm : sm fs = true := sm_of (k := 9) (by omega) (by omega)
  obtain ⟨L, hL⟩ := Int.eq_ofNat_of_zero_le hl
  rw [hL] at hcap hd hv ⊢
  rw [Int.toNat_natCast] at hv
  subst hv
  cases L with
  | zero =>
    simp only [show ((((0 : Nat) : Int) == 0) = true) from rfl, cond_true, decide_eq_true h9, decide_eq_true (show (0 : Int) ≤ n by omega), Bool.and_self, hsm, decide_eq_true hfs]
    simp only [Brn.putS]
    cases hb : b != Brn.allN n with
    | true => rfl
    | false =>
      simp only [cond_false, show (cnt + 1 == 1) = false by simp; omega]
      rfl
  | succ l =>
    simp only [show ((((l + 1 : Nat) : Int) == 0) = false) by simp; omega, cond_false]
    have e : (((l + 1 : Nat) : Int) - 1).toNat = l := by omega
    simp only [e, decide_true, decide_eq_true (show (1 : Int) ≤ ((l + 1 : Nat) : Int) by omega), decide_eq_true hd, decide_eq_true hs9, decide_eq_true h1, decide_eq_true h9, decide_eq_true hg, hcap, decide_eq_true hfs, decide_eq_true hc0, Bool.and_self, cond_true]
    rw [putS_outX]
    generalize Brn.putX n.toNat g (Brn.allN n) (kind == 2) l fs b cnt f = X
    cases X with
    | inl x => rfl
    | inr s => rfl
theorem body_A (d : Nat) {b size cnt kind n : Int} {g : List Int} (hl : 1 ≤ size) (hd : size ≤ d) (hs9 : size ≤ 9) (h1 : 1 ≤ n) (h9 : n ≤ 9) (hg : g.length = 81) (hcap : Brn.capOK cnt size = true) (r : AV × Hp)
    (hv : (tBox size n kind g 6 putA [] (Brn.putS n.toNat g (Brn.allN n) (kind == 2) size.toNat [] b cnt [])).val = some r) :
    evBody (S18 d) 113 [nilA, vint .u64 b, ps 0, ps 1, ps 2, ps 3, ps 4, ps 5] (boxes size n cnt kind g 6 nilSl false putA) = some r := by
  rw [nbA]
  simp only [Int.sub_zero]
  rw [wrapi (x := size) (by omega) (by omega)]
  obtain ⟨L, hL⟩ := Int.eq_ofNat_of_zero_le (show 0 ≤ size by omega)
  subst hL
  rw [Int.toNat_natCast] at hv
  cases L with
  | zero => omega
  | succ l =>
    simp only [show ((((l + 1 : Nat) : Int) == 0) = false) by simp; omega, cond_false]
    have e : (((l + 1 : Nat) : Int) - 1).toNat = l := by omega
    simp only [e, decide_true, decide_eq_true (show (1 : Int) ≤ ((l + 1 : Nat) : Int) by omega), decide_eq_true hd, decide_eq_true hs9, decide_eq_true h1, decide_eq_true h9, decide_eq_true hg, hcap, Bool.and_self, cond_true]
    rw [putS_outX] at hv
    generalize Brn.putX n.toNat g (Brn.allN n) (kind == 2) l [] b cnt [] = X at hv ⊢
    cases X with
    | inl x => exact hv
    | inr s => exact hv
theorem c113B_run (d : Nat) (hT : TabOK (S18 d)) : ∀ args H v H', (c113B (d + 1) args H).val = some (v, H') → CallOK (S18 d) 113 args H v H' := by
  intro args H v H' hv
  unfold c113B at hv
  split at hv
  · rename_i k b fs t z size cnt kind n g
    obtain ⟨hg, hv2⟩ := guard_val hv
    simp only [Bool.and_eq_true, decide_eq_true_eq] at hg
    obtain ⟨⟨⟨⟨⟨⟨⟨⟨rfl, a1⟩, a2⟩, a3⟩, a4⟩, a5⟩, a6⟩, a7⟩, a8⟩ := hg
    exact evBody_sound hT (body_B d a1 a2 (by omega) a4 a5 a6 a7 a8 _ hv2)
  · cases hv
theorem c113C_run (d : Nat) (hT : TabOK (S18 d)) : ∀ args H v H', (c113C (d + 1) args H).val = some (v, H') → CallOK (S18 d) 113 args H v H' := by
  intro args H v H' hv
  unfold c113C at hv
  split at hv
  · rename_i a0 a1 a2 a3 a4 a5 a6 a7 r0 r1 r2 r3 r4 r5 r6 r7 r8
    obtain ⟨k, hx0, hv0⟩ := tO_val hv
    obtain rfl := vW0_eq hx0
    clear hx0
    obtain ⟨b, hx1, hv1⟩ := tO_val hv0
    obtain rfl := vU_eq hx1
    clear hx1
    obtain ⟨_, hx2, hv2⟩ := tO_val hv1
    obtain rfl := vPs_eq hx2
    clear hx2
    obtain ⟨_, hx3, hv3⟩ := tO_val hv2
    obtain rfl := vPs_eq hx3
    clear hx3
    obtain ⟨_, hx4, hv4⟩ := tO_val hv3
    obtain rfl := vPs_eq hx4
    clear hx4
    obtain ⟨_, hx5, hv5⟩ := tO_val hv4
    obtain rfl := vPs_eq hx5
    clear hx5
    obtain ⟨_, hx6, hv6⟩ := tO_val hv5
    obtain rfl := vPs_eq hx6
    clear hx6
    obtain ⟨_, hx7, hv7⟩ := tO_val hv6
    obtain rfl := vPs_eq hx7
    clear hx7
    obtain ⟨⟨fs, t, z⟩, hx8, hv8⟩ := tO_val hv7
    obtain rfl := rFs_eq hx8
    clear hx8
    obtain ⟨size, hx9, hv9⟩ := tO_val hv8
    obtain rfl := rInt_eq hx9
    clear hx9
    obtain ⟨_, hx10, hv10⟩ := tO_val hv9
    obtain rfl := rPs7_eq hx10
    clear hx10
    obtain ⟨cnt, hx11, hv11⟩ := tO_val hv10
    obtain rfl := rInt_eq hx11
    clear hx11
    obtain ⟨kf, hx12, hv12⟩ := tO_val hv11
    obtain rfl := rOs8_eq hx12
    clear hx12
    obtain ⟨kind, hx13, hv13⟩ := tO_val hv12
    obtain rfl := rInt_eq hx13
    clear hx13
    obtain ⟨_, hx14, hv14⟩ := tO_val hv13
    obtain rfl := rPut_eq hx14
    clear hx14
    obtain ⟨⟨n, g⟩, hx15, hv15⟩ := tO_val hv14
    obtain rfl := rGr_eq hx15
    clear hx15
    obtain ⟨⟨f, tf⟩, hx16, hv16⟩ := tO_val hv15
    obtain rfl := rL0_eq hx16
    clear hx16
    obtain ⟨hg, hvz⟩ := guard_val hv16
    simp only [Bool.and_eq_true, decide_eq_true_eq] at hg
    obtain ⟨⟨⟨⟨⟨⟨⟨⟨⟨rfl, a1⟩, a2⟩, a3⟩, a4⟩, a5⟩, a6⟩, a7⟩, a8⟩, a9⟩ := hg
    exact evBody_sound hT (body_C d a1 a2 (by omega) a4 a5 a6 a7 a8 a9 _ (leaf_val hvz))
  · cases hv
theorem c113A_run (d : Nat) (hT : TabOK (S18 d)) : ∀ args H v H', (c113A (d + 1) args H).val = some (v, H') → CallOK (S18 d) 113 args H v H' := by
  intro args H v H' hv
  unfold c113A at hv
  split at hv
  · rename_i b size cnt kind n g
    obtain ⟨hg, hv2⟩ := guard_val hv
    simp only [Bool.and_eq_true, decide_eq_true_eq] at hg
    obtain ⟨⟨⟨⟨⟨⟨a1, a3⟩, a4⟩, a5⟩, a6⟩, a7⟩, a8⟩ := hg
    exact evBody_sound hT (body_A d a1 (by omega) a4 a5 a6 a7 a8 _ hv2)
  · cases hv
theorem c113_run (d : Nat) (hT : TabOK (S18 d)) : ∀ args H v H', (c113 (d + 1) args H).val = some (v, H') → CallOK (S18 d) 113 args H v H' := by
  intro args H v H' hv
  unfold c113 at hv
  cases h8 : Nat.beq H.length 8 with
  | true => rw [h8] at hv; exact c113B_run d hT _ _ _ _ hv
  | false =>
    cases h9 : Nat.beq H.length 9 with
    | true => rw [h8, h9] at hv; exact c113C_run d hT _ _ _ _ hv
    | false =>
      cases h7 : Nat.beq H.length 7 with
      | true => rw [h8, h9, h7] at hv; exact c113A_run d hT _ _ _ _ hv
      | false => rw [h8, h9, h7] at hv; cases hv
theorem c113_zero : ∀ args H, (c113 0 args H).val = none := by
  intro args H
  unfold c113
  cases Nat.beq H.length 8 with
  | true =>
    simp only [cond_true]
    unfold c113B
    split
    · rename_i k b fs t z size cnt kind n g
      cases hx : (decide (k = fs.length) && decide (0 < k) && decide (0 ≤ size - fs.length) && decide (size - fs.length < ((0 : Nat) : Int)) && decide (size ≤ 9) && decide (1 ≤ n) && decide (n ≤ 9) && decide (g.length = 81) && Brn.capOK cnt (size - fs.length)) with
      | true => simp only [Bool.and_eq_true, decide_eq_true_eq] at hx; omega
      | false => rfl
    · rfl
  | false =>
    simp only [cond_false]
    cases Nat.beq H.length 9 with
    | true =>
      simp only [cond_true]
      cases hr : (c113C 0 args H).val with
      | none => rfl
      | some r =>
        exfalso
        unfold c113C at hr
        split at hr
        · obtain ⟨k, _, hr⟩ := tO_val hr
          obtain ⟨b, _, hr⟩ := tO_val hr
          obtain ⟨_, _, hr⟩ := tO_val hr
          obtain ⟨_, _, hr⟩ := tO_val hr
          obtain ⟨_, _, hr⟩ := tO_val hr
          obtain ⟨_, _, hr⟩ := tO_val hr
          obtain ⟨_, _, hr⟩ := tO_val hr
          obtain ⟨_, _, hr⟩ := tO_val hr
          obtain ⟨_, _, hr⟩ := tO_val hr
          obtain ⟨_, _, hr⟩ := tO_val hr
          obtain ⟨_, _, hr⟩ := tO_val hr
          obtain ⟨_, _, hr⟩ := tO_val hr
          obtain ⟨_, _, hr⟩ := tO_val hr
          obtain ⟨_, _, hr⟩ := tO_val hr
          obtain ⟨_, _, hr⟩ := tO_val hr
          obtain ⟨_, _, hr⟩ := tO_val hr
          obtain ⟨_, _, hr⟩ := tO_val hr
          obtain ⟨hg, _⟩ := guard_val hr
          simp only [Bool.and_eq_true, decide_eq_true_eq] at hg
          omega
        · cases hr
    | false =>
      simp only [cond_false]
      cases Nat.beq H.length 7 with
      | true =>
        simp only [cond_true]
        cases hr : (c113A 0 args H).val with
        | none => rfl
        | some r =>
          exfalso
          unfold c113A at hr
          split at hr
          · obtain ⟨hg, _⟩ := guard_val hr
            simp only [Bool.and_eq_true, decide_eq_true_eq] at hg
            omega
          · cases hr
      | false => rfl
theorem S16_ok : TabOK S16 := by
  have h := S15_ok
  have h := h.addCall (g := 52) (r := c52) fun a H v H' hv => by refine CallOK.tab ?_ ?_ (c52_run a H v H' hv) <;> rfl
  exact h
theorem S16r_ok : TabOK S16r := by
  have h := S16_ok
  exact ⟨fun f a H v H' hv => by refine CallOK.tab ?_ ?_ (h.calls f a H v H' hv) <;> rfl, fun f l b k H o k' H' hv => by refine LoopOK.tab ?_ ?_ ?_ ?_ (h.loops f l b k H o k' H' hv) <;> rfl, h.fns, h.mixed⟩
theorem S17_ok : ∀ d, TabOK (S17 d)
  | 0 => S16r_ok.addCall fun a H v H' hv => by rw [c113_zero] at hv; cases hv
  | d + 1 => by
    have h17 := S17_ok d
    have h18 : TabOK (S18 d) := h17.addLoop fun b k H o k' H' hv => by refine LoopOK.tab ?_ ?_ ?_ ?_ (l113_run d h17 b k H o k' H' hv) <;> rfl
    exact S16r_ok.addCall fun a H v H' hv => by refine CallOK.tab ?_ ?_ (c113_run d h18 a H v H' hv) <;> rfl
end Go.Ev.Burn
