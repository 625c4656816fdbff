/- The average over all orders: each house comes behind each set of the others in as many orders as these have. -/
import Derived.Test.YtfemekpcgieldaaSa
set_option linter.unusedVariables false
set_option linter.unusedSimpArgs false
namespace Clm
open Go
set_option linter.unusedVariables false
set_option maxRecDepth 100000
def has (l : List Int) (n : Int) : Bool := l.any fun x => x == n
def ordI (n : Nat) : Nat → List Int → List (List Int)
  | 0, b => [b]
  | m + 1, b => (List.range n).flatMap fun (x : Nat) => bif has b x then [] else ordI n m (b ++ [(x : Int)])
def orders (n : Nat) : List (List Int) := ordI n n []
def pre (o : List Int) (k : Nat) : List Int := o.takeWhile fun x => x != (k : Int)
def maskOf (p : List Int) : Nat := p.foldl (fun s x => s ||| 2 ^ x.toNat) 0
def bitsN (n S : Nat) : List Int := ((List.range n).filter fun i => S.testBit i).map Int.ofNat
def fac : Nat → Nat
  | 0 => 1
  | n + 1 => fac n * (n + 1)
def pop (n S : Nat) : Nat := ((List.range n).filter fun i => S.testBit i).length
def wt (n S : Nat) : Nat := fac (pop n S) * fac (n - 1 - pop n S)
def setsW (n k : Nat) : List Nat := ((List.range (2 ^ n)).filter fun S => !S.testBit k).flatMap fun S => List.replicate (wt n S) S
def okO (n : Nat) : Bool := (List.range n).all fun k => List.isPerm ((orders n).map fun o => maskOf (pre o k)) (setsW n k) && (orders n).all fun o => List.isPerm (pre o k) (bitsN n (maskOf (pre o k)))
theorem okO_all : ((List.range 6).all okO) = true := by decide +kernel
def permO (n : Nat) : Bool := (orders n).all fun o => List.isPerm o ((List.range n).map Int.ofNat)
theorem permO_all : ((List.range 6).all permO) = true := by decide +kernel
theorem lenO_all : ((List.range 6).all fun n => Nat.beq (orders n).length (fac n)) = true := by decide +kernel
def sumAt (cs : List Int) (p : List Int) : Int := sumI (p.map (at0 cs))
def cm (cs : List Int) (S : Nat) : Int := sumAt cs (bitsN cs.length S)
theorem pre_facts {n : Nat} (hn : n ≤ 5) {k : Nat} (hk : k < n) : ((orders n).map fun o => maskOf (pre o k)).Perm (setsW n k) ∧ ∀ o ∈ orders n, (pre o k).Perm (bitsN n (maskOf (pre o k))) := by
  have h := okO_all
  rw [List.all_eq_true] at h
  have h := h n (List.mem_range.2 (by omega))
  unfold okO at h
  rw [List.all_eq_true] at h
  have h := h k (List.mem_range.2 hk)
  rw [Bool.and_eq_true, List.isPerm_iff, List.all_eq_true] at h
  exact ⟨h.1, fun o ho => List.isPerm_iff.1 (h.2 o ho)⟩
theorem orders_perm {n : Nat} (hn : n ≤ 5) {o : List Int} (ho : o ∈ orders n) : o.Perm ((List.range n).map Int.ofNat) := by
  have h := permO_all
  rw [List.all_eq_true] at h
  have h := h n (List.mem_range.2 (by omega))
  unfold permO at h
  rw [List.all_eq_true] at h
  exact List.isPerm_iff.1 (h o ho)
theorem orders_len {n : Nat} (hn : n ≤ 5) : (orders n).length = fac n := by
  have h := lenO_all
  rw [List.all_eq_true] at h
  exact Nat.eq_of_beq_eq_true (h n (List.mem_range.2 (by omega)))
def val (w : Int) (cs : List Int) (s : Int) (k : Int) : Int := min (max 0 (w - s)) (at0 cs k)
theorem sum_map_perm {α : Type} {a b : List α} (h : a.Perm b) (f : α → Int) : sumI (a.map f) = sumI (b.map f) := sumI_perm (h.map f)
theorem sum_flat {α β : Type} (f : α → List β) (g : β → Int) : ∀ l : List α, sumI ((l.flatMap f).map g) = sumI (l.map fun x => sumI ((f x).map g))
  | [] => rfl
  | x :: l => by rw [List.flatMap_cons, List.map_append, sumI_append, sum_flat f g l, List.map_cons, sumI_cons]
theorem sum_rep (n : Nat) (x : Int) : sumI (List.replicate n x) = (n : Int) * x := by
  induction n with
  | zero => simp [sumI_nil]
  | succ n ih => rw [List.replicate_succ, sumI_cons, ih, Int.natCast_add, Int.add_mul]; omega
theorem sum_orders {w : Int} {cs : List Int} (hn : cs.length ≤ 5) {k : Nat} (hk : k < cs.length) :
    sumI ((orders cs.length).map fun o => val w cs (sumAt cs (pre o k)) k) = sumI (((List.range (2 ^ cs.length)).filter fun S => !S.testBit k).map fun S => (wt cs.length S : Int) * val w cs (cm cs S) k) := by
  obtain ⟨h1, h2⟩ := pre_facts hn hk
  have e1 : (orders cs.length).map (fun o => val w cs (sumAt cs (pre o k)) k) = ((orders cs.length).map fun o => maskOf (pre o k)).map fun S => val w cs (cm cs S) k := by
    rw [List.map_map]
    refine List.map_congr_left fun o ho => ?_
    show val w cs (sumAt cs (pre o k)) k = val w cs (sumAt cs (bitsN cs.length (maskOf (pre o k)))) k
    unfold sumAt
    rw [sum_map_perm (h2 o ho)]
  rw [e1, sum_map_perm h1]
  unfold setsW
  rw [sum_flat]
  congr 1
  refine List.map_congr_left fun S _ => ?_
  rw [List.map_replicate, sum_rep]
def inStep (cs : List Int) (s : List Int × Int) (x : Int) : List Int × Int := (s.1.set x.toNat (120 * min s.2 (at0 cs x)), s.2 - min s.2 (at0 cs x))
def inOrd (w : Int) (cs o : List Int) : List Int := (o.foldl (inStep cs) (List.replicate cs.length 0, w)).1
theorem inStep_len (cs : List Int) : ∀ (o : List Int) (s : List Int × Int), (o.foldl (inStep cs) s).1.length = s.1.length
  | [], _ => rfl
  | x :: o, s => by rw [List.foldl_cons, inStep_len cs o]; simp [inStep]
theorem inOrd_len (w : Int) (cs o : List Int) : (inOrd w cs o).length = cs.length := by unfold inOrd; rw [inStep_len]; simp
theorem in_left {cs : List Int} (hc : ∀ i, 0 ≤ at0 cs i) : ∀ (p : List Int) (s : List Int × Int), 0 ≤ s.2 → (p.foldl (inStep cs) s).2 = max 0 (s.2 - sumAt cs p)
  | [], s, h => by simp [sumAt, sumI_nil]; omega
  | x :: p, s, h => by
    have h0 := hc x
    rw [List.foldl_cons, in_left hc p _ (by simp only [inStep]; omega)]
    show max 0 (s.2 - min s.2 (at0 cs x) - sumAt cs p) = _
    have hp : 0 ≤ sumAt cs p := by
      unfold sumAt
      have : ∀ l : List Int, 0 ≤ sumI (l.map (at0 cs)) := fun l => by
        induction l with
        | nil => simp [sumI_nil]
        | cons y l ih => rw [List.map_cons, sumI_cons]; have := hc y; omega
      exact this p
    have e : sumAt cs (x :: p) = at0 cs x + sumAt cs p := by unfold sumAt; rw [List.map_cons, sumI_cons]
    rw [e]
    omega
theorem in_keep {cs : List Int} {k : Nat} : ∀ (q : List Int) (s : List Int × Int), (∀ x ∈ q, x.toNat ≠ k) → (q.foldl (inStep cs) s).1.getD k 0 = s.1.getD k 0
  | [], _, _ => rfl
  | x :: q, s, h => by
    rw [List.foldl_cons, in_keep q _ (fun y hy => h y (by simp [hy]))]
    have := h x (by simp)
    simp only [inStep]
    rw [List.getD_eq_getElem?_getD, List.getD_eq_getElem?_getD, List.getElem?_set_ne this]
theorem take_drop_k {o : List Int} {k : Nat} (h : (k : Int) ∈ o) : ∃ q, o = pre o k ++ (k : Int) :: q := by
  induction o with
  | nil => cases h
  | cons x o ih =>
    by_cases e : x = (k : Int)
    · subst e
      exact ⟨o, by simp [pre]⟩
    · obtain ⟨q, hq⟩ := ih (by rcases List.mem_cons.1 h with h | h; · exact absurd h.symm e
                               · exact h)
      refine ⟨q, ?_⟩
      have : pre (x :: o) k = x :: pre o k := by unfold pre; rw [List.takeWhile_cons]; simp [e]
      rw [this, List.cons_append, ← hq]
theorem inOrd_get {w : Int} {cs o : List Int} (hw : 0 ≤ w) (hc : ∀ i, 0 ≤ at0 cs i) {k : Nat} (hk : k < cs.length) (ho : o.Perm ((List.range cs.length).map Int.ofNat)) :
    (inOrd w cs o).getD k 0 = 120 * val w cs (sumAt cs (pre o k)) k := by
  have hmem : (k : Int) ∈ o := ho.mem_iff.2 (List.mem_map.2 ⟨k, List.mem_range.2 hk, rfl⟩)
  have hnd : o.Nodup := ho.nodup_iff.2 (List.Pairwise.map _ (fun a b h e => h (Int.ofNat.inj e)) List.nodup_range)
  obtain ⟨q, hq⟩ := take_drop_k hmem
  have hqk : ∀ x ∈ q, x.toNat ≠ k := fun x hx e => by
    have hxo : x ∈ o := by rw [hq]; simp [hx]
    obtain ⟨i, hi, rfl⟩ := List.mem_map.1 (ho.mem_iff.1 hxo)
    have : i = k := by simpa using e
    subst this
    rw [hq] at hnd
    have := (List.nodup_append.1 hnd).2.1
    rw [List.nodup_cons] at this
    exact this.1 hx
  unfold inOrd
  rw [show o.foldl (inStep cs) (List.replicate cs.length 0, w) = q.foldl (inStep cs) (inStep cs ((pre o k).foldl (inStep cs) (List.replicate cs.length 0, w)) k) by
    conv => lhs; rw [hq, List.foldl_append, List.foldl_cons]]
  rw [in_keep q _ hqk]
  have hl := in_left hc (pre o k) (List.replicate cs.length 0, w) hw
  have hlen := inStep_len cs (pre o k) (List.replicate cs.length 0, w)
  rw [List.length_replicate] at hlen
  generalize (pre o k).foldl (inStep cs) (List.replicate cs.length 0, w) = s at hl hlen
  simp only [inStep, hl, Int.toNat_natCast]
  rw [List.getD_eq_getElem?_getD, List.getElem?_set_self (by omega)]
  rfl
def avgS (w : Int) (cs : List Int) (k : Nat) : Int := sumI (((List.range (2 ^ cs.length)).filter fun S => !S.testBit k).map fun S => (wt cs.length S : Int) * val w cs (cm cs S) k)
def avgK (w : Int) (cs : List Int) (k : Nat) : Int := avgS w cs k * (120 / (fac cs.length : Int))
def totO (w : Int) (cs : List Int) (k : Nat) : Int := sumI ((orders cs.length).map fun o => (inOrd w cs o).getD k 0)
theorem totO_eq {w : Int} {cs : List Int} (hw : 0 ≤ w) (hc : ∀ i, 0 ≤ at0 cs i) (hn : cs.length ≤ 5) {k : Nat} (hk : k < cs.length) : totO w cs k = 120 * avgS w cs k := by
  unfold totO avgS
  rw [← sum_orders hn hk]
  have : ∀ l : List (List Int), (∀ o ∈ l, o ∈ orders cs.length) → sumI (l.map fun o => (inOrd w cs o).getD k 0) = 120 * sumI (l.map fun o => val w cs (sumAt cs (pre o k)) k) := by
    intro l
    induction l with
    | nil => intro _; rfl
    | cons o l ih =>
      intro h
      rw [List.map_cons, List.map_cons, sumI_cons, sumI_cons, ih fun o ho => h o (by simp [ho]), inOrd_get hw hc hk (orders_perm hn (h o (by simp)))]
      omega
  exact this _ fun o ho => ho
theorem fac_div {n : Nat} (hn : n ≤ 5) (x : Int) : 120 * x = (fac n : Int) * (x * (120 / (fac n : Int))) ∧ (0 : Int) < fac n := by
  match n, hn with
  | 0, _ => simp [fac]; omega
  | 1, _ => simp [fac]; omega
  | 2, _ => simp [fac]; omega
  | 3, _ => simp [fac]; omega
  | 4, _ => simp [fac]; omega
  | 5, _ => simp [fac]
theorem avg_eq {w : Int} {cs : List Int} (hw : 0 ≤ w) (hc : ∀ i, 0 ≤ at0 cs i) (hn : cs.length ≤ 5) {k : Nat} (hk : k < cs.length) : (totO w cs k).tdiv ((orders cs.length).length : Int) = avgK w cs k ∧ totO w cs k = (fac cs.length : Int) * avgK w cs k := by
  obtain ⟨h1, h2⟩ := fac_div hn (avgS w cs k)
  rw [totO_eq hw hc hn hk, orders_len hn]
  refine ⟨?_, h1⟩
  rw [h1]
  exact Int.mul_tdiv_cancel_left _ (by omega)
end Clm
namespace Clm
open Go
set_option linter.unusedVariables false
theorem at0_lt {l : List Int} {i : Nat} (h : i < l.length) : at0 l i = l[i] := by
  unfold at0
  rw [Int.toNat_natCast, List.getD_eq_getElem?_getD, List.getElem?_eq_getElem h]; rfl
theorem at0_map {l : List Int} {f : Int → Int} {i : Nat} (h : i < l.length) : at0 (l.map f) i = f (at0 l i) := by
  rw [at0_lt (by simpa using h), at0_lt h, List.getElem_map]
theorem at0_times {n : Int} {l : List Int} {i : Nat} (h : i < l.length) : at0 (times n l) i = n * at0 l i := at0_map h
theorem at0_capped {t : Int} {bs : List Int} {i : Nat} (h : i < bs.length) : at0 (capped t bs) i = min (lev t bs : Int) (at0 bs i) := at0_map h
theorem at0_less {a b : List Int} {i : Nat} (ha : i < a.length) (hb : i < b.length) : at0 (lessL a b) i = at0 a i - at0 b i := by
  have hz : i < (a.zip b).length := by simp; omega
  have h2 : i < ((a.zip b).map fun x => x.1 - x.2).length := by rw [List.length_map]; exact hz
  unfold lessL
  rw [at0_lt h2, at0_lt ha, at0_lt hb, List.getElem_map, List.getElem_zip]
theorem pair_low {L a b : Int} (hL : 0 ≤ L) (ha : 0 ≤ a) (hb : 0 ≤ b) : pairV (min L (60 * a) + min L (60 * b)) (120 * a) (120 * b) = 2 * min L (60 * a) := by
  unfold pairV
  omega
theorem pair_high {L a b : Int} (hL : 0 ≤ L) (ha : 0 ≤ a) (hb : 0 ≤ b) : pairV ((120 * a - min L (60 * a)) + (120 * b - min L (60 * b))) (120 * a) (120 * b) = 2 * (120 * a - min L (60 * a)) := by
  unfold pairV
  omega
theorem pair_uniq {a b x y p q : Int} (h1 : 2 * x = pairV (x + y) a b) (h2 : 2 * p = pairV (p + q) a b) (hxp : x < p) (hyq : q < y) : False := by
  unfold pairV at h1 h2
  omega
theorem OkW.rg {w : Int} {cs : List Int} (h : OkW w cs) {i : Nat} (hi : i < cs.length) : 1 ≤ at0 cs i ∧ at0 cs i ≤ 1000 := by
  rw [at0_lt hi]; exact h.rng _ (List.getElem_mem _)
theorem div_one {w : Int} {cs : List Int} (h : OkW w cs) {i j : Nat} (hi : i < cs.length) (hj : j < cs.length) : apartV cs (divV w cs) i j = false := by
  have a := h.rg hi
  have b := h.rg hj
  have hz : (chk w cs == 0) = true := by rw [ok_iff h]; rfl
  have l6 : ∀ {i : Nat}, i < cs.length → i < (times 60 cs).length := fun h => by rw [times_len]; exact h
  have l12 : ∀ {i : Nat}, i < cs.length → i < (times 120 cs).length := fun h => by rw [times_len]; exact h
  have hone : oneV cs (divV w cs) i j = true := by
    unfold oneV divV
    rw [hz, beq_iff_eq]
    cases decide (2 * w ≤ sumI cs) with
    | true =>
      simp only [cond_true]
      rw [at0_capped (l6 hi), at0_capped (l6 hj), at0_times hi, at0_times hj, pair_low (by omega) (by omega) (by omega)]
    | false =>
      simp only [cond_true, cond_false]
      have lc : ∀ t {i : Nat}, i < cs.length → i < (capped t (times 60 cs)).length := fun t _ h => by rw [capped_len]; exact l6 h
      rw [at0_less (l12 hi) (lc _ hi), at0_less (l12 hj) (lc _ hj), at0_capped (l6 hi), at0_capped (l6 hj), at0_times hi, at0_times hj, at0_times hi, at0_times hj, pair_high (by omega) (by omega) (by omega)]
  rw [one_apart] at hone
  simpa using hone
theorem sum_lt {a b : List Int} (hl : a.length = b.length) (h : ∀ i : Nat, i < a.length → at0 a i ≤ at0 b i) : sumI a ≤ sumI b ∧ ((∃ i : Nat, i < a.length ∧ at0 a i < at0 b i) → sumI a < sumI b) := by
  induction a generalizing b with
  | nil =>
    have : b = [] := List.length_eq_zero_iff.1 hl.symm
    subst this
    exact ⟨Int.le_refl _, fun ⟨i, hi, _⟩ => by simp at hi⟩
  | cons x a ih =>
    cases b with
    | nil => cases hl
    | cons y b =>
      have h0 := h 0 (by simp)
      have h1 : ∀ i : Nat, i < a.length → at0 a i ≤ at0 b i := fun i hi => by
        have := h (i + 1) (by simpa using hi)
        rw [at0_lt (by simpa using hi), at0_lt (by simp at hl ⊢; omega)] at this
        rw [at0_lt hi, at0_lt (by simp at hl; omega)]
        simpa using this
      have hxy : x ≤ y := h0
      obtain ⟨i1, i2⟩ := ih (by simpa using hl) h1
      rw [sumI_cons, sumI_cons]
      refine ⟨by omega, ?_⟩
      rintro ⟨i, hi, hlt⟩
      cases i with
      | zero =>
        have hxy' : x < y := hlt
        omega
      | succ i =>
        have := i2 ⟨i, by simpa using hi, by
          rw [at0_lt (by simpa using hi), at0_lt (by simp at hl hi ⊢; omega)] at hlt
          rw [at0_lt (by simpa using hi), at0_lt (by simp at hl hi; omega)]
          simpa using hlt⟩
        omega
theorem list_at {a b : List Int} (hl : a.length = b.length) (h : ∀ i : Nat, i < a.length → at0 a i = at0 b i) : a = b :=
  List.ext_getElem hl fun i h1 h2 => by have := h i h1; rwa [at0_lt h1, at0_lt h2] at this
theorem differ {a b : List Int} (hl : a.length = b.length) (hs : sumI a = sumI b) (hn : a ≠ b) : ∃ i j : Nat, i < a.length ∧ j < a.length ∧ at0 a i < at0 b i ∧ at0 b j < at0 a j := by
  have h1 : ∃ i : Nat, i < a.length ∧ at0 a i < at0 b i := by
    by_cases h : ∃ i : Nat, i < a.length ∧ at0 a i < at0 b i
    · exact h
    · exfalso
      have hge : ∀ i : Nat, i < b.length → at0 b i ≤ at0 a i := fun i hi => by
        by_cases hh : at0 b i ≤ at0 a i
        · exact hh
        · exact absurd ⟨i, by omega, by omega⟩ h
      have hne : ∃ i : Nat, i < b.length ∧ at0 b i < at0 a i := by
        by_cases hh : ∃ i : Nat, i < b.length ∧ at0 b i < at0 a i
        · exact hh
        · exfalso
          refine hn (list_at hl fun i hi => ?_)
          have := hge i (by omega)
          by_cases e : at0 a i = at0 b i
          · exact e
          · exact absurd ⟨i, by omega, by omega⟩ hh
      have := (sum_lt hl.symm hge).2 hne
      omega
  have h2 : ∃ i : Nat, i < a.length ∧ at0 b i < at0 a i := by
    by_cases h : ∃ i : Nat, i < a.length ∧ at0 b i < at0 a i
    · exact h
    · exfalso
      have hle : ∀ i : Nat, i < a.length → at0 a i ≤ at0 b i := fun i hi => by
        by_cases hh : at0 a i ≤ at0 b i
        · exact hh
        · exact absurd ⟨i, hi, by omega⟩ h
      have := (sum_lt hl hle).2 h1
      omega
  obtain ⟨i, hi, h3⟩ := h1
  obtain ⟨j, hj, h4⟩ := h2
  exact ⟨i, j, hi, hj, h3, h4⟩
theorem apart_symm {cs gs : List Int} {i j : Nat} (h : apartV cs gs i j = false) : apartV cs gs j i = false := by
  have h1 : oneV cs gs i j = true := by rw [one_apart, h]; rfl
  have h2 : oneV cs gs j i = true := by
    unfold oneV at h1 ⊢
    rw [beq_iff_eq] at h1 ⊢
    unfold pairV at h1 ⊢
    omega
  rw [one_apart] at h2
  simpa using h2
theorem one_eq {cs gs : List Int} {i j : Nat} (h : apartV cs gs i j = false) : 2 * at0 gs i = pairV (at0 gs i + at0 gs j) (120 * at0 cs i) (120 * at0 cs j) := by
  have h1 : oneV cs gs i j = true := by rw [one_apart, h]; rfl
  unfold oneV at h1
  exact beq_iff_eq.1 h1
theorem uniq {cs a b : List Int} (ha : a.length = cs.length) (hb : b.length = cs.length) (hs : sumI a = sumI b) (h1 : ∀ i j : Nat, i < j → j < cs.length → apartV cs a i j = false) (h2 : ∀ i j : Nat, i < j → j < cs.length → apartV cs b i j = false) : a = b := by
  by_cases hn : a = b
  · exact hn
  · exfalso
    obtain ⟨i, j, hi, hj, h3, h4⟩ := differ (by omega) hs hn
    have hij : i ≠ j := by rintro rfl; omega
    have o1 : apartV cs a i j = false := by
      rcases Nat.lt_or_gt_of_ne hij with h | h
      · exact h1 i j h (by omega)
      · exact apart_symm (h1 j i h (by omega))
    have o2 : apartV cs b i j = false := by
      rcases Nat.lt_or_gt_of_ne hij with h | h
      · exact h2 i j h (by omega)
      · exact apart_symm (h2 j i h (by omega))
    exact pair_uniq (one_eq o1) (one_eq o2) h3 h4
end Clm
namespace Clm
open Go
set_option linter.unusedVariables false
structure Qu where
  houses : Int
  claims : List Int
  worth : Int
structure Qu.Fit (q : Qu) : Prop where
  h : 0 ≤ q.houses ∧ q.houses < 256
  c : q.claims.length = 5 ∧ ∀ x ∈ q.claims, 0 ≤ x ∧ x < 65536
  w : 0 ≤ q.worth ∧ q.worth < 65536
def quN (q : Qu) : Nat := (1 + q.houses.tmod 5).toNat
def quC (q : Qu) (most : Int) : List Int := (q.claims.take (quN q)).map fun c => 1 + c.tmod most
def quW (q : Qu) (most : Int) : Int := q.worth.tmod (sumI (quC q most) + 1)
theorem tmod_in {a b : Int} (ha : 0 ≤ a) (hb : 0 < b) : 0 ≤ a.tmod b ∧ a.tmod b < b := by
  rw [Int.tmod_eq_emod_of_nonneg ha]
  exact ⟨Int.emod_nonneg _ (by omega), Int.emod_lt_of_pos _ hb⟩
theorem quN_in {q : Qu} (h : q.Fit) : 1 ≤ quN q ∧ quN q ≤ 5 := by
  have := tmod_in h.h.1 (show (0 : Int) < 5 by omega)
  unfold quN
  omega
theorem quC_len {q : Qu} (h : q.Fit) (most : Int) : (quC q most).length = quN q := by
  have := quN_in h
  simp [quC, h.c.1]; omega
theorem qu_ok {q : Qu} (h : q.Fit) {most : Int} (h1 : 1 ≤ most) (h2 : most ≤ 1000) : OkW (quW q most) (quC q most) := by
  have hl := quC_len h most
  have hn := quN_in h
  have hr : ∀ x ∈ quC q most, 1 ≤ x ∧ x ≤ most := fun x hx => by
    obtain ⟨y, hy, rfl⟩ := List.mem_map.1 hx
    have := tmod_in (h.c.2 y (List.mem_of_mem_take hy)).1 (show 0 < most by omega)
    omega
  have hs : 0 ≤ sumI (quC q most) := by
    have : ∀ l : List Int, (∀ x ∈ l, 1 ≤ x ∧ x ≤ most) → 0 ≤ sumI l := fun l => by
      induction l with
      | nil => intro _; exact Int.le_refl _
      | cons x l ih => intro h; rw [sumI_cons]; have a := h x (by simp); have b := ih fun y hy => h y (by simp [hy]); omega
    exact this _ hr
  have hw := tmod_in h.w.1 (show 0 < sumI (quC q most) + 1 by omega)
  exact ⟨fun e => by rw [e] at hl; simp at hl; omega, by omega, fun x hx => by have := hr x hx; omega, hw.1, by unfold quW; omega⟩
def sprR : Int → Int → List (Int × Int) → List Int
  | _, _, [] => []
  | left, rest, x :: l =>
    (max 0 (left - (rest - 120 * x.1)) + x.2.tmod (min left (120 * x.1) - max 0 (left - (rest - 120 * x.1)) + 1)) ::
      sprR (left - (max 0 (left - (rest - 120 * x.1)) + x.2.tmod (min left (120 * x.1) - max 0 (left - (rest - 120 * x.1)) + 1))) (rest - 120 * x.1) l
def spread (w : Int) (cs bs : List Int) : List Int := sprR (120 * w) (120 * sumI cs) (cs.zip bs)
theorem sprR_len : ∀ (l : List (Int × Int)) (a b : Int), (sprR a b l).length = l.length
  | [], _, _ => rfl
  | x :: l, a, b => by simp [sprR, sprR_len l]
theorem sprR_div : ∀ (l : List (Int × Int)) (left rest : Int), (∀ x ∈ l, 1 ≤ x.1 ∧ 0 ≤ x.2) → 0 ≤ left → left ≤ rest → rest = 120 * sumI (l.map (·.1)) →
    ((sprR left rest l).zip (l.map (·.1))).all (fun x => inR x.1 0 (120 * x.2)) = true ∧ sumI (sprR left rest l) = left
  | [], left, rest, _, h0, h1, h2 => by
    simp [sumI_nil] at h2
    exact ⟨rfl, by show (0 : Int) = left; omega⟩
  | x :: l, left, rest, hx, h0, h1, h2 => by
    have hx0 := hx x (by simp)
    rw [List.map_cons, sumI_cons] at h2
    have hs : 0 ≤ sumI (l.map (·.1)) := by
      have : ∀ l : List (Int × Int), (∀ x ∈ l, 1 ≤ x.1 ∧ 0 ≤ x.2) → 0 ≤ sumI (l.map (·.1)) := fun l => by
        induction l with
        | nil => intro _; exact Int.le_refl _
        | cons y l ih => intro h; rw [List.map_cons, sumI_cons]; have a := h y (by simp); have b := ih fun z hz => h z (by simp [hz]); omega
      exact this l fun y hy => hx y (by simp [hy])
    have hm := tmod_in hx0.2 (show 0 < min left (120 * x.1) - max 0 (left - (rest - 120 * x.1)) + 1 by omega)
    generalize hg : max 0 (left - (rest - 120 * x.1)) + x.2.tmod (min left (120 * x.1) - max 0 (left - (rest - 120 * x.1)) + 1) = g
    obtain ⟨a, b⟩ := sprR_div l (left - g) (rest - 120 * x.1) (fun y hy => hx y (by simp [hy])) (by omega) (by omega) (by omega)
    simp only [sprR, hg]
    rw [List.map_cons, List.zip_cons_cons, List.all_cons, a, sumI_cons, b, Bool.and_true]
    refine ⟨?_, by omega⟩
    unfold inR
    rw [decide_eq_true (show 0 ≤ g by omega), decide_eq_true (show g ≤ 120 * x.1 by omega)]
    rfl
structure Div (w : Int) (cs gs : List Int) : Prop where
  len : gs.length = cs.length
  g : okG cs gs = true
  sum : sumI gs = 120 * w
theorem spread_div {w : Int} {cs bs : List Int} (h : OkW w cs) (hl : cs.length ≤ bs.length) (hb : ∀ x ∈ bs, 0 ≤ x) : Div w cs (spread w cs bs) := by
  have hm : (cs.zip bs).map (·.1) = cs := by rw [List.map_fst_zip]; exact hl
  have := sprR_div (cs.zip bs) (120 * w) (120 * sumI cs) (fun x hx => by
    obtain ⟨a, b⟩ := x
    exact ⟨(h.rng a (List.of_mem_zip hx).1).1, hb b (List.of_mem_zip hx).2⟩) (by have := h.lo; omega) (by have := h.hi; omega) (by rw [hm])
  rw [hm] at this
  exact ⟨by unfold spread; rw [sprR_len]; simp; omega, this.1, this.2⟩
theorem valid_of {w : Int} {cs gs : List Int} (h : OkW w cs) (d : Div w cs gs) : validV w cs gs = 0 := by
  unfold validV
  rw [ok_iff h, decide_eq_true d.len, d.g, d.sum]
  simp
theorem okG_at {cs gs : List Int} (hl : gs.length = cs.length) (h : ∀ i : Nat, i < cs.length → 0 ≤ at0 gs i ∧ at0 gs i ≤ 120 * at0 cs i) : okG cs gs = true := by
  unfold okG
  rw [List.all_eq_true]
  intro x hx
  obtain ⟨i, hi, rfl⟩ := List.getElem_of_mem hx
  have hi' : i < cs.length := by simp at hi; omega
  have := h i hi'
  rw [at0_lt (by omega), at0_lt hi'] at this
  rw [List.getElem_zip]
  unfold inR
  simp only [decide_eq_true this.1, decide_eq_true this.2, Bool.and_self]
theorem sum_less {a b : List Int} (h : b.length = a.length) : sumI (lessL a b) = sumI a - sumI b := by
  induction a generalizing b with
  | nil =>
    have : b = [] := List.length_eq_zero_iff.1 h
    subst this; rfl
  | cons x a ih =>
    cases b with
    | nil => cases h
    | cons y b =>
      show sumI ((x - y) :: lessL a b) = _
      rw [sumI_cons, sumI_cons, sumI_cons, ih (by simpa using h)]
      omega
structure Lv (n t : Int) (cs : List Int) : Prop where
  len : (capped t (times n cs)).length = cs.length
  sum : sumI (capped t (times n cs)) = t
  nn : 0 ≤ (lev t (times n cs) : Int)
  gt : ∀ i : Nat, i < cs.length → at0 (capped t (times n cs)) i = min (lev t (times n cs) : Int) (n * at0 cs i)
  ex : ∃ i : Nat, i < cs.length ∧ (lev t (times n cs) : Int) ≤ n * at0 cs i
theorem OkW.lv {w : Int} {cs : List Int} (h : OkW w cs) {n t : Int} (hn : n = 60 ∨ n = 120) (h0 : 0 ≤ t) (hd : (60 : Int) ∣ t) (hs : t ≤ n * sumI cs) : Lv n t cs := by
  have L := h.lev hn h0 hd hs
  have hl := times_len n cs
  refine ⟨by rw [capped_len, hl], L.sum, by omega, fun i hi => by rw [at0_capped (by omega), at0_times hi], ?_⟩
  have e := lev_eq (bs := times n cs) (t := t) (h.times_ne n) (by have := h.len; omega) (h.times_in hn) h0 hd (by rw [sum_times]; exact hs)
  obtain ⟨_, _, _, ⟨x, hx, hle⟩, _⟩ := e
  obtain ⟨i, hi, rfl⟩ := List.getElem_of_mem hx
  refine ⟨i, by omega, ?_⟩
  have := at0_times (n := n) (l := cs) (i := i) (by omega)
  rw [at0_lt (by omega)] at this
  omega
theorem times_at {n : Int} {cs : List Int} {i : Nat} (hi : i < cs.length) : at0 (times n cs) i = n * at0 cs i := at0_times hi
theorem gain_div {w : Int} {cs : List Int} (h : OkW w cs) : Div w cs (gainV w cs) ∧ gainV w cs = capped (120 * w) (times 120 cs) := by
  have e : gainV w cs = capped (120 * w) (times 120 cs) := by unfold gainV; rw [ok_iff h]; rfl
  have hlo := h.lo
  have hhi := h.hi
  have L := h.lv (n := 120) (t := 120 * w) (.inr rfl) (by omega) ⟨2 * w, by omega⟩ (by omega)
  rw [e]
  exact ⟨⟨L.len, okG_at L.len fun i hi => by rw [L.gt i hi]; have := h.rg hi; have := L.nn; omega, L.sum⟩, rfl⟩
theorem loss_div {w : Int} {cs : List Int} (h : OkW w cs) : Div w cs (lossV w cs) ∧ lossV w cs = lessL (times 120 cs) (capped (120 * (sumI cs - w)) (times 120 cs)) := by
  have e : lossV w cs = lessL (times 120 cs) (capped (120 * (sumI cs - w)) (times 120 cs)) := by unfold lossV; rw [ok_iff h]; rfl
  have hlo := h.lo
  have hhi := h.hi
  have L := h.lv (n := 120) (t := 120 * (sumI cs - w)) (.inr rfl) (by omega) ⟨2 * (sumI cs - w), by omega⟩ (by omega)
  have hl := times_len 120 cs
  have hll := lessL_len (a := times 120 cs) (b := capped (120 * (sumI cs - w)) (times 120 cs)) (by rw [L.len, hl])
  rw [e]
  refine ⟨⟨by omega, okG_at (by omega) fun i hi => ?_, ?_⟩, rfl⟩
  · rw [at0_less (by omega) (by rw [L.len]; exact hi), L.gt i hi, times_at hi]
    have := h.rg hi
    have := L.nn
    omega
  · rw [sum_less (by rw [L.len, hl]), L.sum, sum_times]; omega
theorem div_cases {w : Int} {cs : List Int} (h : OkW w cs) : (2 * w ≤ sumI cs ∧ divV w cs = capped (120 * w) (times 60 cs)) ∨ (sumI cs < 2 * w ∧ divV w cs = lessL (times 120 cs) (capped (120 * (sumI cs - w)) (times 60 cs))) := by
  unfold divV
  rw [ok_iff h]
  cases hc : decide (2 * w ≤ sumI cs) with
  | true => exact .inl ⟨of_decide_eq_true hc, rfl⟩
  | false => exact .inr ⟨by have := of_decide_eq_false hc; omega, rfl⟩
theorem rule_div {w : Int} {cs : List Int} (h : OkW w cs) : Div w cs (divV w cs) := by
  have hlo := h.lo
  have hhi := h.hi
  have hl := times_len 120 cs
  rcases div_cases h with ⟨hc, e⟩ | ⟨hc, e⟩
  · have L := h.lv (n := 60) (t := 120 * w) (.inl rfl) (by omega) ⟨2 * w, by omega⟩ (by omega)
    rw [e]
    exact ⟨L.len, okG_at L.len fun i hi => by rw [L.gt i hi]; have := h.rg hi; have := L.nn; omega, L.sum⟩
  · have L := h.lv (n := 60) (t := 120 * (sumI cs - w)) (.inl rfl) (by omega) ⟨2 * (sumI cs - w), by omega⟩ (by omega)
    have hll := lessL_len (a := times 120 cs) (b := capped (120 * (sumI cs - w)) (times 60 cs)) (by rw [L.len, hl])
    rw [e]
    refine ⟨by omega, okG_at (by omega) fun i hi => ?_, ?_⟩
    · rw [at0_less (by omega) (by rw [L.len]; exact hi), L.gt i hi, times_at hi]
      have := h.rg hi
      have := L.nn
      omega
    · rw [sum_less (by rw [L.len, hl]), L.sum, sum_times]; omega
end Clm
namespace Clm
open Go
set_option linter.unusedVariables false
set_option maxRecDepth 100000
theorem nodO_all : ((List.range 6).all fun n => decide (orders n).Nodup) = true := by decide +kernel
theorem orders_nodup {n : Nat} (hn : n ≤ 5) : (orders n).Nodup := by
  have h := nodO_all
  rw [List.all_eq_true] at h
  exact of_decide_eq_true (h n (List.mem_range.2 (by omega)))
theorem has_iff {l : List Int} {x : Int} : has l x = true ↔ x ∈ l := by simp [has]
theorem mem_ordI {n : Nat} : ∀ (r b : List Int), (∀ x ∈ r, 0 ≤ x ∧ x < n) → (b ++ r).Nodup → b ++ r ∈ ordI n r.length b
  | [], b, _, _ => by simp [ordI]
  | x :: r, b, hx, hnd => by
    have h0 := hx x (by simp)
    obtain ⟨k, rfl⟩ := Int.eq_ofNat_of_zero_le h0.1
    have hnb : has b (k : Int) = false := by
      rw [Bool.eq_false_iff]
      intro h
      have := has_iff.1 h
      rw [List.nodup_append] at hnd
      exact hnd.2.2 _ this _ (by simp) rfl
    rw [List.length_cons]
    unfold ordI
    rw [List.mem_flatMap]
    refine ⟨k, List.mem_range.2 (by omega), ?_⟩
    rw [hnb, cond_false]
    have := mem_ordI r (b ++ [(k : Int)]) (fun y hy => hx y (by simp [hy])) (by simpa using hnd)
    simpa using this
theorem mem_orders {n : Nat} {o : List Int} (h : o.Perm ((List.range n).map Int.ofNat)) : o ∈ orders n := by
  have hl : o.length = n := by rw [h.length_eq]; simp
  have hnd : o.Nodup := h.nodup_iff.2 (List.Pairwise.map _ (fun a b h e => h (Int.ofNat.inj e)) List.nodup_range)
  have := mem_ordI (n := n) o [] (fun x hx => by
    obtain ⟨i, hi, rfl⟩ := List.mem_map.1 (h.mem_iff.1 hx)
    have := List.mem_range.1 hi
    exact ⟨Int.natCast_nonneg i, Int.ofNat_lt.2 this⟩) (by simpa using hnd)
  rw [hl] at this
  exact this
theorem orders_inv {n : Nat} (hn : n ≤ 5) (f : List Int → List Int) (h1 : ∀ o ∈ orders n, f o ∈ orders n) (h2 : ∀ o ∈ orders n, f (f o) = o) : ((orders n).map f).Perm (orders n) := by
  have hnd := orders_nodup hn
  have hinj : ((orders n).map f).Nodup := by
    unfold List.Nodup
    rw [List.pairwise_map]
    exact List.Pairwise.imp_of_mem (fun {a b} ha hb hab e => hab (by rw [← h2 a ha, ← h2 b hb, e])) hnd
  refine (List.perm_ext_iff_of_nodup hinj hnd).2 fun o => ?_
  rw [List.mem_map]
  exact ⟨fun ⟨p, hp, e⟩ => e ▸ h1 p hp, fun ho => ⟨f o, h1 o ho, h2 o ho⟩⟩
def ordS (w : Int) (cs : List Int) (k : Nat) : Int := sumI ((orders cs.length).map fun o => val w cs (sumAt cs (pre o k)) k)
theorem ordS_eq {w : Int} {cs : List Int} (hn : cs.length ≤ 5) {k : Nat} (hk : k < cs.length) : ordS w cs k = avgS w cs k := sum_orders hn hk
theorem fac_pos : ∀ n, 0 < fac n
  | 0 => by simp [fac]
  | n + 1 => Nat.mul_pos (fac_pos n) (Nat.succ_pos n)
theorem avgK_ord {w : Int} {cs : List Int} (hn : cs.length ≤ 5) {k : Nat} (hk : k < cs.length) : (fac cs.length : Int) * avgK w cs k = 120 * ordS w cs k := by
  rw [ordS_eq hn hk]
  exact (fac_div hn _).1.symm
theorem cancel {f a b : Int} (hf : 0 < f) (h : f * a ≤ f * b) : a ≤ b := Int.le_of_mul_le_mul_left h hf
theorem cancel_eq {f a b : Int} (hf : 0 < f) (h : f * a = f * b) : a = b := Int.le_antisymm (cancel hf (Int.le_of_eq h)) (cancel hf (Int.le_of_eq h.symm))
theorem sum_le {α : Type} {f g : α → Int} : ∀ l : List α, (∀ x ∈ l, f x ≤ g x) → sumI (l.map f) ≤ sumI (l.map g)
  | [], _ => Int.le_refl _
  | x :: l, h => by
    rw [List.map_cons, List.map_cons, sumI_cons, sumI_cons]
    have := h x (by simp)
    have := sum_le l fun y hy => h y (by simp [hy])
    omega
theorem sum_const {α : Type} (c : Int) : ∀ l : List α, sumI (l.map fun _ => c) = (l.length : Int) * c
  | [] => by simp [sumI_nil]
  | x :: l => by rw [List.map_cons, sumI_cons, sum_const c l, List.length_cons, Int.natCast_add, Int.add_mul]; omega
theorem sum_add {α : Type} (f g : α → Int) : ∀ l : List α, sumI (l.map f) + sumI (l.map g) = sumI (l.map fun x => f x + g x)
  | [] => rfl
  | x :: l => by rw [List.map_cons, List.map_cons, List.map_cons, sumI_cons, sumI_cons, sumI_cons, ← sum_add f g l]; omega
theorem OkW.nn {w : Int} {cs : List Int} (h : OkW w cs) (i : Int) : 0 ≤ at0 cs i := by
  unfold at0
  rw [List.getD_eq_getElem?_getD]
  cases hx : cs[i.toNat]? with
  | none => simp
  | some x => have := h.rng x (List.mem_of_getElem? hx); simp; omega
theorem avg_in {w : Int} {cs : List Int} (h : OkW w cs) {k : Nat} (hk : k < cs.length) : 0 ≤ avgK w cs k ∧ avgK w cs k ≤ 120 * at0 cs k := by
  have hf : (0 : Int) < fac cs.length := by exact_mod_cast fac_pos _
  have e := avgK_ord (w := w) h.len hk
  have hc := h.nn k
  have hb : ∀ o ∈ orders cs.length, (fun _ : List Int => (0 : Int)) o ≤ val w cs (sumAt cs (pre o k)) k ∧ val w cs (sumAt cs (pre o k)) k ≤ (fun _ : List Int => at0 cs k) o := fun o _ => by unfold val; simp only; omega
  have l1 := sum_le (f := fun _ : List Int => (0 : Int)) (g := fun o => val w cs (sumAt cs (pre o k)) k) (orders cs.length) fun o ho => (hb o ho).1
  have l2 := sum_le (f := fun o => val w cs (sumAt cs (pre o k)) k) (g := fun _ : List Int => at0 cs k) (orders cs.length) fun o ho => (hb o ho).2
  rw [sum_const] at l1 l2
  rw [orders_len h.len] at l2
  change _ ≤ ordS w cs k at l1
  change ordS w cs k ≤ _ at l2
  refine ⟨cancel hf ?_, cancel hf ?_⟩
  · rw [e]; omega
  · rw [e, Int.mul_left_comm]; omega
theorem avg_mono {w w' : Int} {cs : List Int} (hn : cs.length ≤ 5) (hw : w ≤ w') {k : Nat} (hk : k < cs.length) : avgK w cs k ≤ avgK w' cs k := by
  have hf : (0 : Int) < fac cs.length := by exact_mod_cast fac_pos _
  have l := sum_le (f := fun o => val w cs (sumAt cs (pre o k)) k) (g := fun o => val w' cs (sumAt cs (pre o k)) k) (orders cs.length) fun o _ => by unfold val; omega
  refine cancel hf ?_
  rw [avgK_ord hn hk, avgK_ord hn hk]
  change ordS w cs k ≤ ordS w' cs k at l
  omega
theorem sumAt_app (cs p q : List Int) : sumAt cs (p ++ q) = sumAt cs p + sumAt cs q := by unfold sumAt; rw [List.map_append, sumI_append]
theorem sumAt_cons (cs q : List Int) (x : Int) : sumAt cs (x :: q) = at0 cs x + sumAt cs q := by unfold sumAt; rw [List.map_cons, sumI_cons]
theorem sumAt_perm {p q : List Int} (cs : List Int) (h : p.Perm q) : sumAt cs p = sumAt cs q := sum_map_perm h _
theorem range_at (cs : List Int) : (List.range cs.length).map (fun i => at0 cs (i : Nat)) = cs := by
  refine List.ext_getElem (by simp) fun i h1 h2 => ?_
  rw [List.getElem_map, List.getElem_range, at0_lt h2]
theorem sumAt_all {cs o : List Int} (h : o.Perm ((List.range cs.length).map Int.ofNat)) : sumAt cs o = sumI cs := by
  rw [sumAt_perm cs h]
  unfold sumAt
  rw [List.map_map]
  conv => rhs; rw [← range_at cs]
  rfl
theorem pre_rev {o : List Int} {k : Nat} (hnd : o.Nodup) (hk : (k : Int) ∈ o) : ∃ q, o = pre o k ++ (k : Int) :: q ∧ pre o.reverse k = q.reverse := by
  obtain ⟨q, hq⟩ := take_drop_k hk
  refine ⟨q, hq, ?_⟩
  have hkq : (k : Int) ∉ q := fun h => by
    rw [hq, List.nodup_append] at hnd
    exact (List.nodup_cons.1 hnd.2.1).1 h
  have e : o.reverse = q.reverse ++ (k : Int) :: (pre o k).reverse := by
    have := congrArg List.reverse hq
    rw [this]
    simp
  rw [e]
  unfold pre
  rw [List.takeWhile_append_of_pos (fun x hx => by
    have : x ≠ (k : Int) := fun e => hkq (e ▸ List.mem_reverse.1 hx)
    simp [this])]
  simp
theorem avg_dual {w : Int} {cs : List Int} (h : OkW w cs) {k : Nat} (hk : k < cs.length) : avgK w cs k + avgK (sumI cs - w) cs k = 120 * at0 cs k := by
  have hf : (0 : Int) < fac cs.length := by exact_mod_cast fac_pos _
  have hn := h.len
  have hrev := orders_inv hn List.reverse (fun o ho => mem_orders ((List.reverse_perm o).trans (orders_perm hn ho))) (fun o _ => List.reverse_reverse o)
  have e2 : ordS (sumI cs - w) cs k = sumI ((orders cs.length).map fun o => val (sumI cs - w) cs (sumAt cs (pre o.reverse k)) k) := by
    unfold ordS
    rw [← sum_map_perm hrev, List.map_map]
    rfl
  have e3 : ordS w cs k + ordS (sumI cs - w) cs k = (fac cs.length : Int) * at0 cs k := by
    rw [e2]
    unfold ordS
    rw [sum_add, ← orders_len hn, ← sum_const]
    congr 1
    refine List.map_congr_left fun o ho => ?_
    have hp := orders_perm hn ho
    have hnd : o.Nodup := hp.nodup_iff.2 (List.Pairwise.map _ (fun a b h e => h (Int.ofNat.inj e)) List.nodup_range)
    obtain ⟨q, h1, h2⟩ := pre_rev (k := k) hnd (hp.mem_iff.2 (List.mem_map.2 ⟨k, List.mem_range.2 hk, rfl⟩))
    have hs := sumAt_all hp
    rw [h1, sumAt_app, sumAt_cons] at hs
    rw [h2, sumAt_perm cs (List.reverse_perm q)]
    have hc := h.nn k
    unfold val
    omega
  refine cancel_eq hf ?_
  rw [Int.mul_add, avgK_ord hn hk, avgK_ord hn hk, Int.mul_left_comm, ← e3]
  omega
theorem in_sum {cs : List Int} : ∀ (o : List Int) (s : List Int × Int), (∀ x ∈ o, 0 ≤ x ∧ x.toNat < s.1.length ∧ s.1.getD x.toNat 0 = 0) → o.Nodup → sumI (o.foldl (inStep cs) s).1 + 120 * (o.foldl (inStep cs) s).2 = sumI s.1 + 120 * s.2
  | [], s, _, _ => rfl
  | x :: o, s, h, hnd => by
    rw [List.foldl_cons]
    rw [List.nodup_cons] at hnd
    have hx := h x (by simp)
    have hset : sumI (s.1.set x.toNat (120 * min s.2 (at0 cs x))) = sumI s.1 + 120 * min s.2 (at0 cs x) := by
      have key : ∀ (l : List Int) (i : Nat) (v : Int), i < l.length → sumI (l.set i v) = sumI l - l.getD i 0 + v := fun l => by
        induction l with
        | nil => intro i v hi; simp at hi
        | cons y l ih =>
          intro i v hi
          cases i with
          | zero => rw [List.set_cons_zero, sumI_cons, sumI_cons]; simp; omega
          | succ i =>
            rw [List.set_cons_succ, sumI_cons, sumI_cons, ih i v (by simpa using hi)]
            have : (y :: l).getD (i + 1) 0 = l.getD i 0 := rfl
            omega
      rw [key _ _ _ hx.2.1, hx.2.2]; omega
    rw [in_sum o _ (fun y hy => by
      have hy' := h y (by simp [hy])
      have hne : x.toNat ≠ y.toNat := fun e => hnd.1 (by rw [show x = y by omega]; exact hy)
      refine ⟨hy'.1, by simpa [inStep] using hy'.2.1, ?_⟩
      simp only [inStep]
      rw [List.getD_eq_getElem?_getD, List.getElem?_set_ne hne, ← List.getD_eq_getElem?_getD]
      exact hy'.2.2) hnd.2]
    simp only [inStep, hset]
    omega
theorem inOrd_sum {w : Int} {cs o : List Int} (h : OkW w cs) (ho : o.Perm ((List.range cs.length).map Int.ofNat)) : sumI (inOrd w cs o) = 120 * w := by
  have hnd : o.Nodup := ho.nodup_iff.2 (List.Pairwise.map _ (fun a b h e => h (Int.ofNat.inj e)) List.nodup_range)
  have := in_sum (cs := cs) o (List.replicate cs.length 0, w) (fun x hx => by
    obtain ⟨i, hi, rfl⟩ := List.mem_map.1 (ho.mem_iff.1 hx)
    have := List.mem_range.1 hi
    refine ⟨Int.natCast_nonneg i, by simpa using this, ?_⟩
    rw [List.getD_eq_getElem?_getD, List.getElem?_replicate]
    simp [this]) hnd
  have hl := in_left (cs := cs) h.nn o (List.replicate cs.length 0, w) h.lo
  rw [sumAt_all ho] at hl
  simp only at hl
  rw [hl, sum_rep] at this
  have hhi := h.hi
  unfold inOrd
  omega
theorem sum_swap {α : Type} (n : Nat) (g : α → Nat → Int) : ∀ l : List α, sumI ((List.range n).map fun k => sumI (l.map fun o => g o k)) = sumI (l.map fun o => sumI ((List.range n).map fun k => g o k))
  | [] => by
    have := sum_const (α := Nat) 0 (List.range n)
    simpa [sumI_nil] using this
  | x :: l => by
    rw [List.map_cons, sumI_cons, ← sum_swap n g l, sum_add]
    exact congrArg sumI (List.map_congr_left fun k _ => by rw [List.map_cons, sumI_cons])
theorem list_sum (l : List Int) : sumI ((List.range l.length).map fun k => l.getD k 0) = sumI l := by
  congr 1
  refine List.ext_getElem (by simp) fun i h1 h2 => ?_
  rw [List.getElem_map, List.getElem_range, List.getD_eq_getElem?_getD, List.getElem?_eq_getElem h2]; rfl
def avgL (w : Int) (cs : List Int) : List Int := (List.range cs.length).map fun k => avgK w cs k
def avgV (w : Int) (cs : List Int) : List Int := bif chk w cs == 0 then avgL w cs else []
theorem avgL_len (w : Int) (cs : List Int) : (avgL w cs).length = cs.length := by simp [avgL]
theorem avgL_at {w : Int} {cs : List Int} {k : Nat} (hk : k < cs.length) : at0 (avgL w cs) k = avgK w cs k := by
  rw [at0_lt (by rw [avgL_len]; exact hk)]
  simp [avgL]
theorem sum_mul {α : Type} (c : Int) (f : α → Int) : ∀ l : List α, sumI (l.map fun x => c * f x) = c * sumI (l.map f)
  | [] => by simp [sumI_nil]
  | x :: l => by rw [List.map_cons, List.map_cons, sumI_cons, sumI_cons, sum_mul c f l, Int.mul_add]
theorem avg_div {w : Int} {cs : List Int} (h : OkW w cs) : Div w cs (avgV w cs) ∧ avgV w cs = avgL w cs := by
  have e : avgV w cs = avgL w cs := by unfold avgV; rw [ok_iff h]; rfl
  have hf : (0 : Int) < fac cs.length := by exact_mod_cast fac_pos _
  rw [e]
  refine ⟨⟨avgL_len w cs, okG_at (avgL_len w cs) fun i hi => by rw [avgL_at hi]; exact avg_in h hi, ?_⟩, rfl⟩
  refine cancel_eq hf ?_
  unfold avgL
  rw [← sum_mul]
  have e1 : (List.range cs.length).map (fun k => (fac cs.length : Int) * avgK w cs k) = (List.range cs.length).map fun k => sumI ((orders cs.length).map fun o => (inOrd w cs o).getD k 0) := by
    refine List.map_congr_left fun k hk => ?_
    exact ((avg_eq h.lo h.nn h.len (List.mem_range.1 hk)).2).symm
  rw [e1, sum_swap, ← orders_len h.len, ← sum_const]
  congr 1
  refine List.map_congr_left fun o ho => ?_
  have := list_sum (inOrd w cs o)
  rw [inOrd_len] at this
  rw [this, inOrd_sum h (orders_perm h.len ho)]
end Clm
namespace Clm
open Go
set_option linter.unusedVariables false
def oStep (cs : List Int) (s : List Int × Int) (x : Int) : List Int × Int := (s.1.set x.toNat (min s.2 (120 * at0 cs x)), s.2 - min s.2 (120 * at0 cs x))
def oF (cs : List Int) (i : Nat) (s : List Int × Int) (x : Int) : Sum (Nat × Int × List Int × Int) (List Int × Int) :=
  bif !inR x 0 ((cs.length : Int) - 1) then .inl (i, 2, s) else bif decide (s.1.getD x.toNat 0 ≥ 0) then .inl (i, 6, s) else .inr (oStep cs s x)
def oX (cs od : List Int) (L : Int) : Sum (Nat × Int × List Int × Int) (List Int × Int) := Ev.foldX (oF cs) 0 od (List.replicate cs.length (-1), L)
def oErr : Sum (Nat × Int × List Int × Int) (List Int × Int) → Int
  | .inl x => x.2.1
  | .inr _ => 0
def oIdx : Sum (Nat × Int × List Int × Int) (List Int × Int) → Int
  | .inl x => (x.1 : Nat)
  | .inr _ => 0
def oOut : Sum (Nat × Int × List Int × Int) (List Int × Int) → List Int
  | .inl x => x.2.2.1
  | .inr x => x.1
def oLeft : Sum (Nat × Int × List Int × Int) (List Int × Int) → Int
  | .inl x => x.2.2.2
  | .inr x => x.2
def rF (n : Nat) (od : List Int) (i : Nat) (_ : Unit) (x : Int) : Sum (Nat × Int) Unit :=
  bif !inR x 0 ((n : Int) - 1) then .inl (i, 2) else bif has (od.take i) x then .inl (i, 6) else .inr ()
def rX (n : Nat) (od : List Int) : Sum (Nat × Int) Unit := Ev.foldX (rF n od) 0 od ()
def rErr : Sum (Nat × Int) Unit → Int
  | .inl x => x.2
  | .inr _ => 0
def rIdx : Sum (Nat × Int) Unit → Nat
  | .inl x => x.1
  | .inr _ => 0
def ordE (w : Int) (cs od : List Int) : Int := bif chk w cs == 0 then (bif decide (od.length = cs.length) then rErr (rX cs.length od) else 5) else chk w cs
def ordV (w : Int) (cs od : List Int) : List Int := bif ordE w cs od == 0 then inOrd w cs od else []
def repOK (out : List Int) (n : Nat) (v : Int) : Bool := decide (out = List.replicate n v)
def odOK (cs od : List Int) : Bool := decide (od.length ≤ 5) && od.all fun x => inR x 0 ((cs.length : Int) - 1)
structure Mid (cs : List Int) (seen : List Int) (s r : List Int × Int) : Prop where
  l1 : s.1.length = cs.length
  l2 : r.1.length = cs.length
  left : s.2 = 120 * r.2
  nn : 0 ≤ r.2
  get : ∀ k : Nat, k < cs.length → s.1.getD k 0 = if (k : Int) ∈ seen then r.1.getD k 0 else -1
  pos : ∀ k : Nat, k < cs.length → 0 ≤ r.1.getD k 0
theorem getD_set' (l : List Int) (i k : Nat) (v : Int) (h : i < l.length) : (l.set i v).getD k 0 = if k = i then v else l.getD k 0 := by
  rw [List.getD_eq_getElem?_getD, List.getElem?_set]
  by_cases e : k = i
  · subst e; simp [h]
  · rw [if_neg e, if_neg (Ne.symm e), List.getD_eq_getElem?_getD]
theorem mid_step {cs : List Int} (hc : ∀ i, 0 ≤ at0 cs i) {seen : List Int} {s r : List Int × Int} (h : Mid cs seen s r) {x : Int} (hx : 0 ≤ x ∧ x < cs.length) : Mid cs (seen ++ [x]) (oStep cs s x) (inStep cs r x) := by
  obtain ⟨a1, a2, a3, a4, a5, a6⟩ := h
  obtain ⟨x, rfl⟩ := Int.eq_ofNat_of_zero_le hx.1
  have hxl : x < cs.length := by omega
  have hc0 := hc x
  have e : min s.2 (120 * at0 cs x) = 120 * min r.2 (at0 cs x) := by rw [a3]; omega
  refine ⟨by simp [oStep, a1], by simp [inStep, a2], ?_, ?_, fun k hk => ?_, fun k hk => ?_⟩
  · simp only [oStep, inStep, e]; omega
  · simp only [inStep]; omega
  · simp only [oStep, inStep, Int.toNat_natCast, e]
    rw [getD_set' _ _ _ _ (by omega), getD_set' _ _ _ _ (by omega)]
    by_cases hkx : k = x
    · subst hkx; simp
    · rw [if_neg hkx, if_neg hkx, a5 k hk]
      have : ((k : Int) ∈ seen ++ [(x : Int)]) ↔ (k : Int) ∈ seen := by simp; omega
      simp only [this]
  · simp only [inStep, Int.toNat_natCast]
    rw [getD_set' _ _ _ _ (by omega)]
    by_cases hkx : k = x
    · rw [if_pos hkx]; omega
    · rw [if_neg hkx]; exact a6 k hk
theorem inR_iff {x lo hi : Int} : inR x lo hi = true ↔ lo ≤ x ∧ x ≤ hi := by simp [inR]
theorem both {cs od : List Int} (hc : ∀ i, 0 ≤ at0 cs i) : ∀ (l : List Int) (i : Nat) (s r : List Int × Int), od = od.take i ++ l → i + l.length = od.length → Mid cs (od.take i) s r →
    match Ev.foldX (oF cs) i l s, Ev.foldX (rF cs.length od) i l () with
    | .inl a, .inl b => a.1 = b.1 ∧ a.2.1 = b.2 ∧ b.2 ≠ 0
    | .inr s', .inr () => Mid cs od s' (l.foldl (inStep cs) r) ∧ (∀ x ∈ l, 0 ≤ x ∧ x < cs.length)
    | _, _ => False
  | [], i, s, r, h, hl, m => by
    have : od.take i = od := List.take_of_length_le (by simp at hl; omega)
    rw [this] at m
    exact ⟨m, fun x hx => by cases hx⟩
  | x :: l, i, s, r, h, hl, m => by
    have hgi : od[i]? = some x := by
      have hi : (od.take i).length = i := by rw [List.length_take]; simp at hl; omega
      conv => lhs; rw [h]
      rw [List.getElem?_append_right (by omega), hi, Nat.sub_self]; rfl
    cases hr : inR x 0 ((cs.length : Int) - 1) with
    | false =>
      have h1 : oF cs i s x = .inl (i, 2, s) := by unfold oF; rw [hr]; rfl
      have h2 : rF cs.length od i () x = .inl (i, 2) := by unfold rF; rw [hr]; rfl
      simp only [Ev.foldX, h1, h2]
      simp
    | true =>
      have hx := inR_iff.1 hr
      obtain ⟨k, rfl⟩ := Int.eq_ofNat_of_zero_le hx.1
      have hk : k < cs.length := by omega
      have hg := m.get k hk
      have hp := m.pos k hk
      cases hh : has (od.take i) (k : Int) with
      | true =>
        rw [if_pos (has_iff.1 hh)] at hg
        have h1 : oF cs i s (k : Int) = .inl (i, 6, s) := by unfold oF; rw [hr, Int.toNat_natCast, hg, decide_eq_true (show r.1.getD k 0 ≥ 0 from hp)]; rfl
        have h2 : rF cs.length od i () (k : Int) = .inl (i, 6) := by unfold rF; rw [hr, hh]; rfl
        simp only [Ev.foldX, h1, h2]
        simp
      | false =>
        rw [if_neg (fun h => by rw [has_iff.2 h] at hh; cases hh)] at hg
        have h1 : oF cs i s (k : Int) = .inr (oStep cs s k) := by unfold oF; rw [hr, Int.toNat_natCast, hg, decide_eq_false (show ¬ (-1 : Int) ≥ 0 by omega)]; rfl
        have h2 : rF cs.length od i () (k : Int) = .inr () := by unfold rF; rw [hr, hh]; rfl
        have m' := mid_step hc m (x := (k : Int)) ⟨hx.1, by omega⟩
        have ht : od.take i ++ [(k : Int)] = od.take (i + 1) := (take_succ' hgi).symm
        rw [ht] at m'
        have ih := both hc l (i + 1) _ _ (by rw [← ht, List.append_assoc]; exact h) (by simp at hl; omega) m'
        simp only [Ev.foldX, h1, h2]
        rw [List.foldl_cons]
        revert ih
        generalize Ev.foldX (oF cs) (i + 1) l (oStep cs s k) = A
        generalize Ev.foldX (rF cs.length od) (i + 1) l () = B
        intro ih
        cases A with
        | inl a => cases B with
          | inl b => exact ih
          | inr b => exact ih.elim
        | inr a => cases B with
          | inl b => exact ih.elim
          | inr b => exact ⟨ih.1, fun y hy => by
              rcases List.mem_cons.1 hy with rfl | hy
              · exact ⟨hx.1, by omega⟩
              · exact ih.2 y hy⟩
theorem mid_start {cs : List Int} {w : Int} (hw : 0 ≤ w) : Mid cs [] (List.replicate cs.length (-1), 120 * w) (List.replicate cs.length 0, w) :=
  ⟨by simp, by simp, rfl, hw, fun k hk => by rw [List.getD_eq_getElem?_getD, List.getElem?_replicate]; simp [hk], fun k hk => by rw [List.getD_eq_getElem?_getD, List.getElem?_replicate]; simp [hk]⟩
theorem oX_eq {cs od : List Int} {w : Int} (hw : 0 ≤ w) (hc : ∀ i, 0 ≤ at0 cs i) (hl : od.length = cs.length) :
    oErr (oX cs od (120 * w)) = rErr (rX cs.length od) ∧ ((oErr (oX cs od (120 * w)) == 0) = true → oOut (oX cs od (120 * w)) = inOrd w cs od ∧ ∀ x ∈ od, 0 ≤ x ∧ x < cs.length) ∧ (∀ x, oX cs od (120 * w) = .inl x → oErr (oX cs od (120 * w)) ≠ 0) := by
  have := both (od := od) hc od 0 (List.replicate cs.length (-1), 120 * w) (List.replicate cs.length 0, w) (by simp) (by simp) (by simpa using mid_start hw)
  change match oX cs od (120 * w), rX cs.length od with
    | .inl a, .inl b => a.1 = b.1 ∧ a.2.1 = b.2 ∧ b.2 ≠ 0
    | .inr s', .inr () => Mid cs od s' (od.foldl (inStep cs) (List.replicate cs.length 0, w)) ∧ (∀ x ∈ od, 0 ≤ x ∧ x < cs.length)
    | _, _ => False at this
  cases hA : oX cs od (120 * w) with
  | inl a =>
    cases hB : rX cs.length od with
    | inl b =>
      rw [hA, hB] at this
      simp only [oErr, rErr]
      refine ⟨this.2.1, fun h => ?_, fun x hx => ?_⟩
      · rw [this.2.1] at h; exact absurd (beq_iff_eq.1 h) this.2.2
      · rw [this.2.1]; exact this.2.2
    | inr b => rw [hA, hB] at this; exact this.elim
  | inr s =>
    cases hB : rX cs.length od with
    | inl b => rw [hA, hB] at this; exact this.elim
    | inr b =>
      rw [hA, hB] at this
      obtain ⟨m, hx⟩ := this
      refine ⟨rfl, fun _ => ⟨?_, hx⟩, fun x hx => by cases hx⟩
      show s.1 = inOrd w cs od
      have hr : rX cs.length od = .inr b := hB
      have hnd : od.Nodup := by
        have key : ∀ (l : List Int) (i : Nat), od = od.take i ++ l → i + l.length = od.length → (od.take i).Nodup → Ev.foldX (rF cs.length od) i l () = .inr () → od.Nodup := by
          intro l
          induction l with
          | nil => intro i h hl hn _; rw [List.take_of_length_le (by simp at hl; omega)] at hn; exact hn
          | cons x l ih =>
            intro i h hl hn hf
            have hi : (od.take i).length = i := by rw [List.length_take]; simp at hl; omega
            have hgi : od[i]? = some x := by
              conv => lhs; rw [h]
              rw [List.getElem?_append_right (by omega), hi, Nat.sub_self]; rfl
            simp only [Ev.foldX] at hf
            unfold rF at hf
            cases hin : inR x 0 ((cs.length : Int) - 1) with
            | false => rw [hin] at hf; simp at hf
            | true =>
              rw [hin] at hf
              simp only [Bool.not_true, cond_false] at hf
              cases hh : has (od.take i) x with
              | true => rw [hh] at hf; simp at hf
              | false =>
                rw [hh] at hf
                simp only [cond_false] at hf
                have ht : od.take i ++ [x] = od.take (i + 1) := (take_succ' hgi).symm
                refine ih (i + 1) (by rw [← ht, List.append_assoc]; exact h) (by simp at hl; omega) ?_ hf
                rw [← ht, List.nodup_append]
                refine ⟨hn, by simp, fun a ha b hb e => ?_⟩
                rw [List.mem_singleton] at hb
                subst hb; subst e
                rw [has_iff.2 ha] at hh; cases hh
        exact key od 0 (by simp) (by simp) (by simp) hr
      have hperm : ∀ k : Nat, k < cs.length → (k : Int) ∈ od := by
        have hsub : od.Subset ((List.range cs.length).map Int.ofNat) := fun x hxm => by
          have := hx x hxm
          exact List.mem_map.2 ⟨x.toNat, List.mem_range.2 (by omega), by simp; omega⟩
        intro k hk
        by_cases hm : (k : Int) ∈ od
        · exact hm
        · exfalso
          have := List.Nodup.length_le_of_subset (l₁ := (k : Int) :: od) (l₂ := (List.range cs.length).map Int.ofNat) (List.nodup_cons.2 ⟨hm, hnd⟩) (fun x hxm => by
            rcases List.mem_cons.1 hxm with rfl | hxm
            · exact List.mem_map.2 ⟨k, List.mem_range.2 hk, rfl⟩
            · exact hsub hxm)
          simp [hl] at this
          omega
      refine list_at (by rw [m.l1, inOrd_len]) fun k hk => ?_
      have hk' : k < cs.length := by rw [m.l1] at hk; exact hk
      have := m.get k hk'
      rw [if_pos (hperm k hk')] at this
      unfold at0
      rw [Int.toNat_natCast]
      exact this
end Clm
namespace Clm
open Go
set_option linter.unusedVariables false
set_option maxRecDepth 100000
def facW (n : Nat) : List Int := (List.range 6).map fun i => bif Nat.ble i n then (fac i : Int) else 0
def accK (w : Int) (cs : List Int) (S k : Nat) : Int := sumI (((List.range S).filter fun S => !S.testBit k).map fun S => (wt cs.length S : Int) * val w cs (cm cs S) k)
def accL (w : Int) (cs : List Int) (S : Nat) : List Int := (List.range cs.length).map fun k => accK w cs S k
def midL (w : Int) (cs : List Int) (S i : Nat) : List Int := (List.range cs.length).map fun k => bif Nat.blt k i then accK w cs (S + 1) k else accK w cs S k
def divL (w : Int) (cs : List Int) (i : Nat) : List Int := (List.range cs.length).map fun k => bif Nat.blt k i then avgK w cs k else avgS w cs k
def bitI (S i : Int) : Int := IntKind.i64.wrap ((BitVec.ofInt 64 (S.fdiv (2 ^ min i.toNat 64)) &&& BitVec.ofInt 64 1).toNat : Int)
def quoL (k : Nat) (out : List Int) : List Int := out.map fun x => x * Int.tdiv 120 (fac k : Int)
def bigOK (out : List Int) : Bool := out.all fun x => decide (-1000000000000 ≤ x) && decide (x ≤ 1000000000000)
theorem quo_eq {w : Int} {cs : List Int} (hn : cs.length ≤ 5) : quoL cs.length (accL w cs (2 ^ cs.length)) = avgL w cs := by
  unfold quoL accL avgL
  rw [List.map_map]
  refine List.map_congr_left fun k _ => ?_
  show accK w cs (2 ^ cs.length) k * _ = avgS w cs k * _
  have : Int.tdiv 120 (fac cs.length : Int) = 120 / (fac cs.length : Int) := Int.tdiv_eq_ediv_of_nonneg (by decide)
  rw [this]
  rfl
theorem bits_all : ((List.range 32).all fun S => (List.range 5).all fun i => bitI (S : Nat) (i : Nat) == (bif S.testBit i then 1 else 0)) = true := by decide +kernel
theorem bitI_nat {S i : Nat} (hS : S < 32) (hi : i < 5) : bitI (S : Nat) (i : Nat) = bif S.testBit i then 1 else 0 := by
  have h := bits_all
  rw [List.all_eq_true] at h
  have h := h S (List.mem_range.2 hS)
  rw [List.all_eq_true] at h
  exact beq_iff_eq.1 (h i (List.mem_range.2 hi))
theorem accK_succ (w : Int) (cs : List Int) (S k : Nat) : accK w cs (S + 1) k = accK w cs S k + bif S.testBit k then 0 else (wt cs.length S : Int) * val w cs (cm cs S) k := by
  unfold accK
  rw [List.range_succ, List.filter_append, List.map_append, sumI_append]
  cases h : S.testBit k with
  | true => simp [h, sumI_nil]
  | false => simp [h, sumI_cons, sumI_nil]
theorem map_set {n i : Nat} {f g : Nat → Int} {v : Int} (hv : i < n → v = g i) (h : ∀ k, k < n → k ≠ i → f k = g k) : ((List.range n).map f).set i v = (List.range n).map g := by
  refine List.ext_getElem (by simp) fun k h1 h2 => ?_
  simp only [List.length_map, List.length_range] at h2
  rw [List.getElem_set]
  split
  · rename_i e; subst e; simp [hv h2]
  · rename_i e; simp [h k h2 (Ne.symm e)]
theorem map_get {n i : Nat} {f : Nat → Int} (h : i < n) : ((List.range n).map f)[i]? = some (f i) := by
  rw [List.getElem?_map, List.getElem?_range h]; rfl
theorem mid_next (w : Int) (cs : List Int) (S i : Nat) : (midL w cs S i).set i (accK w cs (S + 1) i) = midL w cs S (i + 1) := by
  unfold midL
  refine map_set (fun _ => ?_) fun k hk hki => ?_
  · rw [show Nat.blt i (i + 1) = true by simp [Nat.blt]]; rfl
  · have : Nat.blt k i = Nat.blt k (i + 1) := by
      rw [Bool.eq_iff_iff]; simp only [Nat.blt, Nat.ble_eq]; omega
    rw [this]
theorem mid_zero (w : Int) (cs : List Int) (S : Nat) : midL w cs S 0 = accL w cs S := by
  unfold midL accL
  refine List.map_congr_left fun k _ => ?_
  rw [show Nat.blt k 0 = false from rfl]; rfl
theorem mid_end (w : Int) (cs : List Int) (S : Nat) : midL w cs S cs.length = accL w cs (S + 1) := by
  unfold midL accL
  refine List.map_congr_left fun k hk => ?_
  have := List.mem_range.1 hk
  rw [show Nat.blt k cs.length = true by simp only [Nat.blt, Nat.ble_eq]; omega]; rfl
theorem div_next (w : Int) (cs : List Int) (i : Nat) : (divL w cs i).set i (avgK w cs i) = divL w cs (i + 1) := by
  unfold divL
  refine map_set (fun _ => ?_) fun k hk hki => ?_
  · rw [show Nat.blt i (i + 1) = true by simp [Nat.blt]]; rfl
  · have : Nat.blt k i = Nat.blt k (i + 1) := by
      rw [Bool.eq_iff_iff]; simp only [Nat.blt, Nat.ble_eq]; omega
    rw [this]
theorem div_zero (w : Int) (cs : List Int) : divL w cs 0 = accL w cs (2 ^ cs.length) := by
  unfold divL accL
  refine List.map_congr_left fun k _ => ?_
  rw [show Nat.blt k 0 = false from rfl]; rfl
theorem div_end (w : Int) (cs : List Int) : divL w cs cs.length = avgL w cs := by
  unfold divL avgL
  refine List.map_congr_left fun k hk => ?_
  have := List.mem_range.1 hk
  rw [show Nat.blt k cs.length = true by simp only [Nat.blt, Nat.ble_eq]; omega]; rfl
theorem bits_succ (i S : Nat) : bitsN (i + 1) S = bitsN i S ++ bif S.testBit i then [(i : Int)] else [] := by
  unfold bitsN
  rw [List.range_succ, List.filter_append, List.map_append]
  cases h : S.testBit i <;> simp [h]
theorem pop_succ (i S : Nat) : pop (i + 1) S = pop i S + bif S.testBit i then 1 else 0 := by
  unfold pop
  rw [List.range_succ, List.filter_append, List.length_append]
  cases h : S.testBit i <;> simp [h]
theorem pop_le (n S : Nat) : pop n S ≤ n := by
  unfold pop
  have := List.length_filter_le (fun i => S.testBit i) (List.range n)
  rwa [List.length_range] at this
theorem pop_lt {n S k : Nat} (hk : k < n) (h : S.testBit k = false) : pop n S ≤ n - 1 := by
  unfold pop
  have : ((List.range n).filter fun i => S.testBit i).length < (List.range n).length := by
    rw [List.length_filter_lt_length_iff_exists]
    exact ⟨k, List.mem_range.2 hk, by simp [h]⟩
  rw [List.length_range] at this
  omega
theorem fac_le {n : Nat} (h : n ≤ 5) : (fac n : Int) ≤ 120 ∧ 0 < (fac n : Int) := by
  match n, h with
  | 0, _ => decide
  | 1, _ => decide
  | 2, _ => decide
  | 3, _ => decide
  | 4, _ => decide
  | 5, _ => decide
theorem facW_get {n i : Nat} (hn : n ≤ 5) (hi : i ≤ n) : (facW n)[i]? = some (fac i : Int) := by
  unfold facW
  rw [List.getElem?_map, List.getElem?_range (by omega)]
  simp only [Option.map_some]
  rw [show Nat.ble i n = true from Nat.ble_eq_true_of_le hi]; rfl
theorem facW_step {i : Nat} (hi : i < 5) : (facW i).set (i + 1) ((fac i : Int) * ((i : Int) + 1)) = facW (i + 1) := by
  match i, hi with
  | 0, _ => decide
  | 1, _ => decide
  | 2, _ => decide
  | 3, _ => decide
  | 4, _ => decide
theorem facW_len (n : Nat) : (facW n).length = 6 := by simp [facW]
theorem facW_full {n i : Nat} (hn : n ≤ 5) (hi : i < 6) : ∃ x, (facW n)[i]? = some x := ⟨_, List.getElem?_eq_getElem (by rw [facW_len]; exact hi)⟩
theorem val_in {w : Int} {cs : List Int} (hc : ∀ i, 0 ≤ at0 cs i) (s : Int) (k : Int) : 0 ≤ val w cs s k ∧ val w cs s k ≤ at0 cs k := by
  have := hc k
  unfold val; omega
theorem wt_in {n S k : Nat} (hn : n ≤ 5) (hk : k < n) (h : S.testBit k = false) : 0 ≤ (wt n S : Int) ∧ (wt n S : Int) ≤ 14400 ∧ (wt n S : Int) = (fac (pop n S) : Int) * (fac (n - 1 - pop n S) : Int) := by
  have h1 := pop_lt hk h
  have a := fac_le (n := pop n S) (by omega)
  have b := fac_le (n := n - 1 - pop n S) (by omega)
  have e : (wt n S : Int) = (fac (pop n S) : Int) * (fac (n - 1 - pop n S) : Int) := by unfold wt; push_cast; rfl
  refine ⟨by omega, ?_, e⟩
  rw [e]
  have := Int.mul_le_mul a.1 b.1 (by omega) (by omega)
  omega
theorem acc_in {w : Int} {cs : List Int} (h : OkW w cs) {k : Nat} (hk : k < cs.length) : ∀ S : Nat, 0 ≤ accK w cs S k ∧ accK w cs S k ≤ (S : Int) * 14400000
  | 0 => by simp [accK, sumI_nil]
  | S + 1 => by
    have ih := acc_in h hk S
    rw [accK_succ]
    cases hb : S.testBit k with
    | true => simp only [cond_true]; omega
    | false =>
      have v := val_in (w := w) h.nn (cm cs S) k
      have r := h.rg hk
      obtain ⟨a, b, _⟩ := wt_in h.len hk hb
      have h1 := Int.mul_le_mul b (show val w cs (cm cs S) k ≤ 1000 by omega) v.1 (by omega)
      have h2 := Int.mul_nonneg a v.1
      simp only [cond_false]
      omega
end Clm
namespace Clm
open Go
set_option linter.unusedVariables false
def tyB (b : List Int) (p : Nat) : TypeId := bif (List.range p).all (fun (x : Nat) => has b x) then 0 else 22
def ordP (n : Nat) (b : List Int) (p : Nat) : List (List Int) := (List.range p).flatMap fun (x : Nat) => bif has b x then [] else ordI n (n - b.length - 1) (b ++ [(x : Int)])
def ordB (n : Int) (b : List Int) : List (List Int) := ordI n.toNat (n.toNat - b.length) b
def totK (w : Int) (cs : List Int) (j k : Nat) : Int := sumI (((orders cs.length).take j).map fun o => (inOrd w cs o).getD k 0)
def totL (w : Int) (cs : List Int) (j : Nat) : List Int := (List.range cs.length).map fun k => totK w cs j k
def addL (out d : List Int) (i : Nat) : List Int := (List.range out.length).map fun k => bif Nat.blt k i then out.getD k 0 + d.getD k 0 else out.getD k 0
def tdL (out : List Int) (m : Int) : List Int := out.map fun x => x.tdiv m
theorem ordP_succ (n : Nat) (b : List Int) (p : Nat) : ordP n b (p + 1) = ordP n b p ++ (bif has b (p : Int) then [] else ordI n (n - b.length - 1) (b ++ [(p : Int)])) := by
  unfold ordP
  rw [List.range_succ, List.flatMap_append]
  simp
theorem ordP_all {n : Nat} {b : List Int} (h : b.length < n) : ordP n b n = ordI n (n - b.length) b := by
  obtain ⟨m, hm⟩ : ∃ m, n - b.length = m + 1 := ⟨n - b.length - 1, by omega⟩
  unfold ordP
  rw [hm]
  rfl
theorem ordI_count (n : Nat) (hn : n ≤ 5) : ∀ (m : Nat) (b : List Int), (ordI n m b).length ≤ 5 ^ m
  | 0, b => by simp [ordI]
  | m + 1, b => by
    unfold ordI
    have : ∀ l : List Nat, ((l.flatMap fun (x : Nat) => bif has b x then [] else ordI n m (b ++ [(x : Int)])).length ≤ l.length * 5 ^ m) := by
      intro l
      induction l with
      | nil => simp
      | cons x l ih =>
        rw [List.flatMap_cons, List.length_append, List.length_cons, Nat.succ_mul]
        have h1 : (bif has b x then [] else ordI n m (b ++ [(x : Int)])).length ≤ 5 ^ m := by
          cases has b x with
          | true => simp
          | false => exact ordI_count n hn m _
        omega
    have h := this (List.range n)
    rw [List.length_range] at h
    have h2 : n * 5 ^ m ≤ 5 ^ (m + 1) := by rw [Nat.pow_succ, Nat.mul_comm (5 ^ m)]; exact Nat.mul_le_mul_right _ hn
    omega
theorem ordP_count {n : Nat} (hn : n ≤ 5) (b : List Int) (p : Nat) (hp : p ≤ n) : (ordP n b p).length ≤ 5 * 5 ^ 5 := by
  have : ∀ l : List Nat, ((l.flatMap fun (x : Nat) => bif has b x then [] else ordI n (n - b.length - 1) (b ++ [(x : Int)])).length ≤ l.length * 5 ^ 5) := by
    intro l
    induction l with
    | nil => simp
    | cons x l ih =>
      rw [List.flatMap_cons, List.length_append, List.length_cons, Nat.succ_mul]
      have h1 : (bif has b x then [] else ordI n (n - b.length - 1) (b ++ [(x : Int)])).length ≤ 5 ^ 5 := by
        cases has b x with
        | true => simp
        | false =>
          refine Nat.le_trans (ordI_count n hn _ _) ?_
          exact Nat.pow_le_pow_right (by decide) (by omega)
      omega
  have h := this (List.range p)
  rw [List.length_range] at h
  have : p * 5 ^ 5 ≤ 5 * 5 ^ 5 := Nat.mul_le_mul_right _ (by omega)
  exact Nat.le_trans h this
theorem tyB_succ (b : List Int) (p : Nat) : tyB b (p + 1) = bif has b (p : Int) then tyB b p else 22 := by
  unfold tyB
  rw [List.range_succ, List.all_append]
  cases h : has b (p : Int) <;> simp [h]
theorem totL_add {w : Int} {cs o : List Int} {j : Nat} (h : (orders cs.length)[j]? = some o) : addL (totL w cs j) (inOrd w cs o) cs.length = totL w cs (j + 1) := by
  unfold addL totL
  rw [List.length_map, List.length_range]
  refine List.map_congr_left fun k hk => ?_
  have hk' := List.mem_range.1 hk
  rw [show Nat.blt k cs.length = true by simp only [Nat.blt, Nat.ble_eq]; omega, cond_true]
  rw [List.getD_eq_getElem?_getD, map_get hk']
  unfold totK
  rw [take_succ' h, List.map_append, sumI_append]
  simp [sumI_cons, sumI_nil]
theorem add_next (out d : List Int) (i : Nat) : (addL out d i).set i (out.getD i 0 + d.getD i 0) = addL out d (i + 1) := by
  unfold addL
  refine map_set (fun _ => ?_) fun k hk hki => ?_
  · rw [show Nat.blt i (i + 1) = true by simp [Nat.blt]]; rfl
  · have : Nat.blt k i = Nat.blt k (i + 1) := by
      rw [Bool.eq_iff_iff]; simp only [Nat.blt, Nat.ble_eq]; omega
    rw [this]
theorem add_zero (out d : List Int) : addL out d 0 = out := by
  unfold addL
  refine List.ext_getElem (by simp) fun i h1 h2 => ?_
  rw [List.getElem_map, List.getElem_range, show Nat.blt i 0 = false from rfl, cond_false, List.getD_eq_getElem?_getD, List.getElem?_eq_getElem h2]; rfl
theorem tot_all {w : Int} {cs : List Int} (h : OkW w cs) : tdL (totL w cs (orders cs.length).length) ((orders cs.length).length : Int) = avgL w cs := by
  unfold tdL totL avgL
  rw [List.map_map]
  refine List.map_congr_left fun k hk => ?_
  have hk' := List.mem_range.1 hk
  show (totK w cs (orders cs.length).length k).tdiv _ = _
  unfold totK
  rw [List.take_length]
  exact (avg_eq h.lo h.nn h.len hk').1
theorem tot_in {w : Int} {cs : List Int} (h : OkW w cs) {k : Nat} (hk : k < cs.length) (j : Nat) : 0 ≤ totK w cs j k ∧ totK w cs j k ≤ 14400000 := by
  have hc := h.rg hk
  have hl := orders_len h.len
  have hf := fac_le h.len
  have hb : ∀ o ∈ (orders cs.length).take j, (fun _ : List Int => (0 : Int)) o ≤ (inOrd w cs o).getD k 0 ∧ (inOrd w cs o).getD k 0 ≤ (fun _ : List Int => (120000 : Int)) o := fun o ho => by
    rw [inOrd_get h.lo h.nn hk (orders_perm h.len (List.mem_of_mem_take ho))]
    have := val_in (w := w) h.nn (sumAt cs (pre o k)) k
    simp only
    omega
  have l1 := sum_le (f := fun _ : List Int => (0 : Int)) (g := fun o => (inOrd w cs o).getD k 0) ((orders cs.length).take j) fun o ho => (hb o ho).1
  have l2 := sum_le (f := fun o => (inOrd w cs o).getD k 0) (g := fun _ : List Int => (120000 : Int)) ((orders cs.length).take j) fun o ho => (hb o ho).2
  rw [sum_const] at l1 l2
  have ht : ((orders cs.length).take j).length ≤ (orders cs.length).length := List.length_take_le' _ _
  change _ ≤ totK w cs j k at l1
  change totK w cs j k ≤ _ at l2
  omega
end Clm
