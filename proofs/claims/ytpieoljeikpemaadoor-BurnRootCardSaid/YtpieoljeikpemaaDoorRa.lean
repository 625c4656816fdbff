/- What BurnRoot asks: the fires of a row burn all of it, and rows and rings need as many days as the root. -/
import Derived.Test.YtpieoljeikpemaaDoorSh
import Derived.Test.YtpieoljeikpemaaDoorSp
import Derived.Test.YtpieoljeikpemaaDoorSb
import Derived.Test.YtpieoljeikpemaaDoorRs
set_option linter.unusedVariables false
set_option linter.unusedSimpArgs false
namespace Brn
open Go
set_option linter.unusedVariables false
set_option maxRecDepth 100000
def dil1 (n : Nat) (now next : List Bool) (i : Nat) : List Bool := bif now.getD i false then (next.set (i - 1) true).set (min (n - 1) (i + 1)) true else next
def dil (n : Nat) (now : List Bool) : List Bool := (List.range n).foldl (dil1 n now) now
def stepB (n : Nat) (now : List Bool) (p : Int) : List Bool := (dil n now).set p.toNat true
def burnB (n : Nat) (fs : List Int) : List Bool := fs.foldl (stepB n) (List.replicate n false)
theorem dil1_len (n : Nat) (now next : List Bool) (i : Nat) : (dil1 n now next i).length = next.length := by
  unfold dil1; cases now.getD i false <;> simp
theorem dilf_len (n : Nat) (now : List Bool) : ∀ (xs : List Nat) (l : List Bool), (xs.foldl (dil1 n now) l).length = l.length
  | [], _ => rfl
  | x :: xs, l => by rw [List.foldl_cons, dilf_len n now xs, dil1_len]
theorem dil_len (n : Nat) (now : List Bool) : (dil n now).length = now.length := dilf_len n now _ _
theorem stepB_len (n : Nat) (now : List Bool) (p : Int) : (stepB n now p).length = now.length := by unfold stepB; rw [List.length_set, dil_len]
def rep (n : Nat) (l : List Bool) (b : Nat) : Prop := l.length = n ∧ b < 2 ^ n ∧ ∀ x, x < n → l.getD x false = b.testBit x
def dilN (n b : Nat) : Nat := (b ||| b >>> 1 ||| b <<< 1) % 2 ^ n
theorem getD_setB (l : List Bool) (i x : Nat) (v : Bool) (h : x < l.length) : (l.set i v).getD x false = if i = x then v else l.getD x false := by
  rw [List.getD_eq_getElem?_getD, List.getD_eq_getElem?_getD, List.getElem?_set]
  by_cases e : i = x
  · subst e; simp [h]
  · simp [e]
theorem dilf_get (n : Nat) (now : List Bool) (x : Nat) (hx : x < n) : ∀ (m : Nat) (l : List Bool), l.length = n →
    (((List.range m).foldl (dil1 n now) l).getD x false = (l.getD x false || (List.range m).any fun i => now.getD i false && (decide (i - 1 = x) || decide (min (n - 1) (i + 1) = x))))
  | 0, l, hl => by simp
  | m + 1, l, hl => by
    rw [List.range_succ, List.foldl_append, List.foldl_cons, List.foldl_nil, List.any_append]
    have ih := dilf_get n now x hx m l hl
    have hlen : ((List.range m).foldl (dil1 n now) l).length = n := by rw [dilf_len, hl]
    generalize (List.range m).foldl (dil1 n now) l = l' at ih hlen ⊢
    unfold dil1
    cases hb : now.getD m false with
    | false => simp only [cond_false, List.any_cons, List.any_nil, hb, Bool.false_and, Bool.or_false]; exact ih
    | true =>
      simp only [cond_true, List.any_cons, List.any_nil, hb, Bool.true_and, Bool.or_false]
      rw [getD_setB _ _ _ _ (by rw [List.length_set]; omega), getD_setB _ _ _ _ (by omega), ih]
      by_cases h1 : min (n - 1) (m + 1) = x
      · simp [h1]
      · by_cases h2 : m - 1 = x
        · simp [h1, h2]
        · simp [h1, h2]
theorem rep_dil {n : Nat} {l : List Bool} {b : Nat} (h : rep n l b) : rep n (dil n l) (dilN n b) := by
  obtain ⟨h1, h2, h3⟩ := h
  refine ⟨by rw [dil_len, h1], Nat.mod_lt _ (Nat.two_pow_pos n), fun x hx => ?_⟩
  unfold dil
  rw [dilf_get n l x hx n l h1]
  unfold dilN
  rw [Nat.testBit_mod_two_pow, Nat.testBit_or, Nat.testBit_or, Nat.testBit_shiftRight, Nat.testBit_shiftLeft, decide_eq_true hx, Bool.true_and, h3 x hx, Bool.eq_iff_iff]
  simp only [Bool.or_eq_true, List.any_eq_true, Bool.and_eq_true, decide_eq_true_eq, List.mem_range]
  constructor
  · rintro (h | ⟨i, hi, hl, h⟩)
    · exact .inl (.inl h)
    · rw [h3 i hi] at hl
      rcases h with h | h
      · rcases Nat.eq_zero_or_pos i with h0 | h0
        · subst h0; subst h; exact .inl (.inl hl)
        · exact .inl (.inr (by rw [show 1 + x = i by omega]; exact hl))
      · by_cases hh : i + 1 ≤ n - 1
        · exact .inr ⟨by omega, by rw [show x - 1 = i by omega]; exact hl⟩
        · exact .inl (.inl (by rw [show x = i by omega]; exact hl))
  · rintro ((h | h) | ⟨h, h'⟩)
    · exact .inl h
    · by_cases hh : 1 + x < n
      · exact .inr ⟨1 + x, hh, by rw [h3 _ hh]; exact h, .inl (by omega)⟩
      · exact absurd h (by rw [Nat.testBit_lt_two_pow (Nat.lt_of_lt_of_le h2 (Nat.pow_le_pow_right (by omega) (by omega)))]; simp)
    · exact .inr ⟨x - 1, by omega, by rw [h3 _ (by omega)]; exact h', .inr (by omega)⟩
theorem rep_step {n : Nat} {l : List Bool} {b : Nat} (h : rep n l b) {p : Int} (hp : 0 ≤ p ∧ p < n) : rep n (stepB n l p) (dilN n b ||| 2 ^ p.toNat) := by
  obtain ⟨h1, h2, h3⟩ := rep_dil h
  refine ⟨by rw [stepB_len, h.1], Nat.or_lt_two_pow h2 (Nat.pow_lt_pow_right (by omega) (by omega)), fun x hx => ?_⟩
  unfold stepB
  rw [getD_setB _ _ _ _ (by omega), Nat.testBit_or, Nat.testBit_two_pow]
  by_cases e : p.toNat = x
  · simp [e]
  · rw [h3 x hx]; simp [e]
def simN (n : Nat) (fs : List Int) (b : Nat) : Nat := fs.foldl (fun b p => dilN n b ||| 2 ^ p.toNat) b
theorem rep_sim {n : Nat} : ∀ (fs : List Int) (l : List Bool) (b : Nat), rep n l b → (∀ p ∈ fs, 0 ≤ p ∧ p < n) → rep n (fs.foldl (stepB n) l) (simN n fs b)
  | [], l, b, h, _ => h
  | p :: fs, l, b, h, hp => rep_sim fs _ _ (rep_step h (hp p (by simp))) (fun q hq => hp q (by simp [hq]))
theorem rep_zero (n : Nat) : rep n (List.replicate n false) 0 := ⟨by simp, Nat.two_pow_pos n, fun x hx => by
  rw [Nat.zero_testBit, List.getD_eq_getElem?_getD, List.getElem?_replicate]; simp [hx]⟩
theorem rep_full {n : Nat} {l : List Bool} (h : rep n l (2 ^ n - 1)) : l = List.replicate n true := by
  obtain ⟨h1, _, h3⟩ := h
  refine List.ext_getElem (by simp [h1]) fun i hi _ => ?_
  have := h3 i (by omega)
  rw [Nat.testBit_two_pow_sub_one, List.getD_eq_getElem?_getD, List.getElem?_eq_getElem hi] at this
  simpa [show i < n by omega] using this
def rowOK (n : Nat) : Bool := (rowP n (rootN n)).all (fun p => decide (0 ≤ p) && decide (p < (n : Int))) && Nat.beq (simN n (rowP n (rootN n)) 0) (2 ^ n - 1)
theorem rows_ok : ((List.range 100).all fun j => rowOK (j + 1)) = true := by decide +kernel
theorem row_ok {m : Int} (h1 : 1 ≤ m) (h2 : m ≤ 100) : (∀ p ∈ rowP m (rootN m), 0 ≤ p ∧ p < m) ∧ burnB m.toNat (rowP m (rootN m)) = List.replicate m.toNat true := by
  obtain ⟨n, rfl⟩ := Int.eq_ofNat_of_zero_le (show 0 ≤ m by omega)
  have := rows_ok
  rw [List.all_eq_true] at this
  have := this (n - 1) (List.mem_range.2 (by omega))
  rw [show n - 1 + 1 = n by omega] at this
  unfold rowOK at this
  rw [Bool.and_eq_true, List.all_eq_true] at this
  obtain ⟨a, b⟩ := this
  have a' : ∀ p ∈ rowP (n : Int) (rootN n), 0 ≤ p ∧ p < (n : Int) := fun p hp => by simpa using a p hp
  refine ⟨a', rep_full ?_⟩
  rw [Int.toNat_natCast]
  have := rep_sim _ _ _ (rep_zero n) a'
  rwa [Nat.eq_of_beq_eq_true b] at this
def rowW (m : Nat) : W := (List.range (m - 1)).map fun (i : Nat) => ((i : Int), ((i + 1 : Nat) : Int))
def ringW (m : Nat) : W := rowW m ++ [(0, (m : Int) - 1)]
theorem rows_days : ((List.range 9).all fun j => dayV ((j + 1 : Nat) : Int) (rowW (j + 1)) == (rootN ((j + 1 : Nat) : Int) : Int) && chk ((j + 1 : Nat) : Int) (rowW (j + 1)) == 0 && enoughV ((j + 1 : Nat) : Int) (rowW (j + 1)) (rowV ((j + 1 : Nat) : Int)) == 0) = true := by decide +kernel
theorem rings_days : ((List.range 7).all fun j => dayV ((j + 3 : Nat) : Int) (ringW (j + 3)) == (rootN ((j + 3 : Nat) : Int) : Int) && chk ((j + 3 : Nat) : Int) (ringW (j + 3)) == 0 && enoughV ((j + 3 : Nat) : Int) (ringW (j + 3)) (rowV ((j + 3 : Nat) : Int)) == 0) = true := by decide +kernel
end Brn
namespace Go.Ev.Burn
open Go Go.Ev
set_option maxRecDepth 1000000
set_option maxHeartbeats 0
set_option linter.unusedVariables false
abbrev osV (r k : Nat) (t : Bool) : AV := .os r 0 0 k true t true
abbrev rowB (l : List Bool) (t : TypeId) : Row := ⟨[.run .bool l], false, t, false, false, none⟩
abbrev lBo (l : List Bool) : AV := .sl .bool l false
noncomputable def RB0 : Tab := { T0 with nest := true }
theorem nl7_14 (again : Ag) (nx nw : List Bool) (fs : List Int) (t tx tw : TypeId) (s n p m i a j : Int) (kx kf kw : Nat) (u : Bool) : lpStep RB0 7 14 0 (lpc RB0 7 14) again [vint .u8 s, vi n, vi p, osW 0 kx, osW 1 kf, vi m, vi i, osV 2 kw u, vi a, vi j] [some (rowB nx tx), some (rowI fs t), some (rowB nw tw)] = (bif decide (j < a) then bif decide (0 ≤ j) then bif decide (j < (↑kw : Int)) then oM nw[j.toNat]? fun x => bif x then bif decide (0 ≤ if IntKind.i64.wrap (j - 1) > 0 then IntKind.i64.wrap (j - 1) else 0) then bif decide ((if IntKind.i64.wrap (j - 1) > 0 then IntKind.i64.wrap (j - 1) else 0) < (↑kx : Int)) then oM nx[(if IntKind.i64.wrap (j - 1) > 0 then IntKind.i64.wrap (j - 1) else 0).toNat]? fun x => bif decide (0 ≤ if IntKind.i64.wrap (j + 1) < IntKind.i64.wrap (n - 1) then IntKind.i64.wrap (j + 1) else IntKind.i64.wrap (n - 1)) then bif decide ((if IntKind.i64.wrap (j + 1) < IntKind.i64.wrap (n - 1) then IntKind.i64.wrap (j + 1) else IntKind.i64.wrap (n - 1)) < (↑kx : Int)) then oM (nx.set (if IntKind.i64.wrap (j - 1) > 0 then IntKind.i64.wrap (j - 1) else 0).toNat true)[(if IntKind.i64.wrap (j + 1) < IntKind.i64.wrap (n - 1) then IntKind.i64.wrap (j + 1) else IntKind.i64.wrap (n - 1)).toNat]? fun x => again [.sc (.int .u8 s), vi n, vi p, osW 0 kx, osW 1 kf, vi m, vi i, .os 2 0 0 kw true u true, vi a, vi (IntKind.i64.wrap (j + 1))] [some ⟨[.run .bool ((nx.set (if IntKind.i64.wrap (j - 1) > 0 then IntKind.i64.wrap (j - 1) else 0).toNat true).set (if IntKind.i64.wrap (j + 1) < IntKind.i64.wrap (n - 1) then IntKind.i64.wrap (j + 1) else IntKind.i64.wrap (n - 1)).toNat true)], false, tx, false, false, none⟩, some ⟨[.run (.int .i64) fs], false, t, false, false, none⟩, some ⟨[.run .bool nw], false, tw, false, false, none⟩] else none else none else none else none else again [.sc (.int .u8 s), vi n, vi p, osW 0 kx, osW 1 kf, vi m, vi i, .os 2 0 0 kw true u true, vi a, vi (IntKind.i64.wrap (j + 1))] [some ⟨[.run .bool nx], false, tx, false, false, none⟩, some ⟨[.run (.int .i64) fs], false, t, false, false, none⟩, some ⟨[.run .bool nw], false, tw, false, false, none⟩] else none else none else some (.ext 2, [.sc (.int .u8 s), vi n, vi p, osW 0 kx, osW 1 kf, vi m, vi i, .os 2 0 0 kw true u true, vi a, vi j], [some { c := [.run .bool nx], vr := false, ty := tx, fz := false, loose := false : Row }, some ⟨[.run (.int .i64) fs], false, t, false, false, none⟩, some { c := [.run .bool nw], vr := false, ty := tw, fz := false, loose := false : Row }])) := by kernel_rfl
def l7_14t (nx nw : List Bool) (fs : List Int) (t tx tw : TypeId) (s n p m i a : Int) (kx kf kw : Nat) (u : Bool) : Tree (Out × List AV × Hp) := .br (decide (kx = nx.length) && decide (kw = nw.length) && decide (a = nw.length) && decide (n = nw.length) && decide (nx.length = nw.length) && decide (nw.length ≤ 100)) (.leaf (.ext 2, [vint .u8 s, vi n, vi p, osW 0 kx, osW 1 kf, vi m, vi i, osV 2 kw u, vi a, vi a], [some (rowB ((List.range nw.length).foldl (Brn.dil1 nw.length nw) nx) tx), some (rowI fs t), some (rowB nw tw)])) .fail
def l7_14 (base : Nat) (kv : List AV) (H : Hp) : Tree (Out × List AV × Hp) := match Nat.beq base 0, kv, H with
  | true, [(.sc (.int .u8 s)), (.sc (.int .i64 n)), (.sc (.int .i64 p)), (.os 0 0 0 kx true false true), (.os 1 0 0 kf true false true), (.sc (.int .i64 m)), (.sc (.int .i64 i)), (.os 2 0 0 kw true u true), (.sc (.int .i64 a)), (.sc (.int .i64 0))], [some ⟨[.run .bool nx], false, tx, false, false, none⟩, some ⟨[.run (.int .i64) fs], false, t, false, false, none⟩, some ⟨[.run .bool nw], false, tw, false, false, none⟩] => l7_14t nx nw fs t tx tw s n p m i a kx kf kw u
  | _, _, _ => .fail
theorem l7_14_ok {T : Tab} (hT : TabOK T) (hlo : loopOf T.fn 7 14 = some (lpc T 7 14)) (h : ∀ (nx nw : List Bool) (fs : List Int) (t tx tw : TypeId) (s n p m i a : Int) (kx kf kw : Nat) (u : Bool) (r : Out × List AV × Hp), (l7_14t nx nw fs t tx tw s n p m i a kx kf kw u).val = some r → ∃ mm, lpRun T 7 14 0 (lpc T 7 14) mm [vint .u8 s, vi n, vi p, osW 0 kx, osW 1 kf, vi m, vi i, osV 2 kw u, vi a, vi 0] [some (rowB nx tx), some (rowI fs t), some (rowB nw tw)] = some r) : ∀ base kv H o kv' H', (l7_14 base kv H).val = some (o, kv', H') → LoopOK T 7 14 base kv H o kv' H' := by
  intro base kv H o kv' H' hv
  unfold l7_14 at hv
  split at hv
  · rename_i hb
    obtain rfl := Nat.eq_of_beq_eq_true hb
    exact loop_ok hT hlo (h _ _ _ _ _ _ _ _ _ _ _ _ _ _ _ _ _ hv)
  · cases hv
theorem nf48b (x : Bool) (l : List Bool) : evBody RB0 48 [lBo (x :: l)] [] = (bif room (0 + (x :: l).length) 1 then some (osW 0 (0 + (x :: l).length), [some ⟨[.run .bool (x :: l)], false, 4, false, false, none⟩]) else none) := by kernel_rfl
def c48t (l : List Bool) : Tree (AV × Hp) := .br (decide (0 < l.length) && decide (l.length ≤ 100)) (.leaf (osW 0 l.length, [some (rowB l 4)])) .fail
def c48 (args : List AV) (H : Hp) : Tree (AV × Hp) := match args, H with
  | [(.sl .bool l false)], [] => c48t l
  | _, _ => .fail
theorem c48_ok {T : Tab} (hT : TabOK T) (h : ∀ (l : List Bool) (r : AV × Hp), (c48t l).val = some r → evBody T 48 [lBo l] [] = some r) : ∀ args H v H', (c48 args H).val = some (v, H') → CallOK T 48 args H v H' := by
  intro args H v H' hv
  unfold c48 at hv
  split at hv
  · exact evBody_sound hT (h _ _ hv)
  · cases hv
theorem nl87 (again : Ag) (l : List Bool) (v : Bool) (i : Int) : lpStep RB0 87 2 0 (lpc RB0 87 2) again [lBo l, vb v, vi 0, vi l.length, vi i] [] = (bif decide (i < (↑l.length : Int)) then bif decide (0 ≤ i) then bif decide (i < (↑l.length : Int)) then oM l[i.toNat]? fun x => bif v == x then some (.ret, [.sl .bool l false, vb v, vi i, vi (↑l.length : Int), vi i], []) else again [.sl .bool l false, vb v, vi 0, vi (↑l.length : Int), vi (IntKind.i64.wrap (i + 1))] [] else none else none else some (.ext 0, [.sl .bool l false, vb v, vi 0, vi (↑l.length : Int), vi i], [])) := by kernel_rfl
def _root_.Brn.bIdx (l : List Bool) (v : Bool) : Int := bif l.any (fun x => v == x) then ((l.findIdx fun x => v == x : Nat) : Int) else -1
def l87_2t (l : List Bool) (v : Bool) (n : Int) : Tree (Out × List AV × Hp) := .br (decide (n = l.length) && decide (l.length ≤ 100)) (.br (l.any fun x => v == x) (.leaf (.ret, [lBo l, vb v, vi (Brn.bIdx l v), vi n, vi (Brn.bIdx l v)], [])) (.leaf (.ext 0, [lBo l, vb v, vi 0, vi n, vi n], []))) .fail
def l87_2 (base : Nat) (kv : List AV) (H : Hp) : Tree (Out × List AV × Hp) := match Nat.beq base 0, kv, H with
  | true, [(.sl .bool l false), (.sc (.bool v)), (.sc (.int .i64 0)), (.sc (.int .i64 n)), (.sc (.int .i64 0))], [] => l87_2t l v n
  | _, _, _ => .fail
theorem l87_2_ok {T : Tab} (hT : TabOK T) (hlo : loopOf T.fn 87 2 = some (lpc T 87 2)) (h : ∀ (l : List Bool) (v : Bool) (n : Int) (r : Out × List AV × Hp), (l87_2t l v n).val = some r → ∃ mm, lpRun T 87 2 0 (lpc T 87 2) mm [lBo l, vb v, vi 0, vi n, vi 0] [] = some r) : ∀ base kv H o kv' H', (l87_2 base kv H).val = some (o, kv', H') → LoopOK T 87 2 base kv H o kv' H' := by
  intro base kv H o kv' H' hv
  unfold l87_2 at hv
  split at hv
  · rename_i hb
    obtain rfl := Nat.eq_of_beq_eq_true hb
    exact loop_ok hT hlo (h _ _ _ _ hv)
  · cases hv
noncomputable def RB1 : Tab := ((RB0.addLoop 7 14 l7_14).addCall 48 c48).addLoop 87 2 l87_2
theorem nf87 (l : List Bool) (v : Bool) : evBody RB1 87 [lBo l, vb v] [] = (bif decide ((↑l.length : Int) = (↑l.length : Int)) && decide (l.length ≤ 100) then bif l.any fun x => v == x then some (vi (Brn.bIdx l v), []) else some (vi (-1), []) else none) := by kernel_rfl
def c87t (l : List Bool) (v : Bool) : Tree (AV × Hp) := .br (decide (l.length ≤ 100)) (.leaf (vi (Brn.bIdx l v), [])) .fail
def c87 (args : List AV) (H : Hp) : Tree (AV × Hp) := match args, H with
  | [(.sl .bool l false), (.sc (.bool v))], [] => c87t l v
  | _, _ => .fail
theorem c87_ok {T : Tab} (hT : TabOK T) (h : ∀ (l : List Bool) (v : Bool) (r : AV × Hp), (c87t l v).val = some r → evBody T 87 [lBo l, vb v] [] = some r) : ∀ args H v H', (c87 args H).val = some (v, H') → CallOK T 87 args H v H' := by
  intro args H v H' hv
  unfold c87 at hv
  split at hv
  · exact evBody_sound hT (h _ _ _ hv)
  · cases hv
noncomputable def RB2 : Tab := RB1.addCall 87 c87
theorem nf49 (l : List Bool) (v : Bool) : evBody RB2 49 [lBo l, vb v] [] = (bif decide (l.length ≤ 100) then some (vb (decide (Brn.bIdx l v ≥ 0)), []) else none) := by kernel_rfl
def c49t (l : List Bool) (v : Bool) : Tree (AV × Hp) := .br (decide (l.length ≤ 100)) (.leaf (vb (l.any fun x => v == x), [])) .fail
def c49 (args : List AV) (H : Hp) : Tree (AV × Hp) := match args, H with
  | [(.sl .bool l false), (.sc (.bool v))], [] => c49t l v
  | _, _ => .fail
theorem c49_ok {T : Tab} (hT : TabOK T) (h : ∀ (l : List Bool) (v : Bool) (r : AV × Hp), (c49t l v).val = some r → evBody T 49 [lBo l, vb v] [] = some r) : ∀ args H v H', (c49 args H).val = some (v, H') → CallOK T 49 args H v H' := by
  intro args H v H' hv
  unfold c49 at hv
  split at hv
  · exact evBody_sound hT (h _ _ _ hv)
  · cases hv
theorem nl7_8 (again : Ag) (nw : List Bool) (fs : List Int) (t tw : TypeId) (s n m i : Int) (kf kw : Nat) (u : Bool) : lpStep RB2 7 8 0 (lpc RB2 7 8) again [vint .u8 s, .dead, vi n, osV 0 kw u, osW 1 kf, vi m, vi i] [some (rowB nw tw), some (rowI fs t)] = (bif decide (i < m) then bif decide (0 ≤ i) then bif decide (i < (↑kf : Int)) then oM fs[i.toNat]? fun x => bif decide (x < 0) then some (.ret, [.sc (.int .u8 s), vb false, vi n, .os 0 0 0 kw true u true, osW 1 kf, vi m, vi i], [some ⟨[.run .bool nw], false, tw, false, false, none⟩, some ⟨[.run (.int .i64) fs], false, t, false, false, none⟩]) else bif decide (x ≥ n) then some (.ret, [.sc (.int .u8 s), vb false, vi n, .os 0 0 0 kw true u true, osW 1 kf, vi m, vi i], [some ⟨[.run .bool nw], false, tw, false, false, none⟩, some ⟨[.run (.int .i64) fs], false, t, false, false, none⟩]) else bif decide (0 < nw.length) && decide (nw.length ≤ 100) then bif decide (nw.length = nw.length) && decide (kw = nw.length) && decide ((↑kw : Int) = (↑nw.length : Int)) && decide (n = (↑nw.length : Int)) && decide (nw.length = nw.length) && decide (nw.length ≤ 100) then bif decide (0 ≤ x) then bif decide (x < (↑nw.length : Int)) then oM (List.foldl (Brn.dil1 nw.length nw) nw (List.range nw.length))[Int.toNat x]? fun x_1 => again [.sc (.int .u8 s), .dead, vi n, osW 0 nw.length, osW 1 kf, vi m, vi (IntKind.i64.wrap (i + 1))] [some ⟨[.run .bool ((List.foldl (Brn.dil1 nw.length nw) nw (List.range nw.length)).set (Int.toNat x) true)], false, 4, false, false, none⟩, some ⟨[.run (.int .i64) fs], false, t, false, false, none⟩] else none else none else none else none else none else none else some (.ext 0, [.sc (.int .u8 s), .dead, vi n, .os 0 0 0 kw true u true, osW 1 kf, vi m, vi i], [some { c := [.run .bool nw], vr := false, ty := tw, fz := false, loose := false : Row }, some ⟨[.run (.int .i64) fs], false, t, false, false, none⟩])) := by kernel_rfl
theorem nl7_8v (again : Ag) (nw : List Bool) (fs : List Int) (t tw : TypeId) (s n m i : Int) (kf kw : Nat) (u : Bool) : lpStep RB2 7 8 0 (lpc RB2 7 8) again [vint .u8 s, vb false, vi n, osV 0 kw u, osW 1 kf, vi m, vi i] [some (rowB nw tw), some (rowI fs t)] = (bif decide (i < m) then bif decide (0 ≤ i) then bif decide (i < (↑kf : Int)) then oM fs[i.toNat]? fun x => bif decide (x < 0) then some (.ret, [.sc (.int .u8 s), vb false, vi n, .os 0 0 0 kw true u true, osW 1 kf, vi m, vi i], [some ⟨[.run .bool nw], false, tw, false, false, none⟩, some ⟨[.run (.int .i64) fs], false, t, false, false, none⟩]) else bif decide (x ≥ n) then some (.ret, [.sc (.int .u8 s), vb false, vi n, .os 0 0 0 kw true u true, osW 1 kf, vi m, vi i], [some ⟨[.run .bool nw], false, tw, false, false, none⟩, some ⟨[.run (.int .i64) fs], false, t, false, false, none⟩]) else bif decide (0 < nw.length) && decide (nw.length ≤ 100) then bif decide (nw.length = nw.length) && decide (kw = nw.length) && decide ((↑kw : Int) = (↑nw.length : Int)) && decide (n = (↑nw.length : Int)) && decide (nw.length = nw.length) && decide (nw.length ≤ 100) then bif decide (0 ≤ x) then bif decide (x < (↑nw.length : Int)) then oM (List.foldl (Brn.dil1 nw.length nw) nw (List.range nw.length))[Int.toNat x]? fun x_1 => again [.sc (.int .u8 s), .dead, vi n, osW 0 nw.length, osW 1 kf, vi m, vi (IntKind.i64.wrap (i + 1))] [some ⟨[.run .bool ((List.foldl (Brn.dil1 nw.length nw) nw (List.range nw.length)).set (Int.toNat x) true)], false, 4, false, false, none⟩, some ⟨[.run (.int .i64) fs], false, t, false, false, none⟩] else none else none else none else none else none else none else some (.ext 0, [.sc (.int .u8 s), vb false, vi n, .os 0 0 0 kw true u true, osW 1 kf, vi m, vi i], [some { c := [.run .bool nw], vr := false, ty := tw, fz := false, loose := false : Row }, some ⟨[.run (.int .i64) fs], false, t, false, false, none⟩])) := by kernel_rfl
def l7_8t (nw : List Bool) (fs : List Int) (t tw : TypeId) (s n m : Int) (kf kw : Nat) : Tree (Out × List AV × Hp) := .br (decide (1 ≤ n) && decide (n ≤ 100) && decide (nw = List.replicate n.toNat false) && decide (kw = n.toNat) && decide (kf = fs.length) && decide (m = fs.length) && decide (1 ≤ fs.length) && decide (fs.length ≤ 100) && fs.all (fun p => decide (0 ≤ p) && decide (p < n))) (.leaf (.ext 0, [vint .u8 s, .dead, vi n, osW 0 kw, osW 1 kf, vi m, vi m], [some (rowB (Brn.burnB n.toNat fs) 4), some (rowI fs t)])) .fail
def l7_8 (base : Nat) (kv : List AV) (H : Hp) : Tree (Out × List AV × Hp) := match Nat.beq base 0, kv, H with
  | true, [(.sc (.int .u8 s)), (.sc (.bool false)), (.sc (.int .i64 n)), (.os 0 0 0 kw true true true), (.os 1 0 0 kf true false true), (.sc (.int .i64 m)), (.sc (.int .i64 0))], [some ⟨[.run .bool nw], false, tw, false, false, none⟩, some ⟨[.run (.int .i64) fs], false, t, false, false, none⟩] => l7_8t nw fs t tw s n m kf kw
  | _, _, _ => .fail
theorem l7_8_ok {T : Tab} (hT : TabOK T) (hlo : loopOf T.fn 7 8 = some (lpc T 7 8)) (h : ∀ (nw : List Bool) (fs : List Int) (t tw : TypeId) (s n m : Int) (kf kw : Nat) (r : Out × List AV × Hp), (l7_8t nw fs t tw s n m kf kw).val = some r → ∃ mm, lpRun T 7 8 0 (lpc T 7 8) mm [vint .u8 s, vb false, vi n, osV 0 kw true, osW 1 kf, vi m, vi 0] [some (rowB nw tw), some (rowI fs t)] = some r) : ∀ base kv H o kv' H', (l7_8 base kv H).val = some (o, kv', H') → LoopOK T 7 8 base kv H o kv' H' := by
  intro base kv H o kv' H' hv
  unfold l7_8 at hv
  split at hv
  · rename_i hb
    obtain rfl := Nat.eq_of_beq_eq_true hb
    exact loop_ok hT hlo (h _ _ _ _ _ _ _ _ _ _ hv)
  · cases hv
abbrev hZ (n : Int) : Row := ⟨[.sc (.int .i64 n), .sc (.slice none 0 0)], true, 24, false, false, none⟩
abbrev hO (n : Int) (r k : Nat) : Row := ⟨[.sc (.int .i64 n), .os r 0 0 k true false true], true, 24, false, true, none⟩
abbrev wR (ws : Ws) (t : TypeId) : Row := ⟨[.run (.pair .i64) ws], false, t, false, false, none⟩
theorem nr44_1 (k : Unit) : lpRun RB0 44 3 0 (lpc RB0 44 3) 12 [vi 1, ps 0, ps 1, vi 1] [some (hZ 0), some (hZ 1)] = (some (.ext 0, [vi 1, .ps 0 0 0 0, .ps 1 0 0 0, vi 1], [some ⟨[vi 0, .sc (.slice none 0 0)], true, 24, false, false, none⟩, some ⟨[vi 1, .sc (.slice none 0 0)], true, 24, false, false, none⟩])) := by kernel_rfl
theorem nr44_2 (k : Unit) : lpRun RB0 44 3 0 (lpc RB0 44 3) 12 [vi 2, ps 0, ps 1, vi 1] [some (hZ 0), some (hZ 2)] = (some (.ext 0, [vi 2, .ps 0 0 0 0, .ps 1 0 0 0, vi 2], [some ⟨[vi 0, .sc (.slice none 0 0)], true, 24, false, false, none⟩, some ⟨[vi 2, osW 2 1], true, 24, false, true, none⟩, some ⟨[.run (.pair .i64) [(0, 1)]], false, 66, false, false, none⟩])) := by kernel_rfl
theorem nr44_3 (k : Unit) : lpRun RB0 44 3 0 (lpc RB0 44 3) 12 [vi 3, ps 0, ps 1, vi 1] [some (hZ 0), some (hZ 3)] = (some (.ext 0, [vi 3, .ps 0 0 0 0, .ps 1 0 0 0, vi 3], [some ⟨[vi 0, .sc (.slice none 0 0)], true, 24, false, false, none⟩, some ⟨[vi 3, osW 2 2], true, 24, false, true, none⟩, some ⟨[.run (.pair .i64) [(0, 1), (1, 2)]], false, 66, false, false, none⟩])) := by kernel_rfl
theorem nr44_4 (k : Unit) : lpRun RB0 44 3 0 (lpc RB0 44 3) 12 [vi 4, ps 0, ps 1, vi 1] [some (hZ 0), some (hZ 4)] = (some (.ext 0, [vi 4, .ps 0 0 0 0, .ps 1 0 0 0, vi 4], [some ⟨[vi 0, .sc (.slice none 0 0)], true, 24, false, false, none⟩, some ⟨[vi 4, osW 2 3], true, 24, false, true, none⟩, some ⟨[.run (.pair .i64) [(0, 1), (1, 2), (2, 3)]], false, 66, false, false, none⟩])) := by kernel_rfl
theorem nr44_5 (k : Unit) : lpRun RB0 44 3 0 (lpc RB0 44 3) 12 [vi 5, ps 0, ps 1, vi 1] [some (hZ 0), some (hZ 5)] = (some (.ext 0, [vi 5, .ps 0 0 0 0, .ps 1 0 0 0, vi 5], [some ⟨[vi 0, .sc (.slice none 0 0)], true, 24, false, false, none⟩, some ⟨[vi 5, osW 2 4], true, 24, false, true, none⟩, some ⟨[.run (.pair .i64) [(0, 1), (1, 2), (2, 3), (3, 4)]], false, 66, false, false, none⟩])) := by kernel_rfl
theorem nr44_6 (k : Unit) : lpRun RB0 44 3 0 (lpc RB0 44 3) 12 [vi 6, ps 0, ps 1, vi 1] [some (hZ 0), some (hZ 6)] = (some (.ext 0, [vi 6, .ps 0 0 0 0, .ps 1 0 0 0, vi 6], [some ⟨[vi 0, .sc (.slice none 0 0)], true, 24, false, false, none⟩, some ⟨[vi 6, osW 2 5], true, 24, false, true, none⟩, some ⟨[.run (.pair .i64) [(0, 1), (1, 2), (2, 3), (3, 4), (4, 5)]], false, 66, false, false, none⟩])) := by kernel_rfl
theorem nr44_7 (k : Unit) : lpRun RB0 44 3 0 (lpc RB0 44 3) 12 [vi 7, ps 0, ps 1, vi 1] [some (hZ 0), some (hZ 7)] = (some (.ext 0, [vi 7, .ps 0 0 0 0, .ps 1 0 0 0, vi 7], [some ⟨[vi 0, .sc (.slice none 0 0)], true, 24, false, false, none⟩, some ⟨[vi 7, osW 2 6], true, 24, false, true, none⟩, some ⟨[.run (.pair .i64) [(0, 1), (1, 2), (2, 3), (3, 4), (4, 5), (5, 6)]], false, 66, false, false, none⟩])) := by kernel_rfl
theorem nr44_8 (k : Unit) : lpRun RB0 44 3 0 (lpc RB0 44 3) 12 [vi 8, ps 0, ps 1, vi 1] [some (hZ 0), some (hZ 8)] = (some (.ext 0, [vi 8, .ps 0 0 0 0, .ps 1 0 0 0, vi 8], [some ⟨[vi 0, .sc (.slice none 0 0)], true, 24, false, false, none⟩, some ⟨[vi 8, osW 2 7], true, 24, false, true, none⟩, some ⟨[.run (.pair .i64) [(0, 1), (1, 2), (2, 3), (3, 4), (4, 5), (5, 6), (6, 7)]], false, 66, false, false, none⟩])) := by kernel_rfl
theorem nr44_9 (k : Unit) : lpRun RB0 44 3 0 (lpc RB0 44 3) 12 [vi 9, ps 0, ps 1, vi 1] [some (hZ 0), some (hZ 9)] = (some (.ext 0, [vi 9, .ps 0 0 0 0, .ps 1 0 0 0, vi 9], [some ⟨[vi 0, .sc (.slice none 0 0)], true, 24, false, false, none⟩, some ⟨[vi 9, osW 2 8], true, 24, false, true, none⟩, some ⟨[.run (.pair .i64) [(0, 1), (1, 2), (2, 3), (3, 4), (4, 5), (5, 6), (6, 7), (7, 8)]], false, 66, false, false, none⟩])) := by kernel_rfl
def l44_3t (m m2 : Int) : Tree (Out × List AV × Hp) := .br (decide (m2 = m) && decide (1 ≤ m) && decide (m ≤ 9)) (.br (decide (m = 1)) (.leaf (.ext 0, [vi m, ps 0, ps 1, vi m], [some (hZ 0), some (hZ m)])) (.leaf (.ext 0, [vi m, ps 0, ps 1, vi m], [some (hZ 0), some (hO m 2 (Brn.rowW m.toNat).length), some (wR (Brn.rowW m.toNat) 66)]))) .fail
def l44_3 (base : Nat) (kv : List AV) (H : Hp) : Tree (Out × List AV × Hp) := match Nat.beq base 0, kv, H with
  | true, [(.sc (.int .i64 m)), (.ps 0 0 0 0), (.ps 1 0 0 0), (.sc (.int .i64 1))], [some ⟨[.sc (.int .i64 0), .sc (.slice none 0 0)], true, 24, false, false, none⟩, some ⟨[.sc (.int .i64 m2), .sc (.slice none 0 0)], true, 24, false, false, none⟩] => l44_3t m m2
  | _, _, _ => .fail
theorem l44_3_ok {T : Tab} (hT : TabOK T) (hlo : loopOf T.fn 44 3 = some (lpc T 44 3)) (h : ∀ (m m2 : Int) (r : Out × List AV × Hp), (l44_3t m m2).val = some r → ∃ mm, lpRun T 44 3 0 (lpc T 44 3) mm [vi m, ps 0, ps 1, vi 1] [some (hZ 0), some (hZ m2)] = some r) : ∀ base kv H o kv' H', (l44_3 base kv H).val = some (o, kv', H') → LoopOK T 44 3 base kv H o kv' H' := by
  intro base kv H o kv' H' hv
  unfold l44_3 at hv
  split at hv
  · rename_i hb
    obtain rfl := Nat.eq_of_beq_eq_true hb
    exact loop_ok hT hlo (h _ _ _ hv)
  · cases hv
noncomputable def RB3 : Tab := RB0.addLoop 44 3 l44_3
theorem nf44 (m : Int) : evBody RB3 44 [vi m] [] = (bif decide (m = m) && decide (1 ≤ m) && decide (m ≤ 9) then bif decide (m = 1) then some (.agg [vi m, .sc (.slice none 0 0)] false, []) else some (.agg [vi m, osW 0 (List.length (Brn.rowW m.toNat))] true, [some ⟨[.run (.pair .i64) (Brn.rowW m.toNat)], false, 66, false, false, none⟩]) else none) := by kernel_rfl
def c44t (m : Int) : Tree (AV × Hp) := .br (decide (1 ≤ m) && decide (m ≤ 9)) (.br (decide (m = 1)) (.leaf (.agg [vi m, .sc (.slice none 0 0)] false, [])) (.leaf (.agg [vi m, osW 0 (Brn.rowW m.toNat).length] true, [some (wR (Brn.rowW m.toNat) 66)]))) .fail
def c44 (args : List AV) (H : Hp) : Tree (AV × Hp) := match args, H with
  | [(.sc (.int .i64 m))], [] => c44t m
  | _, _ => .fail
theorem c44_ok {T : Tab} (hT : TabOK T) (h : ∀ (m : Int) (r : AV × Hp), (c44t m).val = some r → evBody T 44 [vi m] [] = some r) : ∀ args H v H', (c44 args H).val = some (v, H') → CallOK T 44 args H v H' := by
  intro args H v H' hv
  unfold c44 at hv
  split at hv
  · exact evBody_sound hT (h _ _ hv)
  · cases hv
end Go.Ev.Burn
namespace Go.Ev.Burn
open Go Go.Ev
set_option maxRecDepth 1000000
set_option linter.unusedVariables false
set_option linter.unusedSimpArgs false
theorem nestR_ok {T : Tab} (h : TabOK T) : TabOK { T with nest := true } :=
  ⟨fun f a H v H' hv => by refine CallOK.tab ?_ ?_ (h.calls f a H v H' hv) <;> rfl, fun f l b k H o k' H' hv => by refine LoopOK.tab ?_ ?_ ?_ ?_ (h.loops f l b k H o k' H' hv) <;> rfl, h.fns, h.mixed⟩
theorem RB0_ok : TabOK RB0 := nestR_ok T0_ok
theorem mxR (a b : Int) : (if a > b then a else b) = max b a := by rw [Int.max_def]; split <;> split <;> omega
theorem mnR (L x : Int) : (if x < L then x else L) = min L x := by rw [Int.min_def]; split <;> split <;> omega
theorem getR {l : List Bool} {i : Nat} (h : i < l.length) : l[i]? = some (l.getD i false) := by
  rw [List.getD_eq_getElem?_getD, List.getElem?_eq_getElem h]; rfl
theorem l7_14_run : ∀ base kv H o kv' H', (l7_14 base kv H).val = some (o, kv', H') → LoopOK RB0 7 14 base kv H o kv' H' := l7_14_ok RB0_ok (by kernel_rfl) (by
  intro nx nw fs t tx tw s n p m i a kx kf kw u r hv
  obtain ⟨hl, hv2⟩ := guard_val hv
  simp only [Bool.and_eq_true, decide_eq_true_eq] at hl
  obtain ⟨⟨⟨⟨⟨rfl, rfl⟩, rfl⟩, rfl⟩, hlen⟩, h100⟩ := hl
  rw [leaf_val hv2]
  exact steps_of (T := RB0) (fid := 7) (lid := 14) (base := 0) (c := lpc RB0 7 14) nw.length (fun j => [vint .u8 s, vi nw.length, vi p, osW 0 nx.length, osW 1 kf, vi m, vi i, osV 2 nw.length u, vi nw.length, vi (j : Nat)])
    (fun j => [some (rowB ((List.range j).foldl (Brn.dil1 nw.length nw) nx) tx), some (rowI fs t), some (rowB nw tw)]) _
    (fun j hj again => by
      have hL : ((List.range j).foldl (Brn.dil1 nw.length nw) nx).length = nw.length := by rw [Brn.dilf_len]; exact hlen
      have hb := getR hj
      have e := nl7_14 again ((List.range j).foldl (Brn.dil1 nw.length nw) nx) nw fs t tx tw s nw.length p m i nw.length (j : Nat) nx.length kf nw.length u
      rw [e, List.range_succ, List.foldl_append, List.foldl_cons, List.foldl_nil]
      simp only [dec_lt hj, dec_ge, cond_true, toNat_cast, hb, oM, mxR, mnR]
      rw [wrapi (x := (j : Int) - 1) (by omega) (by omega), wrapi (x := (j : Int) + 1) (by omega) (by omega), wrapi (x := (nw.length : Int) - 1) (by omega) (by omega)]
      have t1 : (max 0 ((j : Int) - 1)).toNat = j - 1 := by omega
      have t2 : (min ((nw.length : Int) - 1) ((j : Int) + 1)).toNat = min (nw.length - 1) (j + 1) := by omega
      generalize hLL : (List.range j).foldl (Brn.dil1 nw.length nw) nx = LL at hL ⊢
      have g1 := getR (l := LL) (i := j - 1) (by omega)
      have g2 := getR (l := LL.set (j - 1) true) (i := min (nw.length - 1) (j + 1)) (by rw [List.length_set]; omega)
      unfold Brn.dil1
      cases hc : nw.getD j false with
      | true =>
        simp only [cond_true, t1, t2, g1, g2, oM, decide_eq_true (show (0 : Int) ≤ max 0 ((j : Int) - 1) by omega), decide_eq_true (show max 0 ((j : Int) - 1) < (nx.length : Int) by omega), decide_eq_true (show (0 : Int) ≤ min ((nw.length : Int) - 1) ((j : Int) + 1) by omega), decide_eq_true (show min ((nw.length : Int) - 1) ((j : Int) + 1) < (nx.length : Int) by omega)]
        rfl
      | false =>
        simp only [cond_false]
        rfl)
    (fun again => by
      have e := nl7_14 again ((List.range nw.length).foldl (Brn.dil1 nw.length nw) nx) nw fs t tx tw s nw.length p m i nw.length (nw.length : Nat) nx.length kf nw.length u
      rw [e]
      simp only [dec_ll, cond_false]))
theorem c48_run : ∀ args H v H', (c48 args H).val = some (v, H') → CallOK RB0 48 args H v H' := c48_ok RB0_ok (by
  intro l r hv
  obtain ⟨hl, hv2⟩ := guard_val hv
  simp only [Bool.and_eq_true, decide_eq_true_eq] at hl
  cases l with
  | nil => exact absurd hl.1 (by simp)
  | cons x l =>
    rw [leaf_val hv2, nf48b, room_ok (by omega) (by omega)]
    simp only [cond_true, Nat.zero_add])
theorem l87_2_run : ∀ base kv H o kv' H', (l87_2 base kv H).val = some (o, kv', H') → LoopOK RB0 87 2 base kv H o kv' H' := l87_2_ok RB0_ok (by kernel_rfl) (by
  intro l v n r hv
  obtain ⟨hl, hv2⟩ := guard_val hv
  simp only [Bool.and_eq_true, decide_eq_true_eq] at hl
  obtain ⟨rfl, h100⟩ := hl
  obtain ⟨mm, hm⟩ := scan_of (T := RB0) (fid := 87) (lid := 2) (base := 0) (c := lpc RB0 87 2) l (fun x => v == x) (fun i => [lBo l, vb v, vi 0, vi l.length, vi i]) [] (fun i => (.ret, [lBo l, vb v, vi (i : Nat), vi l.length, vi (i : Nat)], [])) (.ext 0, [lBo l, vb v, vi 0, vi l.length, vi l.length], [])
    (fun i x hx hi again => by
      rw [nl87]
      simp only [dec_lt hi, dec_ge, cond_true, toNat_cast, hx, oM]
      rw [wrap_succ (by omega)])
    (fun again => by
      rw [nl87]
      simp only [dec_ll, cond_false])
  refine ⟨mm, hm.trans ?_⟩
  unfold Brn.bIdx at hv2
  rcases br_val hv2 with ⟨h, hv⟩ | ⟨h, hv⟩
  · rw [h] at hv ⊢
    rw [leaf_val hv]; rfl
  · rw [h, leaf_val hv]; rfl)
theorem RB1_ok : TabOK RB1 := by
  have h := RB0_ok
  have h := h.addLoop (g := 7) (lid := 14) (r := l7_14) fun b k H o k' H' hv => by refine LoopOK.tab ?_ ?_ ?_ ?_ (l7_14_run b k H o k' H' hv) <;> rfl
  have h := h.addCall (g := 48) (r := c48) fun a H v H' hv => by refine CallOK.tab ?_ ?_ (c48_run a H v H' hv) <;> rfl
  have h := h.addLoop (g := 87) (lid := 2) (r := l87_2) fun b k H o k' H' hv => by refine LoopOK.tab ?_ ?_ ?_ ?_ (l87_2_run b k H o k' H' hv) <;> rfl
  exact h
theorem c87_run : ∀ args H v H', (c87 args H).val = some (v, H') → CallOK RB1 87 args H v H' := c87_ok RB1_ok (by
  intro l v r hv
  obtain ⟨hl, hv2⟩ := guard_val hv
  rw [leaf_val hv2, nf87, hl]
  unfold Brn.bIdx
  cases l.any fun x => v == x <;> simp)
theorem RB2_ok : TabOK RB2 := RB1_ok.addCall fun a H v H' hv => by refine CallOK.tab ?_ ?_ (c87_run a H v H' hv) <;> rfl
theorem c49_run : ∀ args H v H', (c49 args H).val = some (v, H') → CallOK RB2 49 args H v H' := c49_ok RB2_ok (by
  intro l v r hv
  obtain ⟨hl, hv2⟩ := guard_val hv
  rw [leaf_val hv2, nf49, cond_t hl]
  have : decide (Brn.bIdx l v ≥ 0) = l.any fun x => v == x := by
    unfold Brn.bIdx
    cases h : l.any fun x => v == x with
    | true => exact decide_eq_true (Int.natCast_nonneg _)
    | false => rfl
  rw [this])
def tyR (tw : TypeId) (i : Nat) : TypeId := match i with
  | 0 => tw
  | _ => 4
def dzR (i : Nat) : AV := match i with
  | 0 => vb false
  | _ => .dead
theorem nl7_8z (again : Ag) (nw : List Bool) (fs : List Int) (t tw : TypeId) (s n m i : Int) (kf kw : Nat) (u : Bool) (j : Nat) (hi : i < m) : lpStep RB2 7 8 0 (lpc RB2 7 8) again [vint .u8 s, dzR j, vi n, osV 0 kw u, osW 1 kf, vi m, vi i] [some (rowB nw tw), some (rowI fs t)] = lpStep RB2 7 8 0 (lpc RB2 7 8) again [vint .u8 s, .dead, vi n, osV 0 kw u, osW 1 kf, vi m, vi i] [some (rowB nw tw), some (rowI fs t)] := by
  cases j with
  | succ j => rfl
  | zero =>
    show lpStep RB2 7 8 0 (lpc RB2 7 8) again [vint .u8 s, vb false, vi n, osV 0 kw u, osW 1 kf, vi m, vi i] [some (rowB nw tw), some (rowI fs t)] = _
    rw [nl7_8, nl7_8v, decide_eq_true hi]
    rfl
theorem l7_8_run : ∀ base kv H o kv' H', (l7_8 base kv H).val = some (o, kv', H') → LoopOK RB2 7 8 base kv H o kv' H' := l7_8_ok RB2_ok (by kernel_rfl) (by
  intro nw fs t tw s n m kf kw r hv
  obtain ⟨hl, hv2⟩ := guard_val hv
  simp only [Bool.and_eq_true, decide_eq_true_eq, List.all_eq_true] at hl
  obtain ⟨⟨⟨⟨⟨⟨⟨⟨h1, h100⟩, rfl⟩, rfl⟩, rfl⟩, rfl⟩, hf1⟩, hf100⟩, hin⟩ := hl
  obtain ⟨n, rfl⟩ := Int.eq_ofNat_of_zero_le (show 0 ≤ n by omega)
  rw [leaf_val hv2]
  rw [toNat_cast] at *
  have hlen : ∀ l : List Int, (Brn.burnB n l).length = n := fun l => by
    unfold Brn.burnB
    have : ∀ (l : List Int) (b : List Bool), (l.foldl (Brn.stepB n) b).length = b.length := fun l => by
      induction l with
      | nil => intro b; rfl
      | cons x l ih => intro b; rw [List.foldl_cons, ih, Brn.stepB_len]
    rw [this]; simp
  have key := steps_of (T := RB2) (fid := 7) (lid := 8) (base := 0) (c := lpc RB2 7 8) fs.length (fun j => [vint .u8 s, dzR j, vi n, osV 0 n (Nat.beq j 0), osW 1 fs.length, vi fs.length, vi (j : Nat)])
    (fun j => [some (rowB (Brn.burnB n (fs.take j)) (tyR tw j)), some (rowI fs t)]) (.ext 0, [vint .u8 s, .dead, vi n, osW 0 n, osW 1 fs.length, vi fs.length, vi fs.length], [some (rowB (Brn.burnB n fs) 4), some (rowI fs t)])
    (fun j hj again => by
      have hL := hlen (fs.take j)
      obtain ⟨x, hx, hxm⟩ : ∃ x, fs[j]? = some x ∧ x ∈ fs := ⟨fs[j], List.getElem?_eq_getElem hj, List.getElem_mem hj⟩
      obtain ⟨x0, x1⟩ := hin x hxm
      have e := nl7_8 again (Brn.burnB n (fs.take j)) fs t (tyR tw j) s n fs.length (j : Nat) fs.length n (Nat.beq j 0)
      have hs : Brn.burnB n (fs.take (j + 1)) = Brn.stepB n (Brn.burnB n (fs.take j)) x := by
        unfold Brn.burnB
        rw [List.take_add_one, hx, List.foldl_append]; rfl
      rw [hs]
      generalize Brn.burnB n (fs.take j) = nw at hL e ⊢
      have hd : ((List.range nw.length).foldl (Brn.dil1 nw.length nw) nw).length = nw.length := Brn.dilf_len _ _ _ _
      have g1 := getR (l := (List.range nw.length).foldl (Brn.dil1 nw.length nw) nw) (i := x.toNat) (by omega)
      refine (nl7_8z again nw fs t (tyR tw j) s n fs.length (j : Nat) fs.length n (Nat.beq j 0) j (by omega)).trans ?_
      rw [e]
      simp only [dec_lt hj, dec_ge, cond_true, cond_false, toNat_cast, hx, oM, g1, decide_eq_false (show ¬ x < 0 by omega), decide_eq_false (show ¬ x ≥ (n : Int) by omega), decide_eq_true (show 0 < nw.length by omega), decide_eq_true (show nw.length ≤ 100 by omega), decide_eq_true (show n = nw.length by omega), decide_eq_true (show (n : Int) = (nw.length : Int) by omega), decide_true, Bool.and_self, decide_eq_true x0, decide_eq_true (show x < (nw.length : Int) by omega)]
      rw [wrap_succ (by omega), hL]
      rfl)
    (fun again => by
      rw [List.take_length]
      have e := nl7_8 again (Brn.burnB n fs) fs t (tyR tw fs.length) s n fs.length (fs.length : Nat) fs.length n (Nat.beq fs.length 0)
      have hz : dzR fs.length = .dead := by cases hfl : fs.length with
        | zero => omega
        | succ k => rfl
      rw [hz, e]
      simp only [dec_ll, cond_false]
      cases hfl : fs.length with
      | zero => omega
      | succ k => rfl)
  exact key)
theorem rowW_len (m : Nat) : (Brn.rowW m).length = m - 1 := by simp [Brn.rowW]
theorem l44_3_run : ∀ base kv H o kv' H', (l44_3 base kv H).val = some (o, kv', H') → LoopOK RB0 44 3 base kv H o kv' H' := l44_3_ok RB0_ok (by kernel_rfl) (by
  intro m m2 r hv
  obtain ⟨hl, hv2⟩ := guard_val hv
  simp only [Bool.and_eq_true, decide_eq_true_eq] at hl
  obtain ⟨⟨rfl, h1⟩, h9⟩ := hl
  refine ⟨12, ?_⟩
  obtain rfl | rfl | rfl | rfl | rfl | rfl | rfl | rfl | rfl : m2 = 1 ∨ m2 = 2 ∨ m2 = 3 ∨ m2 = 4 ∨ m2 = 5 ∨ m2 = 6 ∨ m2 = 7 ∨ m2 = 8 ∨ m2 = 9 := by omega
  · rw [nr44_1 ()]; exact hv2
  · rw [nr44_2 ()]; exact hv2
  · rw [nr44_3 ()]; exact hv2
  · rw [nr44_4 ()]; exact hv2
  · rw [nr44_5 ()]; exact hv2
  · rw [nr44_6 ()]; exact hv2
  · rw [nr44_7 ()]; exact hv2
  · rw [nr44_8 ()]; exact hv2
  · rw [nr44_9 ()]; exact hv2)
theorem RB3_ok : TabOK RB3 := RB0_ok.addLoop fun b k H o k' H' hv => by refine LoopOK.tab ?_ ?_ ?_ ?_ (l44_3_run b k H o k' H' hv) <;> rfl
theorem c44_run : ∀ args H v H', (c44 args H).val = some (v, H') → CallOK RB3 44 args H v H' := c44_ok RB3_ok (by
  intro m r hv
  obtain ⟨hl, hv2⟩ := guard_val hv
  rw [nf44]
  rw [Bool.and_eq_true] at hl
  rw [decide_eq_true (rfl : m = m), hl.1, hl.2]
  simp only [Bool.and_self, cond_true]
  rcases br_val hv2 with ⟨h, hv⟩ | ⟨h, hv⟩ <;> (rw [h, leaf_val hv]; rfl))
end Go.Ev.Burn
