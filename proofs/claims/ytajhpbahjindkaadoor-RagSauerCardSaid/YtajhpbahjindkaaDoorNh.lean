/- The law RagSauer: tables and normal forms. -/
import Derived.Test.YtajhpbahjindkaaDoorNc
import Derived.Test.YtajhpbahjindkaaDoorRk
import Derived.Test.YtajhpbahjindkaaDoorRp
import Derived.Test.YtajhpbahjindkaaDoorNa
import Derived.Test.YtajhpbahjindkaaDoorNg
import Derived.Test.YtajhpbahjindkaaDoorRi
set_option linter.unusedVariables false
set_option linter.unusedSimpArgs false
namespace Rgg
open Go
def mxF (l : List ByteArray) (m : Int) : Int := l.foldl (fun n x => if (x.size : Int) > n then (x.size : Int) else n) m
def pcL (d : Int) (i : Nat) : Nat := ((List.range i).filter fun s => decide (((word s).size : Int) ≤ d)).length
end Rgg
namespace Go.Ev.Rag
open Go Go.Ev
set_option maxRecDepth 1000000
set_option maxHeartbeats 0
set_option linter.unusedVariables false
def c57t (s : Int) : Tree (AV × Hp) := .br (decide (0 ≤ s) && decide (s < 32)) (.leaf (vi ((Rgg.word s.toNat).size : Nat), [])) .fail
def c57 (args : List AV) (H : Hp) : Tree (AV × Hp) := match args, H with
  | [(.sc (.int .u64 s))], [] => c57t s
  | _, _ => .fail
theorem c57_ok {T : Tab} (hT : TabOK T) (h : ∀ (s : Int) (r : AV × Hp), (c57t s).val = some r → evBody T 57 [vint .u64 s] [] = some r) : ∀ args H v H', (c57 args H).val = some (v, H') → CallOK T 57 args H v H' := by
  intro args H v H' hv
  unfold c57 at hv
  split at hv
  · exact evBody_sound hT (h _ _ hv)
  · cases hv
noncomputable def Sa1 : Tab := ((((((T0).addCall 34 c34).addCall 35 c35).addCall 55 c55).addCall 19 c19).addCall 28 c28).addCall 57 c57
noncomputable def Sa2 : Tab := Sa1.addCall 16 c16t
theorem nl13_8 (again : Ag) (K d e m q i : Int) (l al : List ByteArray) (ty ty2 : TypeId) : lpStep Sa2 13 8 0 (lpc Sa2 13 8) again [vi K, osW 0 l.length, vi d, vi e, vi m, osW 1 al.length, vi q, vi i] [some (rowS l ty), some (rowS al ty2)] = (bif decide (i < q) then bif decide (0 ≤ i) then bif decide (i < (↑al.length : Int)) then oM al[i.toNat]? fun x => again [vi K, osW 0 l.length, vi d, vi e, vi (if (↑(ByteArray.size x) : Int) > m then (↑(ByteArray.size x) : Int) else m), osW 1 al.length, vi q, vi (IntKind.i64.wrap (i + 1))] [some { c := [.run .str l], vr := false, ty := ty, fz := false, loose := false : Row }, some ⟨[.run .str al], false, ty2, false, false, none⟩] else none else none else some (.ext 0, [vi K, osW 0 l.length, vi d, vi e, vi m, osW 1 al.length, vi q, vi i], [some { c := [.run .str l], vr := false, ty := ty, fz := false, loose := false : Row }, some { c := [.run .str al], vr := false, ty := ty2, fz := false, loose := false : Row }])) := by kernel_rfl
theorem nl13_17 (again : Ag) (d e b w q i : Int) (l : List ByteArray) (ty : TypeId) : lpStep Sa2 13 17 0 (lpc Sa2 13 17) again [osW 0 l.length, vi d, vi e, vi b, vi w, vi q, vi i] [some (rowS l ty)] = (bif decide (i < q) then bif decide (0 ≤ IntKind.u64.wrap i) && decide (IntKind.u64.wrap i < 32) then bif decide ((↑(Rgg.word (IntKind.u64.wrap i).toNat).size : Int) ≤ d) then again [osW 0 l.length, vi d, vi e, vi b, vi (IntKind.i64.wrap (w + 1)), vi q, vi (IntKind.i64.wrap (i + 1))] [some { c := [.run .str l], vr := false, ty := ty, fz := false, loose := false : Row }] else again [osW 0 l.length, vi d, vi e, vi b, vi w, vi q, vi (IntKind.i64.wrap (i + 1))] [some { c := [.run .str l], vr := false, ty := ty, fz := false, loose := false : Row }] else none else some (.ext 2, [osW 0 l.length, vi d, vi e, vi b, vi w, vi q, vi i], [some { c := [.run .str l], vr := false, ty := ty, fz := false, loose := false : Row }])) := by kernel_rfl
def l13_8t (K d e m q : Int) (l al : List ByteArray) (k k2 : Nat) (ty ty2 : TypeId) : Tree (Out × List AV × Hp) := .br (decide (k = l.length) && decide (k2 = al.length) && decide (q = (al.length : Int)) && sm al && Rgg.szs al && decide (m = 0)) (.leaf (.ext 0, [vi K, osW 0 l.length, vi d, vi e, vi (Rgg.mxF al 0), osW 1 al.length, vi al.length, vi al.length], [some (rowS l ty), some (rowS al ty2)])) .fail
def l13_8 (base : Nat) (kv : List AV) (H : Hp) : Tree (Out × List AV × Hp) := match Nat.beq base 0, kv, H with
  | true, [(.sc (.int .i64 K)), (.os 0 0 0 k true false true), (.sc (.int .i64 d)), (.sc (.int .i64 e)), (.sc (.int .i64 m)), (.os 1 0 0 k2 true false true), (.sc (.int .i64 q)), (.sc (.int .i64 0))], [some ⟨[.run .str l], false, ty, false, false, none⟩, some ⟨[.run .str al], false, ty2, false, false, none⟩] => l13_8t K d e m q l al k k2 ty ty2
  | _, _, _ => .fail
theorem l13_8_ok {T : Tab} (hT : TabOK T) (hlo : loopOf T.fn 13 8 = some (lpc T 13 8)) (h : ∀ (K d e m q : Int) (l al : List ByteArray) (k k2 : Nat) (ty ty2 : TypeId) (r : Out × List AV × Hp), (l13_8t K d e m q l al k k2 ty ty2).val = some r → ∃ mm, lpRun T 13 8 0 (lpc T 13 8) mm [vi K, osW 0 k, vi d, vi e, vi m, osW 1 k2, vi q, vi 0] [some (rowS l ty), some (rowS al ty2)] = some r) : ∀ base kv H o kv' H', (l13_8 base kv H).val = some (o, kv', H') → LoopOK T 13 8 base kv H o kv' H' := by
  intro base kv H o kv' H' hv
  unfold l13_8 at hv
  split at hv
  · rename_i hb
    obtain rfl := Nat.eq_of_beq_eq_true hb
    exact loop_ok hT hlo (h _ _ _ _ _ _ _ _ _ _ _ _ hv)
  · cases hv
def l13_17t (d e b w q : Int) (l : List ByteArray) (k : Nat) (ty : TypeId) : Tree (Out × List AV × Hp) := .br (decide (k = l.length) && decide (0 ≤ q) && decide (q ≤ 32) && decide (w = 0)) (.leaf (.ext 2, [osW 0 l.length, vi d, vi e, vi b, vi (Rgg.pcL d q.toNat : Nat), vi q, vi q], [some (rowS l ty)])) .fail
def l13_17 (base : Nat) (kv : List AV) (H : Hp) : Tree (Out × List AV × Hp) := match Nat.beq base 0, kv, H with
  | true, [(.os 0 0 0 k true false true), (.sc (.int .i64 d)), (.sc (.int .i64 e)), (.sc (.int .i64 b)), (.sc (.int .i64 w)), (.sc (.int .i64 q)), (.sc (.int .i64 0))], [some ⟨[.run .str l], false, ty, false, false, none⟩] => l13_17t d e b w q l k ty
  | _, _, _ => .fail
theorem l13_17_ok {T : Tab} (hT : TabOK T) (hlo : loopOf T.fn 13 17 = some (lpc T 13 17)) (h : ∀ (d e b w q : Int) (l : List ByteArray) (k : Nat) (ty : TypeId) (r : Out × List AV × Hp), (l13_17t d e b w q l k ty).val = some r → ∃ mm, lpRun T 13 17 0 (lpc T 13 17) mm [osW 0 k, vi d, vi e, vi b, vi w, vi q, vi 0] [some (rowS l ty)] = some r) : ∀ base kv H o kv' H', (l13_17 base kv H).val = some (o, kv', H') → LoopOK T 13 17 base kv H o kv' H' := by
  intro base kv H o kv' H' hv
  unfold l13_17 at hv
  split at hv
  · rename_i hb
    obtain rfl := Nat.eq_of_beq_eq_true hb
    exact loop_ok hT hlo (h _ _ _ _ _ _ _ _ _ hv)
  · cases hv
noncomputable def Sa3 : Tab := ((Sa2).addLoop 13 8 l13_8).addLoop 13 17 l13_17
theorem nf13 (k b : Int) : evBody Sa3 13 [pil k b] [] = (bif decide (0 ≤ k) && decide (k < 256) && Rgg.in32 b && decide (5 = 5) then bif Rgg.in32 (↑(Rgg.pB k b) : Int) then bif (↑(Rgg.pB k b) : Int) == 0 then bif Rgg.lgE (Rgg.pK k) (Rgg.wdL (↑(Rgg.pB k b) : Int).toNat) == 4 then bif Rgg.lgN (Rgg.pK k) (Rgg.wdL (↑(Rgg.pB k b) : Int).toNat) == 0 then some (vb true, []) else some (vb false, []) else some (vb false, []) else bif decide (1 ≤ Rgg.pK k) && decide (Rgg.pK k ≤ 5) && Rgg.in32 (↑(Rgg.pB k b) : Int) then bif Rgg.in32 (↑(Rgg.apQ (2 ^ (Rgg.pK k).toNat) (↑(Rgg.pB k b) : Int).toNat) : Int) then bif decide ((Rgg.wdL (↑(Rgg.pB k b) : Int).toNat).length = (Rgg.wdL (↑(Rgg.pB k b) : Int).toNat).length) && decide ((Rgg.wdL (↑(Rgg.apQ (2 ^ (Rgg.pK k).toNat) (↑(Rgg.pB k b) : Int).toNat) : Int).toNat).length = (Rgg.wdL (↑(Rgg.apQ (2 ^ (Rgg.pK k).toNat) (↑(Rgg.pB k b) : Int).toNat) : Int).toNat).length) && decide ((↑(Rgg.wdL (↑(Rgg.apQ (2 ^ (Rgg.pK k).toNat) (↑(Rgg.pB k b) : Int).toNat) : Int).toNat).length : Int) = (↑(Rgg.wdL (↑(Rgg.apQ (2 ^ (Rgg.pK k).toNat) (↑(Rgg.pB k b) : Int).toNat) : Int).toNat).length : Int)) && sm (Rgg.wdL (↑(Rgg.apQ (2 ^ (Rgg.pK k).toNat) (↑(Rgg.pB k b) : Int).toNat) : Int).toNat) && Rgg.szs (Rgg.wdL (↑(Rgg.apQ (2 ^ (Rgg.pK k).toNat) (↑(Rgg.pB k b) : Int).toNat) : Int).toNat) && decide (0 = 0) then bif Rgg.lgE (Rgg.pK k) (Rgg.wdL (↑(Rgg.pB k b) : Int).toNat) != 0 then some (vb false, []) else bif Rgg.lgN (Rgg.pK k) (Rgg.wdL (↑(Rgg.pB k b) : Int).toNat) != Rgg.mxF (Rgg.wdL (↑(Rgg.apQ (2 ^ (Rgg.pK k).toNat) (↑(Rgg.pB k b) : Int).toNat) : Int).toNat) 0 then some (vb false, []) else bif decide (0 ≤ Rgg.pK k) then bif decide ((Rgg.wdL (↑(Rgg.pB k b) : Int).toNat).length = (Rgg.wdL (↑(Rgg.pB k b) : Int).toNat).length) && decide (0 ≤ IntKind.i64.wrap (1 * 2 ^ Min.min (Rgg.pK k).toNat 64)) && decide (IntKind.i64.wrap (1 * 2 ^ Min.min (Rgg.pK k).toNat 64) ≤ 32) && decide (0 = 0) then bif Rgg.boE (Rgg.pK k) (Rgg.lgN (Rgg.pK k) (Rgg.wdL (↑(Rgg.pB k b) : Int).toNat)) == 0 then bif Rgg.boV (Rgg.pK k) (Rgg.lgN (Rgg.pK k) (Rgg.wdL (↑(Rgg.pB k b) : Int).toNat)) == (↑(Rgg.pcL (Rgg.lgN (Rgg.pK k) (Rgg.wdL (↑(Rgg.pB k b) : Int).toNat)) (IntKind.i64.wrap (1 * 2 ^ Min.min (Rgg.pK k).toNat 64)).toNat) : Int) then bif decide ((↑(Rgg.wdL (↑(Rgg.pB k b) : Int).toNat).length : Int) ≤ Rgg.boV (Rgg.pK k) (Rgg.lgN (Rgg.pK k) (Rgg.wdL (↑(Rgg.pB k b) : Int).toNat))) then some (vb true, []) else some (vb false, []) else some (vb false, []) else some (vb false, []) else none else none else none else none else none else none else none) := by kernel_rfl
end Go.Ev.Rag
namespace Go.Ev.Rag
open Go Go.Ev Go.Proofs
set_option maxRecDepth 1000000
set_option maxHeartbeats 0
theorem w57_0 : evBody TC 57 [.sc (.int .u64 0)] [] = some (vi ((Rgg.word 0).size : Nat), []) := by kernel_rfl
theorem w57_1 : evBody TC 57 [.sc (.int .u64 1)] [] = some (vi ((Rgg.word 1).size : Nat), []) := by kernel_rfl
theorem w57_2 : evBody TC 57 [.sc (.int .u64 2)] [] = some (vi ((Rgg.word 2).size : Nat), []) := by kernel_rfl
theorem w57_3 : evBody TC 57 [.sc (.int .u64 3)] [] = some (vi ((Rgg.word 3).size : Nat), []) := by kernel_rfl
theorem w57_4 : evBody TC 57 [.sc (.int .u64 4)] [] = some (vi ((Rgg.word 4).size : Nat), []) := by kernel_rfl
theorem w57_5 : evBody TC 57 [.sc (.int .u64 5)] [] = some (vi ((Rgg.word 5).size : Nat), []) := by kernel_rfl
theorem w57_6 : evBody TC 57 [.sc (.int .u64 6)] [] = some (vi ((Rgg.word 6).size : Nat), []) := by kernel_rfl
theorem w57_7 : evBody TC 57 [.sc (.int .u64 7)] [] = some (vi ((Rgg.word 7).size : Nat), []) := by kernel_rfl
theorem w57_8 : evBody TC 57 [.sc (.int .u64 8)] [] = some (vi ((Rgg.word 8).size : Nat), []) := by kernel_rfl
theorem w57_9 : evBody TC 57 [.sc (.int .u64 9)] [] = some (vi ((Rgg.word 9).size : Nat), []) := by kernel_rfl
theorem w57_10 : evBody TC 57 [.sc (.int .u64 10)] [] = some (vi ((Rgg.word 10).size : Nat), []) := by kernel_rfl
theorem w57_11 : evBody TC 57 [.sc (.int .u64 11)] [] = some (vi ((Rgg.word 11).size : Nat), []) := by kernel_rfl
theorem w57_12 : evBody TC 57 [.sc (.int .u64 12)] [] = some (vi ((Rgg.word 12).size : Nat), []) := by kernel_rfl
theorem w57_13 : evBody TC 57 [.sc (.int .u64 13)] [] = some (vi ((Rgg.word 13).size : Nat), []) := by kernel_rfl
theorem w57_14 : evBody TC 57 [.sc (.int .u64 14)] [] = some (vi ((Rgg.word 14).size : Nat), []) := by kernel_rfl
theorem w57_15 : evBody TC 57 [.sc (.int .u64 15)] [] = some (vi ((Rgg.word 15).size : Nat), []) := by kernel_rfl
theorem w57_16 : evBody TC 57 [.sc (.int .u64 16)] [] = some (vi ((Rgg.word 16).size : Nat), []) := by kernel_rfl
theorem w57_17 : evBody TC 57 [.sc (.int .u64 17)] [] = some (vi ((Rgg.word 17).size : Nat), []) := by kernel_rfl
theorem w57_18 : evBody TC 57 [.sc (.int .u64 18)] [] = some (vi ((Rgg.word 18).size : Nat), []) := by kernel_rfl
theorem w57_19 : evBody TC 57 [.sc (.int .u64 19)] [] = some (vi ((Rgg.word 19).size : Nat), []) := by kernel_rfl
theorem w57_20 : evBody TC 57 [.sc (.int .u64 20)] [] = some (vi ((Rgg.word 20).size : Nat), []) := by kernel_rfl
theorem w57_21 : evBody TC 57 [.sc (.int .u64 21)] [] = some (vi ((Rgg.word 21).size : Nat), []) := by kernel_rfl
theorem w57_22 : evBody TC 57 [.sc (.int .u64 22)] [] = some (vi ((Rgg.word 22).size : Nat), []) := by kernel_rfl
theorem w57_23 : evBody TC 57 [.sc (.int .u64 23)] [] = some (vi ((Rgg.word 23).size : Nat), []) := by kernel_rfl
theorem w57_24 : evBody TC 57 [.sc (.int .u64 24)] [] = some (vi ((Rgg.word 24).size : Nat), []) := by kernel_rfl
theorem w57_25 : evBody TC 57 [.sc (.int .u64 25)] [] = some (vi ((Rgg.word 25).size : Nat), []) := by kernel_rfl
theorem w57_26 : evBody TC 57 [.sc (.int .u64 26)] [] = some (vi ((Rgg.word 26).size : Nat), []) := by kernel_rfl
theorem w57_27 : evBody TC 57 [.sc (.int .u64 27)] [] = some (vi ((Rgg.word 27).size : Nat), []) := by kernel_rfl
theorem w57_28 : evBody TC 57 [.sc (.int .u64 28)] [] = some (vi ((Rgg.word 28).size : Nat), []) := by kernel_rfl
theorem w57_29 : evBody TC 57 [.sc (.int .u64 29)] [] = some (vi ((Rgg.word 29).size : Nat), []) := by kernel_rfl
theorem w57_30 : evBody TC 57 [.sc (.int .u64 30)] [] = some (vi ((Rgg.word 30).size : Nat), []) := by kernel_rfl
theorem w57_31 : evBody TC 57 [.sc (.int .u64 31)] [] = some (vi ((Rgg.word 31).size : Nat), []) := by kernel_rfl
theorem w57 : ∀ n, n < 32 → evBody TC 57 [.sc (.int .u64 (n : Nat))] [] = some (vi ((Rgg.word n).size : Nat), []) := by
  intro n hn
  match n, hn with
  | 0, _ => exact w57_0
  | 1, _ => exact w57_1
  | 2, _ => exact w57_2
  | 3, _ => exact w57_3
  | 4, _ => exact w57_4
  | 5, _ => exact w57_5
  | 6, _ => exact w57_6
  | 7, _ => exact w57_7
  | 8, _ => exact w57_8
  | 9, _ => exact w57_9
  | 10, _ => exact w57_10
  | 11, _ => exact w57_11
  | 12, _ => exact w57_12
  | 13, _ => exact w57_13
  | 14, _ => exact w57_14
  | 15, _ => exact w57_15
  | 16, _ => exact w57_16
  | 17, _ => exact w57_17
  | 18, _ => exact w57_18
  | 19, _ => exact w57_19
  | 20, _ => exact w57_20
  | 21, _ => exact w57_21
  | 22, _ => exact w57_22
  | 23, _ => exact w57_23
  | 24, _ => exact w57_24
  | 25, _ => exact w57_25
  | 26, _ => exact w57_26
  | 27, _ => exact w57_27
  | 28, _ => exact w57_28
  | 29, _ => exact w57_29
  | 30, _ => exact w57_30
  | 31, _ => exact w57_31
  | n + 32, h => omega
end Go.Ev.Rag
namespace Rgg
open Go Go.Proofs
theorem wd_cnt (n : Nat) : (wdL n).length = cntB (fB n) := by
  have : (wdL n).length = (upTo (fun i => n.testBit i) 32).length := Ev.srtS_len _
  rw [this]
  unfold upTo cntB
  rw [List.length_map]
  exact congrArg List.length (List.filter_congr fun i hi => (at_fB (List.mem_range.1 hi)).symm)
theorem wd_le (n : Nat) : (wdL n).length ≤ 32 := by
  rw [wd_cnt]
  exact Nat.le_trans (List.length_filter_le _ _) (by rw [List.length_range]; exact Nat.le_refl _)
theorem range_sub : ∀ k, k < 6 → (List.range 32).filter (fun i => decide (i < 2 ^ k)) = List.range (2 ^ k) := by decide +kernel
theorem word_le : ∀ k, k < 6 → ∀ s, s < 2 ^ k → (word s).size ≤ k := by decide +kernel
theorem foldl_mx : ∀ (l : List ByteArray) (m : Nat), m ≤ l.foldl (fun n x => max n x.size) m ∧ (∀ x ∈ l, x.size ≤ l.foldl (fun n x => max n x.size) m) ∧ ∀ b, m ≤ b → (∀ x ∈ l, x.size ≤ b) → l.foldl (fun n x => max n x.size) m ≤ b
  | [], m => ⟨Nat.le_refl _, fun x hx => (by cases hx), fun b h _ => h⟩
  | x :: l, m => by
    rw [List.foldl_cons]
    obtain ⟨h1, h2, h3⟩ := foldl_mx l (max m x.size)
    refine ⟨Nat.le_trans (Nat.le_max_left ..) h1, fun y hy => ?_, fun b hb hh => ?_⟩
    · rcases List.mem_cons.1 hy with rfl | hy
      · exact Nat.le_trans (Nat.le_max_right ..) h1
      · exact h2 y hy
    · exact h3 b (Nat.max_le.2 ⟨hb, hh x (by simp)⟩) fun y hy => hh y (List.mem_cons_of_mem _ hy)
theorem mxF_eq : ∀ (l : List ByteArray) (m : Nat), mxF l (m : Int) = ((l.foldl (fun n x => max n x.size) m : Nat) : Int)
  | [], m => rfl
  | x :: l, m => by
    unfold mxF
    rw [List.foldl_cons, List.foldl_cons]
    have e : (if (x.size : Int) > (m : Int) then (x.size : Int) else (m : Int)) = ((max m x.size : Nat) : Int) := by
      by_cases h : x.size > m
      · rw [if_pos (by omega), Nat.max_eq_right (by omega)]
      · rw [if_neg (by omega), Nat.max_eq_left (by omega)]
    rw [e]
    exact mxF_eq l _
theorem mxF_snoc (l : List ByteArray) (x : ByteArray) (m : Int) : mxF (l ++ [x]) m = if (x.size : Int) > mxF l m then (x.size : Int) else mxF l m := by
  unfold mxF; rw [List.foldl_append]; rfl
theorem pcL_succ (d : Int) (i : Nat) : pcL d (i + 1) = pcL d i + (decide (((word i).size : Int) ≤ d)).toNat := by
  unfold pcL
  rw [List.range_succ, List.filter_append, List.length_append, List.filter_cons, List.filter_nil]
  cases decide (((word i).size : Int) ≤ d) <;> rfl
theorem pcL_le (d : Int) (i : Nat) : pcL d i ≤ i := by
  unfold pcL
  exact Nat.le_trans (List.length_filter_le _ _) (by rw [List.length_range]; exact Nat.le_refl _)
theorem bo_pc {K : Int} (h1 : 1 ≤ K) (h5 : K ≤ 5) (d : Int) : boN K d = pcL d (2 ^ K.toNat) := by
  unfold boN pcL setsL
  rw [List.filter_map, List.length_map]
  exact (((ord_perm K.toNat (by omega) (by omega)).filter _).length_eq).symm
theorem sauer {K : Int} {n : Nat} (h : Pl K n) {d : Int} (hd : ∀ x ∈ apL K (wdL n), (x.size : Int) ≤ d) : (wdL n).length ≤ pcL d (2 ^ K.toNat) := by
  have h1 := h.k1
  have h5 := h.k5
  rw [wd_cnt]
  refine Nat.le_trans (pajor (q := K.toNat) (by omega) h.topF) ?_
  unfold pcL
  rw [← range_sub K.toNat (by omega), List.filter_filter]
  refine filt_le fun s hs hh => ?_
  rw [Bool.and_eq_true, decide_eq_true_eq] at hh
  rw [Bool.and_eq_true, decide_eq_true_eq, decide_eq_true_eq]
  refine ⟨hd _ ?_, hh.1⟩
  unfold apL
  rw [h.opE, beq_self_eq_true, cond_true, h.opF, srt_upTo h.k1 h.k5, List.mem_map]
  exact ⟨s, List.mem_filter.2 ⟨ord_all K.toNat (by omega) (by omega) s hh.1, by rw [sh_miss h.k1 h.k5 hh.1]; exact hh.2⟩, rfl⟩
theorem wd_zero : wdL 0 = [] := by
  have := wd_cnt 0
  have e : cntB (fB 0) = 0 := by decide
  exact List.length_eq_zero_iff.1 (this.trans e)
theorem wd_pos {n : Nat} (h : n < 4294967296) (h0 : n ≠ 0) : (wdL n).length ≠ 0 := by
  rw [wd_cnt]
  intro e
  unfold cntB at e
  obtain ⟨_, b2, _, b4⟩ := bL_step h0 h
  have := List.filter_eq_nil_iff.1 (List.length_eq_zero_iff.1 e) _ (List.mem_range.2 b2)
  rw [at_fB b2] at this
  exact this b4
end Rgg
namespace Go.Ev.Rag
open Go Go.Ev Go.Proofs
set_option maxRecDepth 1000000
set_option linter.unusedVariables false
set_option linter.unusedSimpArgs false
theorem c57_run : ∀ args H v H', (c57 args H).val = some (v, H') → CallOK T0 57 args H v H' := fun a H v H' hv => by
  refine CallOK.tab ?_ ?_ (c57_ok TC_ok (by
    intro n r hv
    obtain ⟨hl, hv2⟩ := guard_val hv
    simp only [Bool.and_eq_true, decide_eq_true_eq] at hl
    obtain ⟨n, rfl⟩ := Int.eq_ofNat_of_zero_le hl.1
    rw [leaf_val hv2, toNat_cast]
    exact w57 n (by omega)) a H v H' hv) <;> rfl
theorem Sa1_ok : TabOK Sa1 := by
  have h := T0_ok
  have h := h.addCall (g := 34) (r := c34) fun a H v H' hv => by refine CallOK.tab ?_ ?_ (c34_run a H v H' hv) <;> rfl
  have h := h.addCall (g := 35) (r := c35) fun a H v H' hv => by refine CallOK.tab ?_ ?_ (c35_run a H v H' hv) <;> rfl
  have h := h.addCall (g := 55) (r := c55) fun a H v H' hv => by refine CallOK.tab ?_ ?_ (c55_run a H v H' hv) <;> rfl
  have h := h.addCall (g := 19) (r := c19) fun a H v H' hv => by refine CallOK.tab ?_ ?_ (c19_run a H v H' hv) <;> rfl
  have h := h.addCall (g := 28) (r := c28) fun a H v H' hv => by refine CallOK.tab ?_ ?_ (c28_run a H v H' hv) <;> rfl
  have h := h.addCall (g := 57) (r := c57) fun a H v H' hv => by refine CallOK.tab ?_ ?_ (c57_run a H v H' hv) <;> rfl
  exact h
theorem Sa2_ok : TabOK Sa2 := Sa1_ok.addCall (g := 16) (r := c16t) fun a H v H' hv => by refine CallOK.tab ?_ ?_ (c16t_run a H v H' hv) <;> rfl
theorem l13_8_run : ∀ base kv H o kv' H', (l13_8 base kv H).val = some (o, kv', H') → LoopOK Sa2 13 8 base kv H o kv' H' := l13_8_ok Sa2_ok (by kernel_rfl) (by
  intro K d e m q l al k k2 ty ty2 r hv
  obtain ⟨hl, hv2⟩ := guard_val hv
  simp only [Bool.and_eq_true, decide_eq_true_eq] at hl
  obtain ⟨⟨⟨⟨⟨rfl, rfl⟩, rfl⟩, hsm⟩, hsz⟩, rfl⟩ := hl
  have hsm := sm_le hsm
  obtain ⟨mm, hm⟩ := steps_of (T := Sa2) (fid := 13) (lid := 8) (base := 0) (c := lpc Sa2 13 8) al.length (fun i => [vi K, osW 0 l.length, vi d, vi e, vi (Rgg.mxF (al.take i) 0), osW 1 al.length, vi al.length, vi (i : Nat)]) (fun i => [some (rowS l ty), some (rowS al ty2)])
    (.ext 0, [vi K, osW 0 l.length, vi d, vi e, vi (Rgg.mxF al 0), osW 1 al.length, vi al.length, vi al.length], [some (rowS l ty), some (rowS al ty2)])
    (fun i hi again => by
      have hx := List.getElem?_eq_getElem hi
      generalize al[i] = x at hx
      have htk : al.take (i + 1) = al.take i ++ [x] := by rw [List.take_add_one, hx]; rfl
      refine (nl13_8 ..).trans ?_
      rw [htk, Rgg.mxF_snoc, wrap_succ (by omega)]
      simp only [dec_lt hi, dec_ge, cond_true, toNat_cast, hx, oM])
    (fun again => by
      refine (nl13_8 ..).trans ?_
      simp only [dec_ll, cond_false, List.take_length])
  exact ⟨mm, hm.trans (by rw [leaf_val hv2])⟩)
theorem u64_small {i : Nat} (h : i < 32) : IntKind.u64.wrap (i : Int) = (i : Int) := by rw [IntKind.wrap_u64]; omega
theorem l13_17_run : ∀ base kv H o kv' H', (l13_17 base kv H).val = some (o, kv', H') → LoopOK Sa2 13 17 base kv H o kv' H' := l13_17_ok Sa2_ok (by kernel_rfl) (by
  intro d e b w q l k ty r hv
  obtain ⟨hl, hv2⟩ := guard_val hv
  simp only [Bool.and_eq_true, decide_eq_true_eq] at hl
  obtain ⟨⟨⟨rfl, q0⟩, q32⟩, rfl⟩ := hl
  obtain ⟨q, rfl⟩ := Int.eq_ofNat_of_zero_le q0
  rw [toNat_cast] at hv2
  obtain ⟨mm, hm⟩ := steps_of (T := Sa2) (fid := 13) (lid := 17) (base := 0) (c := lpc Sa2 13 17) q (fun i => [osW 0 l.length, vi d, vi e, vi b, vi (Rgg.pcL d i : Nat), vi q, vi (i : Nat)]) (fun i => [some (rowS l ty)])
    (.ext 2, [osW 0 l.length, vi d, vi e, vi b, vi (Rgg.pcL d q : Nat), vi q, vi q], [some (rowS l ty)])
    (fun i hi again => by
      have hp := Rgg.pcL_le d i
      refine (nl13_17 ..).trans ?_
      rw [Rgg.pcL_succ, u64_small (show i < 32 by omega), toNat_cast, wrap_succ (show Rgg.pcL d i < _ by omega), wrap_succ (show i < _ by omega)]
      simp only [dec_lt hi, dec_ge, cond_true, decide_eq_true (show (i : Int) < 32 by omega), Bool.and_self]
      cases decide (((Rgg.word i).size : Int) ≤ d) <;> rfl)
    (fun again => by
      refine (nl13_17 ..).trans ?_
      simp only [dec_ll, cond_false])
  exact ⟨mm, hm.trans (by rw [leaf_val hv2])⟩)
theorem Sa3_ok : TabOK Sa3 := by
  have h := Sa2_ok
  have h := h.addLoop (g := 13) (lid := 8) (r := l13_8) fun b k H o k' H' hv => by refine LoopOK.tab ?_ ?_ ?_ ?_ (l13_8_run b k H o k' H' hv) <;> rfl
  have h := h.addLoop (g := 13) (lid := 17) (r := l13_17) fun b k H o k' H' hv => by refine LoopOK.tab ?_ ?_ ?_ ?_ (l13_17_run b k H o k' H' hv) <;> rfl
  exact h
theorem sauer_body (k b : Int) (r : (0 ≤ k ∧ k < 256) ∧ Rgg.in32 b = true) : evBody Sa3 13 [pil k b] [] = some (vb true, []) := by
  refine (nf13 ..).trans ?_
  have hP := Rgg.pl_of k b
  generalize Rgg.pK k = K at *
  generalize Rgg.pB k b = n at *
  have k1 := hP.k1
  have k5 := hP.k5
  obtain ⟨e1, e2⟩ := Rgg.two_k k1 k5
  rw [toNat_cast, r.2, decide_eq_true r.1.1, decide_eq_true r.1.2, Rgg.in32_of hP.n32, e1, toNat_cast]
  have ho : (Rgg.opE K (Rgg.wdL n) == 0) = true := by rw [hP.opE]; rfl
  have hae := Rgg.ap_empty ho
  by_cases h0 : n = 0
  · subst h0
    rw [Rgg.wd_zero] at hae ho ⊢
    have hE : Rgg.lgE K [] = 4 := by
      unfold Rgg.lgE
      rw [ho, hae]; rfl
    have hN : Rgg.lgN K [] = 0 := by
      unfold Rgg.lgN
      rw [ho, hae]; rfl
    rw [hE, hN]; rfl
  · have hpos := Rgg.wd_pos hP.n32 h0
    have hne : (Rgg.apL K (Rgg.wdL n)).isEmpty = false := by rw [hae]; exact beq_false_of_ne (by omega)
    have hE : Rgg.lgE K (Rgg.wdL n) = 0 := by
      unfold Rgg.lgE
      rw [ho, hne]; rfl
    have hN : Rgg.lgN K (Rgg.wdL n) = Rgg.mxF (Rgg.apL K (Rgg.wdL n)) 0 := by
      unfold Rgg.lgN
      rw [ho, hne]
      show (((Rgg.mxS (Rgg.apL K (Rgg.wdL n))).size : Nat) : Int) = _
      cases hl : Rgg.apL K (Rgg.wdL n) with
      | nil => rw [hl] at hne; cases hne
      | cons x t => rw [Rgg.mxS_size]; exact (Rgg.mxF_eq (x :: t) 0).symm
    have hw : ∀ x ∈ Rgg.apL K (Rgg.wdL n), x.size ≤ K.toNat := by
      intro x hx
      unfold Rgg.apL at hx
      rw [ho, cond_true, Rgg.srt_upTo k1 k5] at hx
      obtain ⟨s, hs, rfl⟩ := List.mem_map.1 hx
      exact Rgg.word_le K.toNat (by omega) s (Rgg.ord_bnd K.toNat (by omega) s (List.mem_filter.1 hs).1)
    have hsz : Rgg.szs (Rgg.apL K (Rgg.wdL n)) = true := List.all_eq_true.2 fun x hx => decide_eq_true (by have := hw x hx; omega)
    obtain ⟨m1, m2, m3⟩ := Rgg.foldl_mx (Rgg.apL K (Rgg.wdL n)) 0
    have hmx := Rgg.mxF_eq (Rgg.apL K (Rgg.wdL n)) 0
    have hd0 : 0 ≤ Rgg.mxF (Rgg.apL K (Rgg.wdL n)) 0 := by rw [show (0 : Int) = ((0 : Nat) : Int) from rfl, hmx]; omega
    have hdK : Rgg.mxF (Rgg.apL K (Rgg.wdL n)) 0 ≤ K := by
      have := m3 K.toNat (by omega) hw
      rw [show (0 : Int) = ((0 : Nat) : Int) from rfl, hmx]; omega
    have hsa := Rgg.sauer hP (d := Rgg.mxF (Rgg.apL K (Rgg.wdL n)) 0) fun x hx => by
      have := m2 x hx
      rw [show (0 : Int) = ((0 : Nat) : Int) from rfl, hmx]; omega
    have hlen := Rgg.wd_le (Rgg.apQ (2 ^ K.toNat) n)
    rw [hE, hN, ← Rgg.ap_num hP, hsz, Rgg.in32_of (Rgg.apQ_lt _ n)]
    rw [← Rgg.ap_num hP] at hlen
    rw [show sm (Rgg.apL K (Rgg.wdL n)) = true from decide_eq_true (by omega)]
    generalize Rgg.mxF (Rgg.apL K (Rgg.wdL n)) 0 = d at *
    have hbR : Rgg.boR K d = true := by unfold Rgg.boR; rw [decide_eq_true k1, decide_eq_true k5]; rfl
    have hbS : Rgg.boS K d = true := by unfold Rgg.boS; rw [decide_eq_true hd0, decide_eq_true hdK]; rfl
    unfold Rgg.boE Rgg.boV
    rw [hbR, hbS, Rgg.bo_pc k1 k5]
    rw [show ((n : Int) == 0) = false from beq_false_of_ne (by omega)]
    simp only [toNat_cast, dec_ge, decide_eq_true k1, decide_eq_true k5, decide_eq_true (show (0 : Int) ≤ K by omega), decide_eq_true (show ((2 ^ K.toNat : Nat) : Int) ≤ 32 by omega), beq_self_eq_true, bne_self_eq_false, Bool.and_self, cond_true, cond_false, Bool.not_true, decide_true, decide_eq_true (show (((Rgg.wdL n).length : Nat) : Int) ≤ ((Rgg.pcL d (2 ^ K.toNat) : Nat) : Int) by omega)]
end Go.Ev.Rag
