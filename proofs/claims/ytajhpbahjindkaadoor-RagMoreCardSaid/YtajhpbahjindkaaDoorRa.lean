/- The tables of the rag seat, in the symbolic mode. -/
import Derived.Test.YtajhpbahjindkaaDoorEvE
import Derived.Test.YtajhpbahjindkaaDoorChecked
import Derived.WalkKit
import Derived.Laws.RangeAny
set_option linter.unusedVariables false
set_option linter.unusedSimpArgs false
namespace Go.Ev.Rag
open Go Go.Ev Go.Proofs
set_option maxRecDepth 1000000
set_option linter.unusedVariables false
def assoc {α : Type} (d : α) (k : Nat) : List (Nat × α) → α
  | [] => d
  | p :: l => match Nat.beq p.1 k with
    | true => p.2
    | false => assoc d k l
def keepB : List (Nat × List (Nat × List Nat)) := [
  (6, [(9, [4, 5, 7, 8, 9, 49, 50])]),
  (9, [(4, [3, 5, 6, 7, 40, 41]), (12, [5, 6, 7, 10, 11, 12]), (17, [5, 6, 7, 10, 11, 12, 13, 14, 79, 80, 81])]),
  (10, [(8, [5, 6, 7, 8, 9, 10, 11, 12, 13, 47]), (10, [5, 6, 7, 8, 9, 10, 11, 12, 13, 47, 49, 50]), (18, [4, 5, 7, 11, 13, 15]), (28, [4, 17, 135, 136, 137])]),
  (11, [(10, [4, 9, 11, 13, 15, 80, 81, 82]), (16, [4, 9, 13, 15, 91, 92, 93]), (22, [4, 104, 105, 106]), (25, [4, 22, 104, 105, 106, 110, 111, 112]), (30, [4, 22, 24, 104, 105, 106, 110, 111, 112, 120])]),
  (12, [(8, [2, 5, 6, 8, 61, 62, 63])]),
  (13, [(8, [3, 5, 6, 7, 8, 41, 42, 43]), (17, [5, 6, 7, 11, 12, 66, 67])]),
  (14, [(6, [7, 8, 9, 10, 25, 26, 27])]),
  (15, [(4, [0, 1, 4, 5]), (9, [1, 4, 6])]),
  (18, [(7, [0, 1, 7, 8, 9])]),
  (20, [(8, [6, 8, 9])]),
  (22, [(7, [6, 7, 9, 10, 11])]),
  (23, [(4, [0, 1, 4, 5])]),
  (26, [(7, [0, 6, 8, 9, 27, 28])]),
  (27, [(7, [0, 1, 7, 8, 9])]),
  (28, [(7, [0, 6, 7, 25, 26])]),
  (29, [(8, [1, 6, 7, 8])]),
  (32, [(5, [0, 6, 8]), (8, [0, 6, 8, 20, 21])]),
  (33, [(6, [0, 7, 8]), (9, [0, 7, 8, 9])]),
  (35, [(2, [0, 3])]),
  (36, [(2, [0, 1, 5])]),
  (38, [(3, [0, 3, 5])]),
  (46, [(6, [0, 1, 4, 5])]),
  (52, [(1, [0, 2, 3])]),
  (53, [(3, [0, 1, 5, 6])]),
  (55, [(3, [1, 5, 8, 9])]),
  (56, [(3, [0, 1, 5, 11, 12]), (6, [0, 1, 5, 6, 11, 12, 16, 17]), (11, [0, 1, 5, 6, 7, 8, 11, 12, 16, 17, 25, 26])]),
  (58, [(3, [0, 3, 4, 5]), (16, [0, 7, 8, 9])]),
  (59, [(7, [0, 4, 5, 6, 25, 26, 27])]),
  (60, [(3, [1, 5, 8, 9])]),
  (63, [(3, [1, 5, 6]), (7, [1, 5, 6, 7, 8])]),
  (65, [(5, [0, 1, 5, 6])]),
  (70, [(3, [0, 1, 2, 7, 8])]),
  (71, [(2, [0, 1, 4, 5])]),
  (72, [(4, [0, 4, 5, 6, 7, 12])]),
  (73, [(2, [1, 4, 10, 11])]),
  (74, [(2, [0, 1, 4, 5])]),
  (75, [(3, [0, 1, 5, 6])]),
  (77, [(3, [0, 1, 2, 6, 7, 8]), (7, [0, 1, 2, 7, 8, 9, 10])]),
  (79, [(3, [0, 1, 5, 8])]),
  (81, [(4, [0, 1, 7, 8, 9])]),
  (82, [(4, [1, 5, 6, 7])]),
  (83, [(3, [0, 3, 4])]),
  (87, [(4, [1, 5, 6, 7])]),
  (88, [(2, [0, 1, 4, 7, 8])]),
  (95, [(3, [0, 1, 5, 14]), (20, [0, 5, 68])]),
  (97, [(2, [0, 3])]),
  (99, [(2, [0, 1, 4, 5])]),
  (100, [(3, [0, 1, 5, 6])]),
  (102, [(2, [0, 1, 2, 3, 8, 9])]),
  (112, [(1, [0, 1, 2, 6]), (4, [0, 1, 2, 6, 7])]),
  (113, [(4, [0, 6, 7, 8, 9]), (8, [0, 6, 7, 10])]),
  (114, [(5, [0, 1, 6, 7, 8, 9])]),
  (116, [(2, [0, 6, 7])]),
  (117, [(3, [0, 1, 2, 6, 7, 8]), (5, [0, 1, 2, 7, 8]), (14, [0, 1, 2, 7, 8, 9]), (20, [0, 1, 2, 7, 8, 10])]),
  (119, [(3, [0, 1, 9, 10]), (5, [0, 1, 9, 10])]),
  (120, [(3, [0, 1, 10, 11]), (5, [0, 1, 10, 11]), (13, [0, 1, 10, 11]), (15, [0, 1, 10, 11])]),
  (129, [(1, [0, 2, 3, 8])]),
  (136, [(3, [0, 1, 4, 5, 6])])]
def tab32 : List Int := [0, 1, 28, 2, 29, 14, 24, 3, 30, 22, 20, 15, 25, 17, 4, 8, 31, 27, 13, 23, 21, 19, 16, 7, 26, 12, 18, 6, 11, 5, 10, 9]
def tab64 : List Int := [0, 1, 56, 2, 57, 49, 28, 3, 61, 58, 42, 50, 38, 29, 17, 4, 62, 47, 59, 36, 45, 43, 51, 22, 53, 39, 33, 30, 24, 18, 12, 5, 63, 55, 48, 27, 60, 41, 37, 16, 46, 35, 44, 21, 52, 32, 23, 11, 54, 26, 40, 15, 34, 20, 31, 10, 25, 14, 19, 9, 13, 8, 7, 6]
def globB (g : Nat) : Option (List AV × TypeId) := match g with
  | 0 => some ([.run (.int .u8) tab32], 95)
  | 5 => some ([.run (.int .u8) tab64], 150)
  | _ => none
def refR (f : FuncId) : List Nat := match f with
  | 84 => [0]
  | 102 => [0]
  | 112 => [0]
  | _ => []
noncomputable def T0 : Tab := { P := Tryd.prog, il := true, fn := fnsOf Tryd.prog, glob := globB, refm := refR, keep := fun f l => assoc [] l (assoc [] f keepB), gc := fun _ _ => none, callR := fun _ _ _ => .fail, loopT := fun _ _ _ _ _ => .fail }
end Go.Ev.Rag
namespace Rgg
open Go
def rdS (kinds : Int) : List UInt8 → Int → Nat → Sum Int Nat
  | [], _, out => .inr out
  | c :: l, last, out => bif decide ((c.toNat : Int) - 97 < 0) || decide (kinds ≤ (c.toNat : Int) - 97) then .inl 2 else bif decide ((c.toNat : Int) - 97 ≤ last) then .inl 7 else rdS kinds l ((c.toNat : Int) - 97) (out ||| 2 ^ (c.toNat - 97))
def bts (s : ByteArray) : List UInt8 := s.data.toList
def rd (kinds : Int) (s : ByteArray) : Sum Int Nat := rdS kinds (bts s) (-1) 0
def rdE : Sum Int Nat → Int
  | .inl e => e
  | .inr _ => 0
def rdV : Sum Int Nat → Nat
  | .inl _ => 0
  | .inr n => n
end Rgg
namespace Rgg
open Go
def wordL (n : Nat) : List UInt8 := ((List.range 5).filter fun k => n.testBit k).map fun k => UInt8.ofNat (97 + k)
def word (n : Nat) : ByteArray := ⟨(wordL n).toArray⟩
end Rgg
namespace Go.Proofs.RgRd
open Go Go.RowKit Go.Proofs
set_option linter.unusedVariables false
set_option linter.unusedSimpArgs false
theorem width_pos (s : ByteArray) (pos : Nat) (h : pos < s.size) : 1 ≤ (Utf8.decode s pos).2 := by
  by_cases ha : (s[pos]'h).toNat < 128
  · rw [decode_ascii s pos h ha]
    exact Nat.le_refl _
  · exact (decode_high s pos h (by omega)).2
theorem bts_drop {s : ByteArray} {pos : Nat} (h : pos < s.size) : (Rgg.bts s).drop pos = (s[pos]'h) :: (Rgg.bts s).drop (pos + 1) := by
  have hl : pos < (Rgg.bts s).length := by
    show pos < s.data.toList.length
    rw [Array.length_toList]; exact h
  rw [List.drop_eq_getElem_cons hl]
  rfl
theorem step (K : Int) (hK : K ≤ 5) (s : ByteArray) (pos : Nat) (h : pos < s.size) (last : Int) (out : Nat) :
    Rgg.rdS K ((Rgg.bts s).drop pos) last out = bif decide (((Utf8.decode s pos).1 : Int) - 97 < 0) || decide (K ≤ ((Utf8.decode s pos).1 : Int) - 97) then .inl 2 else bif decide (((Utf8.decode s pos).1 : Int) - 97 ≤ last) then .inl 7 else Rgg.rdS K ((Rgg.bts s).drop (pos + (Utf8.decode s pos).2)) (((Utf8.decode s pos).1 : Int) - 97) (out ||| 2 ^ ((Utf8.decode s pos).1 - 97)) := by
  rw [bts_drop h]
  rw [Rgg.rdS]
  by_cases ha : (s[pos]'h).toNat < 128
  · rw [decode_ascii s pos h ha]
  · have hd := (decode_high s pos h (by omega)).1
    rw [show decide (K ≤ ((s[pos]'h).toNat : Int) - 97) = true from decide_eq_true (by omega), show decide (K ≤ ((Utf8.decode s pos).1 : Int) - 97) = true from decide_eq_true (by omega), Bool.or_true, Bool.or_true]
    rfl
theorem or_small : ∀ out, out < 32 → ∀ k, k < 5 → bits .or .i64 (out : Nat) (wrap64 (2 ^ k)) = ((out ||| 2 ^ k : Nat) : Int) ∧ out ||| 2 ^ k < 32 := by decide +kernel
theorem wrap32_id {x : Int} (h1 : -2147483648 ≤ x) (h2 : x < 2147483648) : wrap32 x = x := by
  unfold wrap32
  omega
set_option maxHeartbeats 6400000 in
set_option maxRecDepth 1000000 in
theorem read_walk (K : Int) (hK : 1 ≤ K ∧ K ≤ 5) (s : ByteArray) (w : World) :
    Calls Tryd.prog 72 #[.int .i64 K, .string s] w fun e w' => e = .returned (.tuple #[.int .i64 (Rgg.rdV (Rgg.rd K s) : Nat), .int .i64 (Rgg.rdE (Rgg.rd K s))]) ∧ ∃ pos, w' = w.iter s pos := by
  go_enter Tryd.func72, Tryd.ntmps72
  go_wp2
  go_loopw [6, 7] (fun v6 v7 w' => ∃ (pos out : Nat) (last : Int), w' = w.iter s pos ∧ v6 = .int .i64 out ∧ v7 = .int .i32 last ∧ pos ≤ s.size ∧ out < 32 ∧ -1 ≤ last ∧ last < 5 ∧ Rgg.rdS K ((Rgg.bts s).drop pos) last out = Rgg.rd K s) (fun _ _ w' => s.size - w'.iterPos w.heap.size)
  case atStart => exact ⟨0, 0, -1, rfl, rfl, rfl, Nat.zero_le _, by omega, by omega, by omega, rfl⟩
  case round =>
    obtain ⟨pos, out, last, rfl, rfl, rfl, hps, ho, hl0, hl1, hc⟩ := hrel
    by_cases hp : pos < s.size
    · have hnx : ∀ ty, (Instr.next (.pointer (some ⟨w.heap.size, 0, none⟩)) true ty).run Tryd.prog (w.iter s pos) = _ := fun ty => run_next_any w s pos ty hp
      have hd : Rgg.rdS K ((Rgg.bts s).drop pos) last out = bif decide (((Utf8.decode s pos).1 : Int) - 97 < 0) || decide (K ≤ ((Utf8.decode s pos).1 : Int) - 97) then .inl 2 else bif decide (((Utf8.decode s pos).1 : Int) - 97 ≤ last) then .inl 7 else Rgg.rdS K ((Rgg.bts s).drop (pos + (Utf8.decode s pos).2)) (((Utf8.decode s pos).1 : Int) - 97) (out ||| 2 ^ ((Utf8.decode s pos).1 - 97)) := step K hK.2 s pos hp last out
      have hle := decode_le s pos
      have hwd := width_pos s pos hp
      have hasc : (Utf8.decode s pos).1 < 128 → (Utf8.decode s pos).2 = 1 := fun hh => by
        by_cases ha : (s[pos]'hp).toNat < 128
        · rw [decode_ascii s pos hp ha]
        · have := (decode_high s pos hp (by omega)).1
          omega
      generalize (Utf8.decode s pos).1 = c at *
      generalize (Utf8.decode s pos).2 = wd at *
      have hw32 : wrap32 ((c : Int) - 97) = (c : Int) - 97 := wrap32_id (by omega) (by omega)
      go_wp2
      · rename_i g1 g2
        go_ret2
        refine ⟨?_, _, rfl⟩
        rw [← hc, hd, show (decide ((c : Int) - 97 < 0) || decide (K ≤ (c : Int) - 97)) = true by rw [Bool.or_eq_true, decide_eq_true_eq, decide_eq_true_eq]; exact g2]
        rfl
      · rename_i g0 g1 g2
        go_ret2
        refine ⟨?_, _, rfl⟩
        rw [← hc, hd, decide_eq_false (show ¬ (c : Int) - 97 < 0 by omega), decide_eq_false (show ¬ K ≤ (c : Int) - 97 by omega), decide_eq_true g2]
        rfl
      · rename_i g0 g1 g2
        obtain ⟨k, hk, hk5⟩ : ∃ k, c - 97 = k ∧ k < 5 := ⟨c - 97, rfl, by omega⟩
        obtain ⟨o1, o2⟩ := or_small out ho k hk5
        have hwd1 : wd = 1 := hasc (by omega)
        subst hwd1
        refine ⟨⟨pos + 1, out ||| 2 ^ k, (c : Int) - 97, rfl, ?_, rfl, by omega, o2, by omega, by omega, ?_⟩, ?_⟩
        · rw [hk, o1]
        · rw [← hc, hd, decide_eq_false (show ¬ (c : Int) - 97 < 0 by omega), decide_eq_false (show ¬ K ≤ (c : Int) - 97 by omega), decide_eq_false (show ¬ (c : Int) - 97 ≤ last by omega), hk]
          rfl
        · simp
          omega
      · rename_i g0
        go_ret2
        refine ⟨?_, _, rfl⟩
        rw [← hc, hd, decide_eq_true (show (c : Int) - 97 < 0 by omega)]
        rfl
    · have hnx : ∀ ty, (Instr.next (.pointer (some ⟨w.heap.size, 0, none⟩)) true ty).run Tryd.prog (w.iter s pos) = _ := fun ty => run_next_end w s pos ty hp
      go_wp2
      go_ret2
      have he : (Rgg.bts s).drop pos = [] := List.drop_eq_nil_of_le (by
        have : (Rgg.bts s).length = s.size := Array.length_toList
        omega)
      rw [he] at hc
      refine ⟨?_, _, rfl⟩
      rw [← hc]
      rfl
end Go.Proofs.RgRd
