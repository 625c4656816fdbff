/- The library's sort of strings in the program: the kit's contract, laid. -/
import Derived.Test.YtajhpbahjindkaaDoorChecked
import Derived.Shelf.Sort.Plain
import Derived.Test.YtajhpbahjindkaaDoorRb
import Derived.Test.YtajhpbahjindkaaDoorEvF
import Derived.Test.YtajhpbahjindkaaDoorRa
import Derived.Test.YtajhpbahjindkaaDoorXaKnown
set_option linter.unusedVariables false
set_option linter.unusedSimpArgs false
namespace Go.Ev.Rag
open Go Go.Proofs
set_option linter.unusedVariables false
def lay190Ren : Go.Shelf.Ren := { f := fun x => match x with | 190 => 84 | 125 => 103 | 258 => 102 | 128 => 121 | 129 => 122 | 302 => 112 | 303 => 113 | 304 => 114 | 305 => 115 | 306 => 116 | 307 => 117 | 308 => 118 | 309 => 119 | 310 => 120 | 333 => 129 | 329 => 130 | 330 => 131 | 334 => 132 | 335 => 133 | 336 => 134 | 344 => 138 | n => n, t := fun x => match x with | 31 => 22 | 9 => 9 | 3 => 3 | 46 => 63 | 0 => 0 | 51 => 38 | 53 => 94 | 4 => 4 | 183 => 122 | 182 => 121 | 131 => 127 | 5 => 5 | 218 => 136 | 222 => 140 | 228 => 151 | 229 => 152 | n => n, g := fun x => x }
theorem lay190 : Go.Proofs.Lays.n190 Tryd.prog lay190Ren where
  mixed := by kernel_rfl
  f125 := Tryd.func103.trans (congrArg some (by kernel_rfl))
  f128 := Tryd.func121.trans (congrArg some (by kernel_rfl))
  f129 := Tryd.func122.trans (congrArg some (by kernel_rfl))
  f190 := Tryd.func84.trans (congrArg some (by kernel_rfl))
  f258 := Tryd.func102.trans (congrArg some (by kernel_rfl))
  f302 := Tryd.func112.trans (congrArg some (by kernel_rfl))
  f303 := Tryd.func113.trans (congrArg some (by kernel_rfl))
  f304 := Tryd.func114.trans (congrArg some (by kernel_rfl))
  f305 := Tryd.func115.trans (congrArg some (by kernel_rfl))
  f306 := Tryd.func116.trans (congrArg some (by kernel_rfl))
  f307 := Tryd.func117.trans (congrArg some (by kernel_rfl))
  f308 := Tryd.func118.trans (congrArg some (by kernel_rfl))
  f309 := Tryd.func119.trans (congrArg some (by kernel_rfl))
  f310 := Tryd.func120.trans (congrArg some (by kernel_rfl))
  f329 := Tryd.func130.trans (congrArg some (by kernel_rfl))
  f330 := Tryd.func131.trans (congrArg some (by kernel_rfl))
  f333 := Tryd.func129.trans (congrArg some (by kernel_rfl))
  f334 := Tryd.func132.trans (congrArg some (by kernel_rfl))
  f335 := Tryd.func133.trans (congrArg some (by kernel_rfl))
  f336 := Tryd.func134.trans (congrArg some (by kernel_rfl))
  f344 := Tryd.func138.trans (congrArg some (by kernel_rfl))
  t0 := Tryd.underlying0
  a0 := Tryd.isAgg0
  z0 := Tryd.sizeOf0
  v0 := Tryd.zeroValue0
  t3 := Tryd.underlying3
  a3 := Tryd.isAgg3
  z3 := Tryd.sizeOf3
  v3 := Tryd.zeroValue3
  t4 := Tryd.underlying4
  a4 := Tryd.isAgg4
  z4 := Tryd.sizeOf4
  v4 := Tryd.zeroValue4
  t5 := Tryd.underlying5
  a5 := Tryd.isAgg5
  z5 := Tryd.sizeOf5
  v5 := Tryd.zeroValue5
  t9 := Tryd.underlying9
  a9 := Tryd.isAgg9
  z9 := Tryd.sizeOf9
  v9 := Tryd.zeroValue9
  t31 := Tryd.underlying22
  a31 := Tryd.isAgg22
  z31 := Tryd.sizeOf22
  v31 := Tryd.zeroValue22
  t46 := Tryd.underlying63
  a46 := Tryd.isAgg63
  z46 := Tryd.sizeOf63
  v46 := Tryd.zeroValue63
  t51 := Tryd.underlying38
  a51 := Tryd.isAgg38
  z51 := Tryd.sizeOf38
  v51 := Tryd.zeroValue38
  t53 := Tryd.underlying94
  a53 := Tryd.isAgg94
  z53 := Tryd.sizeOf94
  v53 := Tryd.zeroValue94
  t131 := Tryd.underlying127
  a131 := Tryd.isAgg127
  z131 := Tryd.sizeOf127
  v131 := Tryd.zeroValue127
  t182 := Tryd.underlying121
  a182 := Tryd.isAgg121
  z182 := Tryd.sizeOf121
  v182 := Tryd.zeroValue121
  t183 := Tryd.underlying122
  a183 := Tryd.isAgg122
  z183 := Tryd.sizeOf122
  v183 := Tryd.zeroValue122
  t218 := Tryd.underlying136
  a218 := Tryd.isAgg136
  z218 := Tryd.sizeOf136
  v218 := Tryd.zeroValue136
  t222 := Tryd.underlying140
  a222 := Tryd.isAgg140
  z222 := Tryd.sizeOf140
  v222 := Tryd.zeroValue140
  t228 := Tryd.underlying151
  a228 := Tryd.isAgg151
  z228 := Tryd.sizeOf151
  v228 := Tryd.zeroValue151
  t229 := Tryd.underlying152
  a229 := Tryd.isAgg152
  z229 := Tryd.sizeOf152
  v229 := Tryd.zeroValue152
end Go.Ev.Rag
namespace Rgg
open Go
def tyS (l : List ByteArray) : Nat := match l with
  | [] => 0
  | _ :: _ => 9
end Rgg
namespace Go.Ev.Rag
open Go Go.Ev
set_option maxRecDepth 1000000
set_option maxHeartbeats 0
set_option linter.unusedVariables false
abbrev ps (r : Nat) : AV := .ps r 0 0 0
abbrev rS (l : List ByteArray) : Row := rowS l (Rgg.tyS l)
def c72t (K : Int) (s : ByteArray) : Tree (AV × Hp) := .br (decide (1 ≤ K) && decide (K ≤ 5)) (.leaf (.tuple [vi (Rgg.rdV (Rgg.rd K s) : Nat), vi (Rgg.rdE (Rgg.rd K s))], [])) .fail
def c72 (args : List AV) (H : Hp) : Tree (AV × Hp) := match args, H with
  | [(.sc (.int .i64 K)), (.sc (.string s))], [] => c72t K s
  | _, _ => .fail
def _root_.Rgg.sub (n s : Nat) : Bool := n &&& (31 ^^^ s) == 0
def c84 (args : List AV) (H : Hp) : Tree (AV × Hp) := match args, H with
  | [.os 0 0 0 k true false true], [some ⟨[.run .str l], false, ty, false, false, none⟩] => .br (decide (k = l.length) && sm l && decide (ty = Rgg.tyS l)) (.leaf (.tuple [], [some (rS (srtS l))])) .fail
  | _, _ => .fail
end Go.Ev.Rag
namespace Go.Ev.Rag
open Go Go.Ev Go.Proofs
set_option maxRecDepth 1000000
set_option linter.unusedVariables false
theorem sort_nil : evBody TC 84 [osW 0 0] [some (rowS [] 0)] = some (.tuple [], [some (rowS [] 0)]) := by kernel_rfl
theorem srtS_nil : srtS [] = [] := List.length_eq_zero_iff.1 (by rw [srtS_len]; rfl)
theorem tyS_len {l m : List ByteArray} (h : l.length = m.length) : Rgg.tyS l = Rgg.tyS m := by
  cases l <;> cases m <;> first | rfl | simp at h
theorem c84_run : ∀ args H v H', (c84 args H).val = some (v, H') → CallOK T0 84 args H v H' := by
  intro args H v H' hv
  unfold c84 at hv
  split at hv
  · rename_i k l ty
    obtain ⟨hg, hv2⟩ := guard_val hv
    simp only [Bool.and_eq_true, decide_eq_true_eq] at hg
    obtain ⟨⟨rfl, hsm⟩, rfl⟩ := hg
    cases leaf_val hv2
    by_cases hne : l = []
    · subst hne
      refine CallOK.tab ?_ ?_ (evBody_sound TC_ok (by rw [srtS_nil]; exact sort_nil)) <;> rfl
    · have h := sortS_ok (T := T0) (f := 84) ⟨_, _, Tryd.func84, rfl, rfl⟩ (fun blk off cap zs w hH hb hz => Any.slices_Sort_string lay190 blk off cap zs w hH hb hz) (ty := Rgg.tyS l) (tight := false) (full := true) hne (sm_le hsm)
      rw [show rS (srtS l) = rowS (srtS l) (Rgg.tyS l) by unfold rS; rw [tyS_len (srtS_len l)]]
      exact h
  · cases hv
end Go.Ev.Rag
namespace Rgg
open Go
end Rgg
namespace Go.Ev.Rag
open Go Go.Ev Go.Proofs
set_option maxRecDepth 1000000
set_option linter.unusedVariables false
set_option linter.unusedSimpArgs false
theorem c72_run : ∀ args H v H', (c72 args H).val = some (v, H') → CallOK T0 72 args H v H' := by
  intro args H v H' hv
  unfold c72 at hv
  split at hv
  · rename_i K s
    obtain ⟨hg, hv2⟩ := guard_val hv
    simp only [Bool.and_eq_true, decide_eq_true_eq] at hg
    cases leaf_val hv2
    refine ⟨⟨_, _, Tryd.func72, rfl, rfl⟩, Nat.le_refl _, fun S w L us hst hr => ?_⟩
    simp only [RelL, Rel] at hr
    obtain ⟨u, rest, rfl, rfl, v, rest2, rfl, rfl, rfl⟩ := hr
    refine (RgRd.read_walk K hg s w).mono ?_
    rintro e w' ⟨rfl, pos, rfl⟩
    have hgr : w.iter s pos = Go.Sort.grow w #[.stringIter s pos] := Go.Sort.alloc_eq_grow w _
    rw [hgr]
    obtain ⟨g1, g2⟩ := hst.growW #[.stringIter s pos]
    refine ⟨_, S, L, rfl, ?_, g1, g2⟩
    simp only [Rel, RelL]
    exact ⟨_, rfl, _, _, rfl, rfl, _, _, rfl, rfl, rfl⟩
  · cases hv
end Go.Ev.Rag
