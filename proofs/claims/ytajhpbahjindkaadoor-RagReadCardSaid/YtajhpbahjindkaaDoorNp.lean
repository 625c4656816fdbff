/- The library's ToUpper in the program: the kit's contract, laid. -/
import Derived.Test.YtajhpbahjindkaaDoorChecked
import Derived.Shelf.Lays
import Derived.Shelf.Strings.BuilderX
import Derived.Test.YtajhpbahjindkaaDoorRc
import Derived.Test.YtajhpbahjindkaaDoorRg
import Derived.Shelf.Strings.OnBuilder
set_option linter.unusedVariables false
set_option linter.unusedSimpArgs false
namespace Go.Ev.Rag
open Go Go.Proofs
set_option linter.unusedVariables false
set_option maxRecDepth 1000000
def lay158Ren : Go.Shelf.Ren := { f := fun x => match x with | 158 => 58 | 165 => 91 | 166 => 92 | 167 => 93 | 169 => 94 | 230 => 95 | 203 => 96 | 240 => 104 | 241 => 105 | 197 => 106 | 118 => 107 | 168 => 108 | 270 => 109 | 262 => 110 | 276 => 123 | 277 => 124 | 260 => 125 | 242 => 126 | 313 => 127 | 278 => 135 | 274 => 136 | 275 => 137 | n => n, t := fun x => match x with | 9 => 9 | 4 => 4 | 3 => 3 | 5 => 5 | 72 => 100 | 0 => 0 | 76 => 104 | 75 => 103 | 107 => 109 | 70 => 98 | 20 => 20 | 37 => 65 | 127 => 112 | 21 => 21 | 105 => 113 | 164 => 129 | 162 => 135 | 203 => 133 | 119 => 143 | 46 => 63 | 139 => 146 | 138 => 145 | 51 => 38 | 160 => 147 | 208 => 157 | 206 => 155 | 80 => 107 | n => n, g := fun x => match x with | 13 => 1 | n => n }
theorem lay158 : Go.Proofs.Lays.n158 Tryd.prog lay158Ren where
  mixed := by kernel_rfl
  f118 := Tryd.func107.trans (congrArg some (by kernel_rfl))
  f158 := Tryd.func58.trans (congrArg some (by kernel_rfl))
  f165 := Tryd.func91.trans (congrArg some (by kernel_rfl))
  f166 := Tryd.func92.trans (congrArg some (by kernel_rfl))
  f167 := Tryd.func93.trans (congrArg some (by kernel_rfl))
  f168 := Tryd.func108.trans (congrArg some (by kernel_rfl))
  f169 := Tryd.func94.trans (congrArg some (by kernel_rfl))
  f197 := Tryd.func106.trans (congrArg some (by kernel_rfl))
  f203 := Tryd.func96.trans (congrArg some (by kernel_rfl))
  f230 := Tryd.func95.trans (congrArg some (by kernel_rfl))
  f240 := Tryd.func104.trans (congrArg some (by kernel_rfl))
  f241 := Tryd.func105.trans (congrArg some (by kernel_rfl))
  f242 := Tryd.func126.trans (congrArg some (by kernel_rfl))
  f260 := Tryd.func125.trans (congrArg some (by kernel_rfl))
  f262 := Tryd.func110.trans (congrArg some (by kernel_rfl))
  f270 := Tryd.func109.trans (congrArg some (by kernel_rfl))
  f274 := Tryd.func136.trans (congrArg some (by kernel_rfl))
  f275 := Tryd.func137.trans (congrArg some (by kernel_rfl))
  f276 := Tryd.func123.trans (congrArg some (by kernel_rfl))
  f277 := Tryd.func124.trans (congrArg some (by kernel_rfl))
  f278 := Tryd.func135.trans (congrArg some (by kernel_rfl))
  f313 := Tryd.func127.trans (congrArg some (by kernel_rfl))
  t0 := Tryd.underlying0
  a0 := Tryd.isAgg0
  z0 := Tryd.sizeOf0
  v0 := Tryd.zeroValue0
  t3 := Tryd.underlying3
  a3 := Tryd.isAgg3
  z3 := Tryd.sizeOf3
  v3 := Tryd.zeroValue3
  t4 := Tryd.underlying4
  a4 := Tryd.isAgg4
  z4 := Tryd.sizeOf4
  v4 := Tryd.zeroValue4
  t5 := Tryd.underlying5
  a5 := Tryd.isAgg5
  z5 := Tryd.sizeOf5
  v5 := Tryd.zeroValue5
  t9 := Tryd.underlying9
  a9 := Tryd.isAgg9
  z9 := Tryd.sizeOf9
  v9 := Tryd.zeroValue9
  t20 := Tryd.underlying20
  a20 := Tryd.isAgg20
  z20 := Tryd.sizeOf20
  v20 := Tryd.zeroValue20
  t21 := Tryd.underlying21
  a21 := Tryd.isAgg21
  z21 := Tryd.sizeOf21
  v21 := Tryd.zeroValue21
  t37 := Tryd.underlying65
  a37 := Tryd.isAgg65
  z37 := Tryd.sizeOf65
  v37 := Tryd.zeroValue65
  t46 := Tryd.underlying63
  a46 := Tryd.isAgg63
  z46 := Tryd.sizeOf63
  v46 := Tryd.zeroValue63
  t51 := Tryd.underlying38
  a51 := Tryd.isAgg38
  z51 := Tryd.sizeOf38
  v51 := Tryd.zeroValue38
  t70 := Tryd.underlying98
  a70 := Tryd.isAgg98
  z70 := Tryd.sizeOf98
  v70 := Tryd.zeroValue98
  t72 := Tryd.underlying100
  a72 := Tryd.isAgg100
  z72 := Tryd.sizeOf100
  v72 := Tryd.zeroValue100
  t75 := Tryd.underlying103
  a75 := Tryd.isAgg103
  z75 := Tryd.sizeOf103
  v75 := Tryd.zeroValue103
  t76 := Tryd.underlying104
  a76 := Tryd.isAgg104
  z76 := Tryd.sizeOf104
  v76 := Tryd.zeroValue104
  t105 := Tryd.underlying113
  a105 := Tryd.isAgg113
  z105 := Tryd.sizeOf113
  v105 := Tryd.zeroValue113
  t107 := Tryd.underlying109
  a107 := Tryd.isAgg109
  z107 := Tryd.sizeOf109
  v107 := Tryd.zeroValue109
  t119 := Tryd.underlying143
  a119 := Tryd.isAgg143
  z119 := Tryd.sizeOf143
  t127 := Tryd.underlying112
  a127 := Tryd.isAgg112
  z127 := Tryd.sizeOf112
  v127 := Tryd.zeroValue112
  t138 := Tryd.underlying145
  a138 := Tryd.isAgg145
  z138 := Tryd.sizeOf145
  v138 := Tryd.zeroValue145
  t139 := Tryd.underlying146
  a139 := Tryd.isAgg146
  z139 := Tryd.sizeOf146
  v139 := Tryd.zeroValue146
  t160 := Tryd.underlying147
  a160 := Tryd.isAgg147
  z160 := Tryd.sizeOf147
  v160 := Tryd.zeroValue147
  t162 := Tryd.underlying135
  a162 := Tryd.isAgg135
  z162 := Tryd.sizeOf135
  v162 := Tryd.zeroValue135
  t164 := Tryd.underlying129
  a164 := Tryd.isAgg129
  z164 := Tryd.sizeOf129
  v164 := Tryd.zeroValue129
  t203 := Tryd.underlying133
  a203 := Tryd.isAgg133
  z203 := Tryd.sizeOf133
  v203 := Tryd.zeroValue133
  t206 := Tryd.underlying155
  a206 := Tryd.isAgg155
  z206 := Tryd.sizeOf155
  v206 := Tryd.zeroValue155
  t208 := Tryd.underlying157
  a208 := Tryd.isAgg157
  z208 := Tryd.sizeOf157
  v208 := Tryd.zeroValue157
  g3 := by kernel_rfl
  g4 := by kernel_rfl
  g13 := by kernel_rfl
theorem lay158x : Go.Proofs.Builder.Extra Tryd.prog lay158Ren where
  sizeBuilder := by kernel_rfl
  liesBuilder := by kernel_rfl
  t5 := Tryd.underlying5
  a5 := Tryd.isAgg5
  z5 := Tryd.sizeOf5
  v5 := Tryd.zeroValue5
  infoByte := by kernel_rfl
  cellsByte := by kernel_rfl
  sizeByte := by kernel_rfl
  neB5 := by decide
end Go.Ev.Rag
namespace Go.Ev.Rag
open Go Go.Ev Go.Proofs Go.RowKit
set_option maxRecDepth 1000000
set_option linter.unusedVariables false
theorem St.below {T : Tab} {S : Stab} {w w' : World} {L : Loc} {h : Hs} {ids : List Nat} (hst : St T S w L h ids) (hb : Below w.heap.size w w') : St T S w' L h ids ∧ Ext w S L w' S L := by
  have hcell : ∀ a : Addr, a.block < w.heap.size → w'.cell? a = w.cell? a := fun a ha => hb.cell ha
  have hstay : Stays S w w' := fun b q hbq => hcell _ (hst.inv.stab b q hbq)
  refine ⟨⟨⟨fun r row hr => ?_, hst.inv.disj, fun b q hbq => ?_⟩, hst.nd, hst.fresh, hst.dom, hst.glob.mono (fun _ _ h => h) hstay⟩, ?_⟩
  · rcases hst.inv.rows r row hr with h1 | ⟨p, h1, h2⟩
    · exact .inl h1
    · exact .inr ⟨p, h1, h2.world (fun _ _ h => h) hstay (Loc.le_refl _) (hb.block _ h2.lt) h2.st⟩
  · have := hst.inv.stab b q hbq
    exact Nat.lt_of_lt_of_le this hb.size
  · exact ⟨fun _ _ h => h, hstay, Loc.le_refl _, fun _ _ h => .inl h, fun b hb' _ => hb.block b hb', hb.size, hb.os, hb.tape, hb.output, fun r p h => .inl ⟨r, p, h, rfl⟩, fun a ha => hb.frozen ha,
      fun b arr bt hbb => ⟨arr, by rw [hb.block b (lt_of_heap hbb)]; exact hbb, rfl⟩⟩
def c58 (args : List AV) (H : Hp) : Tree (AV × Hp) := match args, H with
  | [.sc (.string s)], [] => .br (s == ⟨#[97]⟩) (.leaf (.sc (.string ⟨#[65]⟩), [])) .fail
  | _, _ => .fail
theorem c58_run : ∀ args H v H', (c58 args H).val = some (v, H') → CallOK T0 58 args H v H' := by
  intro args H v H' hv
  unfold c58 at hv
  split at hv
  · rename_i s
    obtain ⟨hg, hv2⟩ := guard_val hv
    obtain rfl := eq_of_beq hg
    cases leaf_val hv2
    refine ⟨⟨_, _, Tryd.func58, rfl, rfl⟩, Nat.le_refl _, fun S w L us hst hr => ?_⟩
    simp only [RelL, Rel] at hr
    obtain ⟨u, rest, rfl, rfl, rfl⟩ := hr
    refine (Any.strings_ToUpper_ascii lay158 lay158x ⟨#[97]⟩ w (by decide) (fun j b hj => ?_)).mono ?_
    · cases j with
      | zero => cases hj; decide
      | succ j => cases hj
    · rintro e w' ⟨rfl, hb⟩
      obtain ⟨g1, g2⟩ := St.below hst hb
      refine ⟨_, S, L, rfl, ?_, g1, g2⟩
      simp only [Rel]
      rfl
  · cases hv
end Go.Ev.Rag
