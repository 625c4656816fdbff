/- The search of the burn chapter: tables and normal forms. -/
import Derived.Test.YtpieoljeikpemaaDoorSd
import Derived.Test.YtpieoljeikpemaaDoorSp
namespace Go.Ev.Burn
open Go Go.Ev
set_option maxRecDepth 1000000
set_option linter.unusedVariables false
abbrev rV (v : AV) (t : TypeId) : Row := ⟨[v], true, t, false, false, none⟩
abbrev rVl (v : AV) (t : TypeId) : Row := ⟨[v], true, t, false, true, none⟩
abbrev nilSl : AV := .sc (.slice none 0 0)
abbrev nilA : AV := .sl (.int .i64) [] true
abbrev putB : AV := .fn (.func 113) [] [ps 1, ps 2, ps 3, ps 4, ps 5, ps 6]
abbrev putA : AV := .fn (.func 113) [] [ps 0, ps 1, ps 2, ps 3, ps 4, ps 5]
abbrev boxes (size n cnt kind : Int) (g : List Int) (gr : Nat) (fo : AV) (lo : Bool) (put : AV) : Hp := [some (rV (vi size) 3), some (rVl (ps gr) 99), some (rV (vi cnt) 3), some ⟨[fo], true, 25, false, lo, none⟩, some (rV (vi kind) 3), some (rVl put 122), some (rG n g)]
theorem nf52 (s : List Int) : evBody S15 52 [lI s] [] = (bif decide (0 < s.length) then
  bif bif decide (0 < s.length) then true else ([] : List Int).isEmpty then
    bif room (0 + s.length) 8 then
      some
        (.os 0 0 0 (0 + s.length) true false true,
          [some
              { c := [.run (.int .i64) s], vr := false, ty := 3, fz := false,
                loose := false }])
    else none
  else none
else none) := by kernel_rfl
def c52 (args : List AV) (H : Hp) : Tree (AV × Hp) := match args, H with
  | [(.sl (.int .i64) s false)], [] => .br (sm s && decide (0 < s.length)) (.leaf (osW 0 s.length, [some (rowI s 3)])) .fail
  | _, _ => .fail
theorem c52_ok {T : Tab} (hT : TabOK T) (h : ∀ (s : List Int) (r : AV × Hp), (.br (sm s && decide (0 < s.length)) (.leaf (osW 0 s.length, [some (rowI s 3)])) .fail : Tree (AV × Hp)).val = some r → evBody T 52 [lI s] [] = some r) : ∀ args H v H', (c52 args H).val = some (v, H') → CallOK T 52 args H v H' := by
  intro args H v H' hv
  unfold c52 at hv
  split at hv
  · exact evBody_sound hT (h _ _ hv)
  · cases hv

noncomputable def S16 : Tab := (S15).addCall 52 c52

def tBox (size n kind : Int) (g : List Int) (gr : Nat) (put : AV) (pre : Hp) (r : Bool × Int × List Int) : Tree (AV × Hp) :=
  .br r.2.2.isEmpty (.leaf (vb r.1, pre ++ boxes size n r.2.1 kind g gr nilSl false put)) (.leaf (vb r.1, pre ++ (boxes size n r.2.1 kind g gr (osW (gr + 1) r.2.2.length) true put ++ [some (rowI r.2.2 3)])))
/-- the closure put, with at most so many fires left -/
def c113B (d : Nat) (args : List AV) (H : Hp) : Tree (AV × Hp) := match args, H with
  | [.os 0 0 0 k true false true, .sc (.int .u64 b), .ps 1 0 0 0, .ps 2 0 0 0, .ps 3 0 0 0, .ps 4 0 0 0, .ps 5 0 0 0, .ps 6 0 0 0],
    [some ⟨[.run (.int .i64) fs], false, t, z, false, none⟩, some ⟨[.sc (.int .i64 size)], true, 3, false, false, none⟩, some ⟨[.ps 7 0 0 0], true, 99, false, true, none⟩, some ⟨[.sc (.int .i64 cnt)], true, 3, false, false, none⟩,
     some ⟨[.sc (.slice none 0 0)], true, 25, false, false, none⟩, some ⟨[.sc (.int .i64 kind)], true, 3, false, false, none⟩, some ⟨[.fn (.func 113) [] [.ps 1 0 0 0, .ps 2 0 0 0, .ps 3 0 0 0, .ps 4 0 0 0, .ps 5 0 0 0, .ps 6 0 0 0]], true, 122, false, true, none⟩, some ⟨[.sc (.int .i64 n), .run (.int .u64) g], true, 111, false, false, none⟩] =>
    .br (decide (k = fs.length) && decide (0 < k) && decide (0 ≤ size - fs.length) && decide (size - fs.length < d) && decide (size ≤ 9) && decide (1 ≤ n) && decide (n ≤ 9) && decide (g.length = 81) && Brn.capOK cnt (size - fs.length))
      (tBox size n kind g 7 putB [some (rowZ fs t z)] (Brn.putS n.toNat g (Brn.allN n) (kind == 2) (size - fs.length).toNat fs b cnt [])) .fail
  | _, _ => .fail
def tO {α β : Type} (o : Option β) (f : β → Tree α) : Tree α := match o with
  | some x => f x
  | none => .fail
def vW0 : AV → Option Nat
  | .os 0 0 0 k true false true => some k
  | _ => none
def vU : AV → Option Int
  | .sc (.int .u64 b) => some b
  | _ => none
def vI : AV → Option Int
  | .sc (.int .i64 b) => some b
  | _ => none
def vPs (r : Nat) : AV → Option Unit
  | .ps q 0 0 0 => cond (Nat.beq q r) (some ()) none
  | _ => none
def rFs : Option Row → Option (List Int × TypeId × Bool)
  | some ⟨[.run (.int .i64) fs], false, t, z, false, none⟩ => some (fs, t, z)
  | _ => none
def rInt : Option Row → Option Int
  | some ⟨[.sc (.int .i64 x)], true, 3, false, false, none⟩ => some x
  | _ => none
def rPs7 : Option Row → Option Unit
  | some ⟨[.ps 7 0 0 0], true, 99, false, true, none⟩ => some ()
  | _ => none
def rOs8 : Option Row → Option Nat
  | some ⟨[.os 8 0 0 kf true false true], true, 25, false, true, none⟩ => some kf
  | _ => none
def rPut : Option Row → Option Unit
  | some ⟨[.fn (.func 113) [] [.ps 1 0 0 0, .ps 2 0 0 0, .ps 3 0 0 0, .ps 4 0 0 0, .ps 5 0 0 0, .ps 6 0 0 0]], true, 122, false, true, none⟩ => some ()
  | _ => none
def rGr : Option Row → Option (Int × List Int)
  | some ⟨[.sc (.int .i64 n), .run (.int .u64) g], true, 111, false, false, none⟩ => some (n, g)
  | _ => none
def rL0 : Option Row → Option (List Int × TypeId)
  | some ⟨[.run (.int .i64) f], false, tf, false, false, none⟩ => some (f, tf)
  | _ => none
def c113C (d : Nat) (args : List AV) (H : Hp) : Tree (AV × Hp) := match args, H with
  | [a0, a1, a2, a3, a4, a5, a6, a7], [r0, r1, r2, r3, r4, r5, r6, r7, r8] =>
    tO (vW0 a0) fun k => tO (vU a1) fun b => tO (vPs 1 a2) fun _ => tO (vPs 2 a3) fun _ => tO (vPs 3 a4) fun _ => tO (vPs 4 a5) fun _ => tO (vPs 5 a6) fun _ => tO (vPs 6 a7) fun _ =>
    tO (rFs r0) fun (fs, t, z) => tO (rInt r1) fun size => tO (rPs7 r2) fun _ => tO (rInt r3) fun cnt => tO (rOs8 r4) fun kf => tO (rInt r5) fun kind => tO (rPut r6) fun _ => tO (rGr r7) fun (n, g) => tO (rL0 r8) fun (f, tf) =>
    .br (decide (k = fs.length) && decide (0 < k) && decide (0 ≤ size - fs.length) && decide (size - fs.length < d) && decide (size ≤ 9) && decide (1 ≤ n) && decide (n ≤ 9) && decide (g.length = 81) && Brn.capOK cnt (size - fs.length) && decide (0 < cnt))
      (.leaf (vb (Brn.putS n.toNat g (Brn.allN n) (kind == 2) (size - fs.length).toNat fs b cnt f).1, some (rowZ fs t z) :: (boxes size n (Brn.putS n.toNat g (Brn.allN n) (kind == 2) (size - fs.length).toNat fs b cnt f).2.1 kind g 7 (osW 8 kf) true putB ++ [some (rowI f tf)]))) .fail
  | _, _ => .fail
def c113A (d : Nat) (args : List AV) (H : Hp) : Tree (AV × Hp) := match args, H with
  | [.sl (.int .i64) [] true, .sc (.int .u64 b), .ps 0 0 0 0, .ps 1 0 0 0, .ps 2 0 0 0, .ps 3 0 0 0, .ps 4 0 0 0, .ps 5 0 0 0],
    [some ⟨[.sc (.int .i64 size)], true, 3, false, false, none⟩, some ⟨[.ps 6 0 0 0], true, 99, false, true, none⟩, some ⟨[.sc (.int .i64 cnt)], true, 3, false, false, none⟩,
     some ⟨[.sc (.slice none 0 0)], true, 25, false, false, none⟩, some ⟨[.sc (.int .i64 kind)], true, 3, false, false, none⟩, some ⟨[.fn (.func 113) [] [.ps 0 0 0 0, .ps 1 0 0 0, .ps 2 0 0 0, .ps 3 0 0 0, .ps 4 0 0 0, .ps 5 0 0 0]], true, 122, false, true, none⟩, some ⟨[.sc (.int .i64 n), .run (.int .u64) g], true, 111, false, false, none⟩] =>
    .br (decide (1 ≤ size) && decide (size < d) && decide (size ≤ 9) && decide (1 ≤ n) && decide (n ≤ 9) && decide (g.length = 81) && Brn.capOK cnt size)
      (tBox size n kind g 6 putA [] (Brn.putS n.toNat g (Brn.allN n) (kind == 2) size.toNat [] b cnt [])) .fail
  | _, _ => .fail
def c113 (d : Nat) (args : List AV) (H : Hp) : Tree (AV × Hp) := cond (Nat.beq H.length 8) (c113B d args H) (cond (Nat.beq H.length 9) (c113C d args H) (cond (Nat.beq H.length 7) (c113A d args H) .fail))
noncomputable def S16r : Tab := { S16 with refm := fun f => match f with
  | 97 => [0]
  | f => refB f }
noncomputable def S17 (d : Nat) : Tab := S16r.addCall 113 (c113 d)
theorem nl113Bn (d : Nat) (again : Ag) (fs : List Int) (t : TypeId) (z : Bool) (b size cnt kind n left m i : Int) (g : List Int) : lpStep (S17 d) 113 10 8 (lpc (S17 d) 113 10) again [osW 0 fs.length, vint .u64 b, ps 2, ps 6, vb false, vi left, vi m, vi i] (some (rowZ fs t z) :: boxes size n cnt kind g 7 nilSl false putB) = (bif decide (i < m) then
  bif room (fs.length + 1) 8 then
    bif decide (0 ≤ i) then
      bif decide (i < (↑9 : Int)) then
        bif decide (0 ≤ IntKind.i64.wrap (left - 1)) then
          bif decide (IntKind.i64.wrap (left - 1) < (↑9 : Int)) then
            oM g[(IntKind.i64.wrap (left - 1)).toNat + i.toNat * 9]? fun x =>
              bif
                  decide (fs.length + 1 = (fs ++ [i]).length) && decide (0 < fs.length + 1) &&
                                decide (0 ≤ size - (↑(fs ++ [i]).length : Int)) &&
                              decide (size - (↑(fs ++ [i]).length : Int) < (↑d : Int)) &&
                            decide (size ≤ 9) &&
                          decide (1 ≤ n) &&
                        decide (n ≤ 9) &&
                      decide (g.length = 81) &&
                    Brn.capOK cnt (size - (↑(fs ++ [i]).length : Int)) then
                bif
                    (Brn.putS n.toNat g (Brn.allN n) (kind == 2) (size - (↑(fs ++ [i]).length : Int)).toNat (fs ++ [i])
                            (IntKind.u64.wrap (↑(BitVec.ofInt 64 b ||| BitVec.ofInt 64 x).toNat : Int)) cnt
                            []).snd.snd.isEmpty then
                  bif
                      !(Brn.putS n.toNat g (Brn.allN n) (kind == 2) (size - (↑(fs ++ [i]).length : Int)).toNat
                            (fs ++ [i]) (IntKind.u64.wrap (↑(BitVec.ofInt 64 b ||| BitVec.ofInt 64 x).toNat : Int))
                            cnt []).fst then
                    some
                      (.ret,
                        [.os 0 0 0 fs.length true false true,
                          .sc (.int .u64 b), .ps 2 0 0 0, .ps 6 0 0 0,
                          .sc (.bool false), .sc (.int .i64 left),
                          .sc (.int .i64 m), .sc (.int .i64 i)],
                        [some
                            { c := [.run (.int .i64) fs], vr := false, ty := t, fz := z,
                              loose := false },
                          some
                            { c := [.sc (.int .i64 size)], vr := true, ty := 3,
                              fz := false, loose := false },
                          some
                            { c := [.ps 7 0 0 0], vr := true, ty := 99, fz := false,
                              loose := true },
                          some
                            {
                              c :=
                                [.sc
                                    (.int .i64
                                      (Brn.putS n.toNat g (Brn.allN n) (kind == 2)
                                            (size - (↑(fs ++ [i]).length : Int)).toNat (fs ++ [i])
                                            (IntKind.u64.wrap
                                              (↑(BitVec.ofInt 64 b ||| BitVec.ofInt 64 x).toNat : Int))
                                            cnt []).snd.fst)],
                              vr := true, ty := 3, fz := false, loose := false },
                          some
                            { c := [.sc (.slice none 0 0)], vr := true, ty := 25,
                              fz := false, loose := false },
                          some
                            { c := [.sc (.int .i64 kind)], vr := true, ty := 3,
                              fz := false, loose := false },
                          some
                            {
                              c :=
                                [.fn (Go.Fn.func 113) []
                                    [.ps 1 0 0 0, .ps 2 0 0 0, .ps 3 0 0 0, .ps 4 0 0 0,
                                      .ps 5 0 0 0, .ps 6 0 0 0]],
                              vr := true, ty := 122, fz := false, loose := true },
                          some
                            {
                              c :=
                                [.sc (.int .i64 n),
                                  .run (.int .u64) g],
                              vr := true, ty := 111, fz := false, loose := false }])
                  else
                    again
                      [.os 0 0 0 fs.length true false true,
                        .sc (.int .u64 b), .ps 2 0 0 0, .ps 6 0 0 0,
                        .sc (.bool false), .sc (.int .i64 left),
                        .sc (.int .i64 m),
                        .sc (.int .i64 (IntKind.i64.wrap (i + 1)))]
                      [some
                          { c := [.run (.int .i64) fs], vr := false, ty := t, fz := z,
                            loose := false },
                        some
                          { c := [.sc (.int .i64 size)], vr := true, ty := 3,
                            fz := false, loose := false },
                        some
                          { c := [.ps 7 0 0 0], vr := true, ty := 99, fz := false,
                            loose := true },
                        some
                          {
                            c :=
                              [.sc
                                  (.int .i64
                                    (Brn.putS n.toNat g (Brn.allN n) (kind == 2)
                                          (size - (↑(fs ++ [i]).length : Int)).toNat (fs ++ [i])
                                          (IntKind.u64.wrap (↑(BitVec.ofInt 64 b ||| BitVec.ofInt 64 x).toNat : Int))
                                          cnt []).snd.fst)],
                            vr := true, ty := 3, fz := false, loose := false },
                        some
                          { c := [.sc (.slice none 0 0)], vr := true, ty := 25,
                            fz := false, loose := false },
                        some
                          { c := [.sc (.int .i64 kind)], vr := true, ty := 3,
                            fz := false, loose := false },
                        some
                          {
                            c :=
                              [.fn (Go.Fn.func 113) []
                                  [.ps 1 0 0 0, .ps 2 0 0 0, .ps 3 0 0 0, .ps 4 0 0 0,
                                    .ps 5 0 0 0, .ps 6 0 0 0]],
                            vr := true, ty := 122, fz := false, loose := true },
                        some
                          {
                            c :=
                              [.sc (.int .i64 n),
                                .run (.int .u64) g],
                            vr := true, ty := 111, fz := false, loose := false }]
                else
                  bif
                      !(Brn.putS n.toNat g (Brn.allN n) (kind == 2) (size - (↑(fs ++ [i]).length : Int)).toNat
                            (fs ++ [i]) (IntKind.u64.wrap (↑(BitVec.ofInt 64 b ||| BitVec.ofInt 64 x).toNat : Int))
                            cnt []).fst then
                    some
                      (.ret,
                        [.os 0 0 0 fs.length true false true,
                          .sc (.int .u64 b), .ps 2 0 0 0, .ps 6 0 0 0,
                          .sc (.bool false), .sc (.int .i64 left),
                          .sc (.int .i64 m), .sc (.int .i64 i)],
                        [some
                            { c := [.run (.int .i64) fs], vr := false, ty := t, fz := z,
                              loose := false },
                          some
                            { c := [.sc (.int .i64 size)], vr := true, ty := 3,
                              fz := false, loose := false },
                          some
                            { c := [.ps 7 0 0 0], vr := true, ty := 99, fz := false,
                              loose := true },
                          some
                            {
                              c :=
                                [.sc
                                    (.int .i64
                                      (Brn.putS n.toNat g (Brn.allN n) (kind == 2)
                                            (size - (↑(fs ++ [i]).length : Int)).toNat (fs ++ [i])
                                            (IntKind.u64.wrap
                                              (↑(BitVec.ofInt 64 b ||| BitVec.ofInt 64 x).toNat : Int))
                                            cnt []).snd.fst)],
                              vr := true, ty := 3, fz := false, loose := false },
                          some
                            {
                              c :=
                                [.os 8 0 0
                                    (Brn.putS n.toNat g (Brn.allN n) (kind == 2)
                                            (size - (↑(fs ++ [i]).length : Int)).toNat (fs ++ [i])
                                            (IntKind.u64.wrap
                                              (↑(BitVec.ofInt 64 b ||| BitVec.ofInt 64 x).toNat : Int))
                                            cnt []).snd.snd.length
                                    true false true],
                              vr := true, ty := 25, fz := false, loose := true },
                          some
                            { c := [.sc (.int .i64 kind)], vr := true, ty := 3,
                              fz := false, loose := false },
                          some
                            {
                              c :=
                                [.fn (Go.Fn.func 113) []
                                    [.ps 1 0 0 0, .ps 2 0 0 0, .ps 3 0 0 0, .ps 4 0 0 0,
                                      .ps 5 0 0 0, .ps 6 0 0 0]],
                              vr := true, ty := 122, fz := false, loose := true },
                          some
                            {
                              c :=
                                [.sc (.int .i64 n),
                                  .run (.int .u64) g],
                              vr := true, ty := 111, fz := false, loose := false },
                          some
                            {
                              c :=
                                [.run (.int .i64)
                                    (Brn.putS n.toNat g (Brn.allN n) (kind == 2)
                                          (size - (↑(fs ++ [i]).length : Int)).toNat (fs ++ [i])
                                          (IntKind.u64.wrap (↑(BitVec.ofInt 64 b ||| BitVec.ofInt 64 x).toNat : Int))
                                          cnt []).snd.snd],
                              vr := false, ty := 3, fz := false, loose := false }])
                  else
                    again
                      [.os 0 0 0 fs.length true false true,
                        .sc (.int .u64 b), .ps 2 0 0 0, .ps 6 0 0 0,
                        .sc (.bool false), .sc (.int .i64 left),
                        .sc (.int .i64 m),
                        .sc (.int .i64 (IntKind.i64.wrap (i + 1)))]
                      [some
                          { c := [.run (.int .i64) fs], vr := false, ty := t, fz := z,
                            loose := false },
                        some
                          { c := [.sc (.int .i64 size)], vr := true, ty := 3,
                            fz := false, loose := false },
                        some
                          { c := [.ps 7 0 0 0], vr := true, ty := 99, fz := false,
                            loose := true },
                        some
                          {
                            c :=
                              [.sc
                                  (.int .i64
                                    (Brn.putS n.toNat g (Brn.allN n) (kind == 2)
                                          (size - (↑(fs ++ [i]).length : Int)).toNat (fs ++ [i])
                                          (IntKind.u64.wrap (↑(BitVec.ofInt 64 b ||| BitVec.ofInt 64 x).toNat : Int))
                                          cnt []).snd.fst)],
                            vr := true, ty := 3, fz := false, loose := false },
                        some
                          {
                            c :=
                              [.os 8 0 0
                                  (Brn.putS n.toNat g (Brn.allN n) (kind == 2)
                                          (size - (↑(fs ++ [i]).length : Int)).toNat (fs ++ [i])
                                          (IntKind.u64.wrap (↑(BitVec.ofInt 64 b ||| BitVec.ofInt 64 x).toNat : Int))
                                          cnt []).snd.snd.length
                                  true false true],
                            vr := true, ty := 25, fz := false, loose := true },
                        some
                          { c := [.sc (.int .i64 kind)], vr := true, ty := 3,
                            fz := false, loose := false },
                        some
                          {
                            c :=
                              [.fn (Go.Fn.func 113) []
                                  [.ps 1 0 0 0, .ps 2 0 0 0, .ps 3 0 0 0, .ps 4 0 0 0,
                                    .ps 5 0 0 0, .ps 6 0 0 0]],
                            vr := true, ty := 122, fz := false, loose := true },
                        some
                          {
                            c :=
                              [.sc (.int .i64 n),
                                .run (.int .u64) g],
                            vr := true, ty := 111, fz := false, loose := false },
                        some
                          {
                            c :=
                              [.run (.int .i64)
                                  (Brn.putS n.toNat g (Brn.allN n) (kind == 2)
                                        (size - (↑(fs ++ [i]).length : Int)).toNat (fs ++ [i])
                                        (IntKind.u64.wrap (↑(BitVec.ofInt 64 b ||| BitVec.ofInt 64 x).toNat : Int))
                                        cnt []).snd.snd],
                            vr := false, ty := 3, fz := false, loose := false }]
              else none
          else none
        else none
      else none
    else none
  else none
else
  some
    (.ext 0,
      [.os 0 0 0 fs.length true false true, .sc (.int .u64 b),
        .ps 2 0 0 0, .ps 6 0 0 0, .sc (.bool false),
        .sc (.int .i64 left), .sc (.int .i64 m),
        .sc (.int .i64 i)],
      [some
          { c := [.run (.int .i64) fs], vr := false, ty := t, fz := z,
            loose := false },
        some
          { c := [.sc (.int .i64 size)], vr := true, ty := 3, fz := false,
            loose := false },
        some
          { c := [.ps 7 0 0 0], vr := true, ty := 99, fz := false, loose := true },
        some
          { c := [.sc (.int .i64 cnt)], vr := true, ty := 3, fz := false,
            loose := false },
        some
          { c := [.sc (.slice none 0 0)], vr := true, ty := 25, fz := false,
            loose := false },
        some
          { c := [.sc (.int .i64 kind)], vr := true, ty := 3, fz := false,
            loose := false },
        some
          {
            c :=
              [.fn (Go.Fn.func 113) []
                  [.ps 1 0 0 0, .ps 2 0 0 0, .ps 3 0 0 0, .ps 4 0 0 0,
                    .ps 5 0 0 0, .ps 6 0 0 0]],
            vr := true, ty := 122, fz := false, loose := true },
        some
          { c := [.sc (.int .i64 n), .run (.int .u64) g],
            vr := true, ty := 111, fz := false, loose := false }])) := by kernel_rfl
theorem nl113Bs (d : Nat) (again : Ag) (fs f : List Int) (kf : Nat) (t tf : TypeId) (z : Bool) (b size cnt kind n left m i : Int) (g : List Int) : lpStep (S17 d) 113 10 8 (lpc (S17 d) 113 10) again [osW 0 fs.length, vint .u64 b, ps 2, ps 6, vb false, vi left, vi m, vi i] (some (rowZ fs t z) :: (boxes size n cnt kind g 7 (osW 8 kf) true putB ++ [some (rowI f tf)])) = (bif decide (i < m) then
  bif room (fs.length + 1) 8 then
    bif decide (0 ≤ i) then
      bif decide (i < (↑9 : Int)) then
        bif decide (0 ≤ IntKind.i64.wrap (left - 1)) then
          bif decide (IntKind.i64.wrap (left - 1) < (↑9 : Int)) then
            oM g[(IntKind.i64.wrap (left - 1)).toNat + i.toNat * 9]? fun x =>
              bif
                  decide (fs.length + 1 = (fs ++ [i]).length) && decide (0 < fs.length + 1) &&
                                  decide (0 ≤ size - (↑(fs ++ [i]).length : Int)) &&
                                decide (size - (↑(fs ++ [i]).length : Int) < (↑d : Int)) &&
                              decide (size ≤ 9) &&
                            decide (1 ≤ n) &&
                          decide (n ≤ 9) &&
                        decide (g.length = 81) &&
                      Brn.capOK cnt (size - (↑(fs ++ [i]).length : Int)) &&
                    decide (0 < cnt) then
                bif
                    !(Brn.putS n.toNat g (Brn.allN n) (kind == 2) (size - (↑(fs ++ [i]).length : Int)).toNat (fs ++ [i])
                          (IntKind.u64.wrap (↑(BitVec.ofInt 64 b ||| BitVec.ofInt 64 x).toNat : Int)) cnt f).fst then
                  some
                    (.ret,
                      [.os 0 0 0 fs.length true false true,
                        .sc (.int .u64 b), .ps 2 0 0 0, .ps 6 0 0 0,
                        .sc (.bool false), .sc (.int .i64 left),
                        .sc (.int .i64 m), .sc (.int .i64 i)],
                      [some
                          { c := [.run (.int .i64) fs], vr := false, ty := t, fz := z,
                            loose := false },
                        some
                          { c := [.sc (.int .i64 size)], vr := true, ty := 3,
                            fz := false, loose := false },
                        some
                          { c := [.ps 7 0 0 0], vr := true, ty := 99, fz := false,
                            loose := true },
                        some
                          {
                            c :=
                              [.sc
                                  (.int .i64
                                    (Brn.putS n.toNat g (Brn.allN n) (kind == 2)
                                          (size - (↑(fs ++ [i]).length : Int)).toNat (fs ++ [i])
                                          (IntKind.u64.wrap (↑(BitVec.ofInt 64 b ||| BitVec.ofInt 64 x).toNat : Int))
                                          cnt f).snd.fst)],
                            vr := true, ty := 3, fz := false, loose := false },
                        some
                          { c := [.os 8 0 0 kf true false true], vr := true, ty := 25,
                            fz := false, loose := true },
                        some
                          { c := [.sc (.int .i64 kind)], vr := true, ty := 3,
                            fz := false, loose := false },
                        some
                          {
                            c :=
                              [.fn (Go.Fn.func 113) []
                                  [.ps 1 0 0 0, .ps 2 0 0 0, .ps 3 0 0 0, .ps 4 0 0 0,
                                    .ps 5 0 0 0, .ps 6 0 0 0]],
                            vr := true, ty := 122, fz := false, loose := true },
                        some
                          {
                            c :=
                              [.sc (.int .i64 n),
                                .run (.int .u64) g],
                            vr := true, ty := 111, fz := false, loose := false },
                        some
                          { c := [.run (.int .i64) f], vr := false, ty := tf,
                            fz := false, loose := false }])
                else
                  again
                    [.os 0 0 0 fs.length true false true,
                      .sc (.int .u64 b), .ps 2 0 0 0, .ps 6 0 0 0,
                      .sc (.bool false), .sc (.int .i64 left),
                      .sc (.int .i64 m),
                      .sc (.int .i64 (IntKind.i64.wrap (i + 1)))]
                    [some
                        { c := [.run (.int .i64) fs], vr := false, ty := t, fz := z,
                          loose := false },
                      some
                        { c := [.sc (.int .i64 size)], vr := true, ty := 3,
                          fz := false, loose := false },
                      some
                        { c := [.ps 7 0 0 0], vr := true, ty := 99, fz := false, loose := true :
                          Row },
                      some
                        {
                          c :=
                            [.sc
                                (.int .i64
                                  (Brn.putS n.toNat g (Brn.allN n) (kind == 2)
                                        (size - (↑(fs ++ [i]).length : Int)).toNat (fs ++ [i])
                                        (IntKind.u64.wrap (↑(BitVec.ofInt 64 b ||| BitVec.ofInt 64 x).toNat : Int))
                                        cnt f).snd.fst)],
                          vr := true, ty := 3, fz := false, loose := false },
                      some
                        { c := [.os 8 0 0 kf true false true], vr := true, ty := 25,
                          fz := false, loose := true },
                      some
                        { c := [.sc (.int .i64 kind)], vr := true, ty := 3,
                          fz := false, loose := false },
                      some
                        {
                          c :=
                            [.fn (Go.Fn.func 113) []
                                [.ps 1 0 0 0, .ps 2 0 0 0, .ps 3 0 0 0, .ps 4 0 0 0,
                                  .ps 5 0 0 0, .ps 6 0 0 0]],
                          vr := true, ty := 122, fz := false, loose := true },
                      some
                        {
                          c :=
                            [.sc (.int .i64 n), .run (.int .u64) g],
                          vr := true, ty := 111, fz := false, loose := false },
                      some
                        { c := [.run (.int .i64) f], vr := false, ty := tf,
                          fz := false, loose := false }]
              else none
          else none
        else none
      else none
    else none
  else none
else
  some
    (.ext 0,
      [.os 0 0 0 fs.length true false true, .sc (.int .u64 b),
        .ps 2 0 0 0, .ps 6 0 0 0, .sc (.bool false),
        .sc (.int .i64 left), .sc (.int .i64 m),
        .sc (.int .i64 i)],
      [some
          { c := [.run (.int .i64) fs], vr := false, ty := t, fz := z,
            loose := false },
        some
          { c := [.sc (.int .i64 size)], vr := true, ty := 3, fz := false,
            loose := false },
        some
          { c := [.ps 7 0 0 0], vr := true, ty := 99, fz := false, loose := true },
        some
          { c := [.sc (.int .i64 cnt)], vr := true, ty := 3, fz := false,
            loose := false },
        some
          { c := [.os 8 0 0 kf true false true], vr := true, ty := 25, fz := false,
            loose := true },
        some
          { c := [.sc (.int .i64 kind)], vr := true, ty := 3, fz := false,
            loose := false },
        some
          {
            c :=
              [.fn (Go.Fn.func 113) []
                  [.ps 1 0 0 0, .ps 2 0 0 0, .ps 3 0 0 0, .ps 4 0 0 0,
                    .ps 5 0 0 0, .ps 6 0 0 0]],
            vr := true, ty := 122, fz := false, loose := true },
        some
          { c := [.sc (.int .i64 n), .run (.int .u64) g],
            vr := true, ty := 111, fz := false, loose := false },
        some
          { c := [.run (.int .i64) f], vr := false, ty := tf, fz := false,
            loose := false }])) := by kernel_rfl
theorem nl113Cs (d : Nat) (again : Ag) (fs f : List Int) (kf : Nat) (t tf : TypeId) (z : Bool) (b size cnt kind n left m i : Int) (g : List Int) : lpStep (S17 d) 113 10 9 (lpc (S17 d) 113 10) again [osW 0 fs.length, vint .u64 b, ps 2, ps 6, vb false, vi left, vi m, vi i] (some (rowZ fs t z) :: (boxes size n cnt kind g 7 (osW 8 kf) true putB ++ [some (rowI f tf)])) = (bif decide (i < m) then
  bif room (fs.length + 1) 8 then
    bif decide (0 ≤ i) then
      bif decide (i < (↑9 : Int)) then
        bif decide (0 ≤ IntKind.i64.wrap (left - 1)) then
          bif decide (IntKind.i64.wrap (left - 1) < (↑9 : Int)) then
            oM g[(IntKind.i64.wrap (left - 1)).toNat + i.toNat * 9]? fun x =>
              bif
                  decide (fs.length + 1 = (fs ++ [i]).length) && decide (0 < fs.length + 1) &&
                                  decide (0 ≤ size - (↑(fs ++ [i]).length : Int)) &&
                                decide (size - (↑(fs ++ [i]).length : Int) < (↑d : Int)) &&
                              decide (size ≤ 9) &&
                            decide (1 ≤ n) &&
                          decide (n ≤ 9) &&
                        decide (g.length = 81) &&
                      Brn.capOK cnt (size - (↑(fs ++ [i]).length : Int)) &&
                    decide (0 < cnt) then
                bif
                    !(Brn.putS n.toNat g (Brn.allN n) (kind == 2) (size - (↑(fs ++ [i]).length : Int)).toNat (fs ++ [i])
                          (IntKind.u64.wrap (↑(BitVec.ofInt 64 b ||| BitVec.ofInt 64 x).toNat : Int)) cnt f).fst then
                  some
                    (.ret,
                      [.os 0 0 0 fs.length true false true,
                        .sc (.int .u64 b), .ps 2 0 0 0, .ps 6 0 0 0,
                        .sc (.bool false), .sc (.int .i64 left),
                        .sc (.int .i64 m), .sc (.int .i64 i)],
                      [some
                          { c := [.run (.int .i64) fs], vr := false, ty := t, fz := z,
                            loose := false },
                        some
                          { c := [.sc (.int .i64 size)], vr := true, ty := 3,
                            fz := false, loose := false },
                        some
                          { c := [.ps 7 0 0 0], vr := true, ty := 99, fz := false,
                            loose := true },
                        some
                          {
                            c :=
                              [.sc
                                  (.int .i64
                                    (Brn.putS n.toNat g (Brn.allN n) (kind == 2)
                                          (size - (↑(fs ++ [i]).length : Int)).toNat (fs ++ [i])
                                          (IntKind.u64.wrap (↑(BitVec.ofInt 64 b ||| BitVec.ofInt 64 x).toNat : Int))
                                          cnt f).snd.fst)],
                            vr := true, ty := 3, fz := false, loose := false },
                        some
                          { c := [.os 8 0 0 kf true false true], vr := true, ty := 25,
                            fz := false, loose := true },
                        some
                          { c := [.sc (.int .i64 kind)], vr := true, ty := 3,
                            fz := false, loose := false },
                        some
                          {
                            c :=
                              [.fn (Go.Fn.func 113) []
                                  [.ps 1 0 0 0, .ps 2 0 0 0, .ps 3 0 0 0, .ps 4 0 0 0,
                                    .ps 5 0 0 0, .ps 6 0 0 0]],
                            vr := true, ty := 122, fz := false, loose := true },
                        some
                          {
                            c :=
                              [.sc (.int .i64 n),
                                .run (.int .u64) g],
                            vr := true, ty := 111, fz := false, loose := false },
                        some
                          { c := [.run (.int .i64) f], vr := false, ty := tf,
                            fz := false, loose := false }])
                else
                  again
                    [.os 0 0 0 fs.length true false true,
                      .sc (.int .u64 b), .ps 2 0 0 0, .ps 6 0 0 0,
                      .sc (.bool false), .sc (.int .i64 left),
                      .sc (.int .i64 m),
                      .sc (.int .i64 (IntKind.i64.wrap (i + 1)))]
                    [some
                        { c := [.run (.int .i64) fs], vr := false, ty := t, fz := z,
                          loose := false },
                      some
                        { c := [.sc (.int .i64 size)], vr := true, ty := 3,
                          fz := false, loose := false },
                      some
                        { c := [.ps 7 0 0 0], vr := true, ty := 99, fz := false, loose := true :
                          Row },
                      some
                        {
                          c :=
                            [.sc
                                (.int .i64
                                  (Brn.putS n.toNat g (Brn.allN n) (kind == 2)
                                        (size - (↑(fs ++ [i]).length : Int)).toNat (fs ++ [i])
                                        (IntKind.u64.wrap (↑(BitVec.ofInt 64 b ||| BitVec.ofInt 64 x).toNat : Int))
                                        cnt f).snd.fst)],
                          vr := true, ty := 3, fz := false, loose := false },
                      some
                        { c := [.os 8 0 0 kf true false true], vr := true, ty := 25,
                          fz := false, loose := true },
                      some
                        { c := [.sc (.int .i64 kind)], vr := true, ty := 3,
                          fz := false, loose := false },
                      some
                        {
                          c :=
                            [.fn (Go.Fn.func 113) []
                                [.ps 1 0 0 0, .ps 2 0 0 0, .ps 3 0 0 0, .ps 4 0 0 0,
                                  .ps 5 0 0 0, .ps 6 0 0 0]],
                          vr := true, ty := 122, fz := false, loose := true },
                      some
                        {
                          c :=
                            [.sc (.int .i64 n), .run (.int .u64) g],
                          vr := true, ty := 111, fz := false, loose := false },
                      some
                        { c := [.run (.int .i64) f], vr := false, ty := tf,
                          fz := false, loose := false }]
              else none
          else none
        else none
      else none
    else none
  else none
else
  some
    (.ext 0,
      [.os 0 0 0 fs.length true false true, .sc (.int .u64 b),
        .ps 2 0 0 0, .ps 6 0 0 0, .sc (.bool false),
        .sc (.int .i64 left), .sc (.int .i64 m),
        .sc (.int .i64 i)],
      [some
          { c := [.run (.int .i64) fs], vr := false, ty := t, fz := z,
            loose := false },
        some
          { c := [.sc (.int .i64 size)], vr := true, ty := 3, fz := false,
            loose := false },
        some
          { c := [.ps 7 0 0 0], vr := true, ty := 99, fz := false, loose := true },
        some
          { c := [.sc (.int .i64 cnt)], vr := true, ty := 3, fz := false,
            loose := false },
        some
          { c := [.os 8 0 0 kf true false true], vr := true, ty := 25, fz := false,
            loose := true },
        some
          { c := [.sc (.int .i64 kind)], vr := true, ty := 3, fz := false,
            loose := false },
        some
          {
            c :=
              [.fn (Go.Fn.func 113) []
                  [.ps 1 0 0 0, .ps 2 0 0 0, .ps 3 0 0 0, .ps 4 0 0 0,
                    .ps 5 0 0 0, .ps 6 0 0 0]],
            vr := true, ty := 122, fz := false, loose := true },
        some
          { c := [.sc (.int .i64 n), .run (.int .u64) g],
            vr := true, ty := 111, fz := false, loose := false },
        some
          { c := [.run (.int .i64) f], vr := false, ty := tf, fz := false,
            loose := false }])) := by kernel_rfl
theorem nl113An (d : Nat) (again : Ag) (b size cnt kind n left m i : Int) (g : List Int) : lpStep (S17 d) 113 10 7 (lpc (S17 d) 113 10) again [nilA, vint .u64 b, ps 1, ps 5, vb false, vi left, vi m, vi i] (boxes size n cnt kind g 6 nilSl false putA) = (bif decide (i < m) then
  bif decide (0 ≤ i) then
    bif decide (i < (↑9 : Int)) then
      bif decide (0 ≤ IntKind.i64.wrap (left - 1)) then
        bif decide (IntKind.i64.wrap (left - 1) < (↑9 : Int)) then
          oM g[(IntKind.i64.wrap (left - 1)).toNat + i.toNat * 9]? fun x =>
            bif
                decide (1 = 1) && decide (0 < 1) && decide (0 ≤ size - (↑1 : Int)) &&
                            decide (size - (↑1 : Int) < (↑d : Int)) &&
                          decide (size ≤ 9) &&
                        decide (1 ≤ n) &&
                      decide (n ≤ 9) &&
                    decide (g.length = 81) &&
                  Brn.capOK cnt (size - (↑1 : Int)) then
              bif
                  (Brn.putS n.toNat g (Brn.allN n) (kind == 2) (size - (↑1 : Int)).toNat ([] ++ [i])
                          (IntKind.u64.wrap (↑(BitVec.ofInt 64 b ||| BitVec.ofInt 64 x).toNat : Int)) cnt
                          []).snd.snd.isEmpty then
                bif
                    !(Brn.putS n.toNat g (Brn.allN n) (kind == 2) (size - (↑1 : Int)).toNat ([] ++ [i])
                          (IntKind.u64.wrap (↑(BitVec.ofInt 64 b ||| BitVec.ofInt 64 x).toNat : Int)) cnt
                          []).fst then
                  some
                    (.ret,
                      [.sl (.int .i64) [] true,
                        .sc (.int .u64 b), .ps 1 0 0 0, .ps 5 0 0 0,
                        .sc (.bool false), .sc (.int .i64 left),
                        .sc (.int .i64 m), .sc (.int .i64 i)],
                      [some
                          { c := [.sc (.int .i64 size)], vr := true, ty := 3,
                            fz := false, loose := false },
                        some
                          { c := [.ps 6 0 0 0], vr := true, ty := 99, fz := false,
                            loose := true },
                        some
                          {
                            c :=
                              [.sc
                                  (.int .i64
                                    (Brn.putS n.toNat g (Brn.allN n) (kind == 2) (size - (↑1 : Int)).toNat ([] ++ [i])
                                          (IntKind.u64.wrap (↑(BitVec.ofInt 64 b ||| BitVec.ofInt 64 x).toNat : Int))
                                          cnt []).snd.fst)],
                            vr := true, ty := 3, fz := false, loose := false },
                        some
                          { c := [.sc (.slice none 0 0)], vr := true, ty := 25,
                            fz := false, loose := false },
                        some
                          { c := [.sc (.int .i64 kind)], vr := true, ty := 3,
                            fz := false, loose := false },
                        some
                          {
                            c :=
                              [.fn (Go.Fn.func 113) []
                                  [.ps 0 0 0 0, .ps 1 0 0 0, .ps 2 0 0 0, .ps 3 0 0 0,
                                    .ps 4 0 0 0, .ps 5 0 0 0]],
                            vr := true, ty := 122, fz := false, loose := true },
                        some
                          {
                            c :=
                              [.sc (.int .i64 n),
                                .run (.int .u64) g],
                            vr := true, ty := 111, fz := false, loose := false }])
                else
                  again
                    [.sl (.int .i64) [] true,
                      .sc (.int .u64 b), .ps 1 0 0 0, .ps 5 0 0 0,
                      .sc (.bool false), .sc (.int .i64 left),
                      .sc (.int .i64 m),
                      .sc (.int .i64 (IntKind.i64.wrap (i + 1)))]
                    [some
                        { c := [.sc (.int .i64 size)], vr := true, ty := 3,
                          fz := false, loose := false },
                      some
                        { c := [.ps 6 0 0 0], vr := true, ty := 99, fz := false, loose := true :
                          Row },
                      some
                        {
                          c :=
                            [.sc
                                (.int .i64
                                  (Brn.putS n.toNat g (Brn.allN n) (kind == 2) (size - (↑1 : Int)).toNat ([] ++ [i])
                                        (IntKind.u64.wrap (↑(BitVec.ofInt 64 b ||| BitVec.ofInt 64 x).toNat : Int))
                                        cnt []).snd.fst)],
                          vr := true, ty := 3, fz := false, loose := false },
                      some
                        { c := [.sc (.slice none 0 0)], vr := true, ty := 25,
                          fz := false, loose := false },
                      some
                        { c := [.sc (.int .i64 kind)], vr := true, ty := 3,
                          fz := false, loose := false },
                      some
                        {
                          c :=
                            [.fn (Go.Fn.func 113) []
                                [.ps 0 0 0 0, .ps 1 0 0 0, .ps 2 0 0 0, .ps 3 0 0 0,
                                  .ps 4 0 0 0, .ps 5 0 0 0]],
                          vr := true, ty := 122, fz := false, loose := true },
                      some
                        {
                          c :=
                            [.sc (.int .i64 n), .run (.int .u64) g],
                          vr := true, ty := 111, fz := false, loose := false }]
              else
                bif
                    !(Brn.putS n.toNat g (Brn.allN n) (kind == 2) (size - (↑1 : Int)).toNat ([] ++ [i])
                          (IntKind.u64.wrap (↑(BitVec.ofInt 64 b ||| BitVec.ofInt 64 x).toNat : Int)) cnt
                          []).fst then
                  some
                    (.ret,
                      [.sl (.int .i64) [] true,
                        .sc (.int .u64 b), .ps 1 0 0 0, .ps 5 0 0 0,
                        .sc (.bool false), .sc (.int .i64 left),
                        .sc (.int .i64 m), .sc (.int .i64 i)],
                      [some
                          { c := [.sc (.int .i64 size)], vr := true, ty := 3,
                            fz := false, loose := false },
                        some
                          { c := [.ps 6 0 0 0], vr := true, ty := 99, fz := false,
                            loose := true },
                        some
                          {
                            c :=
                              [.sc
                                  (.int .i64
                                    (Brn.putS n.toNat g (Brn.allN n) (kind == 2) (size - (↑1 : Int)).toNat ([] ++ [i])
                                          (IntKind.u64.wrap (↑(BitVec.ofInt 64 b ||| BitVec.ofInt 64 x).toNat : Int))
                                          cnt []).snd.fst)],
                            vr := true, ty := 3, fz := false, loose := false },
                        some
                          {
                            c :=
                              [.os 7 0 0
                                  (Brn.putS n.toNat g (Brn.allN n) (kind == 2) (size - (↑1 : Int)).toNat ([] ++ [i])
                                          (IntKind.u64.wrap (↑(BitVec.ofInt 64 b ||| BitVec.ofInt 64 x).toNat : Int))
                                          cnt []).snd.snd.length
                                  true false true],
                            vr := true, ty := 25, fz := false, loose := true },
                        some
                          { c := [.sc (.int .i64 kind)], vr := true, ty := 3,
                            fz := false, loose := false },
                        some
                          {
                            c :=
                              [.fn (Go.Fn.func 113) []
                                  [.ps 0 0 0 0, .ps 1 0 0 0, .ps 2 0 0 0, .ps 3 0 0 0,
                                    .ps 4 0 0 0, .ps 5 0 0 0]],
                            vr := true, ty := 122, fz := false, loose := true },
                        some
                          {
                            c :=
                              [.sc (.int .i64 n),
                                .run (.int .u64) g],
                            vr := true, ty := 111, fz := false, loose := false },
                        some
                          {
                            c :=
                              [.run (.int .i64)
                                  (Brn.putS n.toNat g (Brn.allN n) (kind == 2) (size - (↑1 : Int)).toNat ([] ++ [i])
                                        (IntKind.u64.wrap (↑(BitVec.ofInt 64 b ||| BitVec.ofInt 64 x).toNat : Int))
                                        cnt []).snd.snd],
                            vr := false, ty := 3, fz := false, loose := false }])
                else
                  again
                    [.sl (.int .i64) [] true,
                      .sc (.int .u64 b), .ps 1 0 0 0, .ps 5 0 0 0,
                      .sc (.bool false), .sc (.int .i64 left),
                      .sc (.int .i64 m),
                      .sc (.int .i64 (IntKind.i64.wrap (i + 1)))]
                    [some
                        { c := [.sc (.int .i64 size)], vr := true, ty := 3,
                          fz := false, loose := false },
                      some
                        { c := [.ps 6 0 0 0], vr := true, ty := 99, fz := false, loose := true :
                          Row },
                      some
                        {
                          c :=
                            [.sc
                                (.int .i64
                                  (Brn.putS n.toNat g (Brn.allN n) (kind == 2) (size - (↑1 : Int)).toNat ([] ++ [i])
                                        (IntKind.u64.wrap (↑(BitVec.ofInt 64 b ||| BitVec.ofInt 64 x).toNat : Int))
                                        cnt []).snd.fst)],
                          vr := true, ty := 3, fz := false, loose := false },
                      some
                        {
                          c :=
                            [.os 7 0 0
                                (Brn.putS n.toNat g (Brn.allN n) (kind == 2) (size - (↑1 : Int)).toNat ([] ++ [i])
                                        (IntKind.u64.wrap (↑(BitVec.ofInt 64 b ||| BitVec.ofInt 64 x).toNat : Int))
                                        cnt []).snd.snd.length
                                true false true],
                          vr := true, ty := 25, fz := false, loose := true },
                      some
                        { c := [.sc (.int .i64 kind)], vr := true, ty := 3,
                          fz := false, loose := false },
                      some
                        {
                          c :=
                            [.fn (Go.Fn.func 113) []
                                [.ps 0 0 0 0, .ps 1 0 0 0, .ps 2 0 0 0, .ps 3 0 0 0,
                                  .ps 4 0 0 0, .ps 5 0 0 0]],
                          vr := true, ty := 122, fz := false, loose := true },
                      some
                        {
                          c :=
                            [.sc (.int .i64 n), .run (.int .u64) g],
                          vr := true, ty := 111, fz := false, loose := false },
                      some
                        {
                          c :=
                            [.run (.int .i64)
                                (Brn.putS n.toNat g (Brn.allN n) (kind == 2) (size - (↑1 : Int)).toNat ([] ++ [i])
                                      (IntKind.u64.wrap (↑(BitVec.ofInt 64 b ||| BitVec.ofInt 64 x).toNat : Int)) cnt
                                      []).snd.snd],
                          vr := false, ty := 3, fz := false, loose := false }]
            else none
        else none
      else none
    else none
  else none
else
  some
    (.ext 0,
      [.sl (.int .i64) [] true, .sc (.int .u64 b),
        .ps 1 0 0 0, .ps 5 0 0 0, .sc (.bool false),
        .sc (.int .i64 left), .sc (.int .i64 m),
        .sc (.int .i64 i)],
      [some
          { c := [.sc (.int .i64 size)], vr := true, ty := 3, fz := false,
            loose := false },
        some
          { c := [.ps 6 0 0 0], vr := true, ty := 99, fz := false, loose := true },
        some
          { c := [.sc (.int .i64 cnt)], vr := true, ty := 3, fz := false,
            loose := false },
        some
          { c := [.sc (.slice none 0 0)], vr := true, ty := 25, fz := false,
            loose := false },
        some
          { c := [.sc (.int .i64 kind)], vr := true, ty := 3, fz := false,
            loose := false },
        some
          {
            c :=
              [.fn (Go.Fn.func 113) []
                  [.ps 0 0 0 0, .ps 1 0 0 0, .ps 2 0 0 0, .ps 3 0 0 0,
                    .ps 4 0 0 0, .ps 5 0 0 0]],
            vr := true, ty := 122, fz := false, loose := true },
        some
          { c := [.sc (.int .i64 n), .run (.int .u64) g],
            vr := true, ty := 111, fz := false, loose := false }])) := by kernel_rfl
theorem nl113As (d : Nat) (again : Ag) (f : List Int) (kf : Nat) (tf : TypeId) (b size cnt kind n left m i : Int) (g : List Int) : lpStep (S17 d) 113 10 7 (lpc (S17 d) 113 10) again [nilA, vint .u64 b, ps 1, ps 5, vb false, vi left, vi m, vi i] (boxes size n cnt kind g 6 (osW 7 kf) true putA ++ [some (rowI f tf)]) = (bif decide (i < m) then
  bif decide (0 ≤ i) then
    bif decide (i < (↑9 : Int)) then
      bif decide (0 ≤ IntKind.i64.wrap (left - 1)) then
        bif decide (IntKind.i64.wrap (left - 1) < (↑9 : Int)) then
          oM g[(IntKind.i64.wrap (left - 1)).toNat + i.toNat * 9]? fun x =>
            bif
                decide (1 = 1) && decide (0 < 1) && decide (0 ≤ size - (↑1 : Int)) &&
                              decide (size - (↑1 : Int) < (↑d : Int)) &&
                            decide (size ≤ 9) &&
                          decide (1 ≤ n) &&
                        decide (n ≤ 9) &&
                      decide (g.length = 81) &&
                    Brn.capOK cnt (size - (↑1 : Int)) &&
                  decide (0 < cnt) then
              bif
                  !(Brn.putS n.toNat g (Brn.allN n) (kind == 2) (size - (↑1 : Int)).toNat ([] ++ [i])
                        (IntKind.u64.wrap (↑(BitVec.ofInt 64 b ||| BitVec.ofInt 64 x).toNat : Int)) cnt f).fst then
                some
                  (.ret,
                    [.sl (.int .i64) [] true,
                      .sc (.int .u64 b), .ps 1 0 0 0, .ps 5 0 0 0,
                      .sc (.bool false), .sc (.int .i64 left),
                      .sc (.int .i64 m), .sc (.int .i64 i)],
                    [some
                        { c := [.sc (.int .i64 size)], vr := true, ty := 3,
                          fz := false, loose := false },
                      some
                        { c := [.ps 6 0 0 0], vr := true, ty := 99, fz := false, loose := true :
                          Row },
                      some
                        {
                          c :=
                            [.sc
                                (.int .i64
                                  (Brn.putS n.toNat g (Brn.allN n) (kind == 2) (size - (↑1 : Int)).toNat ([] ++ [i])
                                        (IntKind.u64.wrap (↑(BitVec.ofInt 64 b ||| BitVec.ofInt 64 x).toNat : Int))
                                        cnt f).snd.fst)],
                          vr := true, ty := 3, fz := false, loose := false },
                      some
                        { c := [.os 7 0 0 kf true false true], vr := true, ty := 25,
                          fz := false, loose := true },
                      some
                        { c := [.sc (.int .i64 kind)], vr := true, ty := 3,
                          fz := false, loose := false },
                      some
                        {
                          c :=
                            [.fn (Go.Fn.func 113) []
                                [.ps 0 0 0 0, .ps 1 0 0 0, .ps 2 0 0 0, .ps 3 0 0 0,
                                  .ps 4 0 0 0, .ps 5 0 0 0]],
                          vr := true, ty := 122, fz := false, loose := true },
                      some
                        {
                          c :=
                            [.sc (.int .i64 n), .run (.int .u64) g],
                          vr := true, ty := 111, fz := false, loose := false },
                      some
                        { c := [.run (.int .i64) f], vr := false, ty := tf,
                          fz := false, loose := false }])
              else
                again
                  [.sl (.int .i64) [] true, .sc (.int .u64 b),
                    .ps 1 0 0 0, .ps 5 0 0 0, .sc (.bool false),
                    .sc (.int .i64 left), .sc (.int .i64 m),
                    .sc (.int .i64 (IntKind.i64.wrap (i + 1)))]
                  [some
                      { c := [.sc (.int .i64 size)], vr := true, ty := 3,
                        fz := false, loose := false },
                    some
                      { c := [.ps 6 0 0 0], vr := true, ty := 99, fz := false, loose := true :
                        Row },
                    some
                      {
                        c :=
                          [.sc
                              (.int .i64
                                (Brn.putS n.toNat g (Brn.allN n) (kind == 2) (size - (↑1 : Int)).toNat ([] ++ [i])
                                      (IntKind.u64.wrap (↑(BitVec.ofInt 64 b ||| BitVec.ofInt 64 x).toNat : Int)) cnt
                                      f).snd.fst)],
                        vr := true, ty := 3, fz := false, loose := false },
                    some
                      { c := [.os 7 0 0 kf true false true], vr := true, ty := 25,
                        fz := false, loose := true },
                    some
                      { c := [.sc (.int .i64 kind)], vr := true, ty := 3,
                        fz := false, loose := false },
                    some
                      {
                        c :=
                          [.fn (Go.Fn.func 113) []
                              [.ps 0 0 0 0, .ps 1 0 0 0, .ps 2 0 0 0, .ps 3 0 0 0,
                                .ps 4 0 0 0, .ps 5 0 0 0]],
                        vr := true, ty := 122, fz := false, loose := true },
                    some
                      {
                        c :=
                          [.sc (.int .i64 n), .run (.int .u64) g],
                        vr := true, ty := 111, fz := false, loose := false },
                    some
                      { c := [.run (.int .i64) f], vr := false, ty := tf,
                        fz := false, loose := false }]
            else none
        else none
      else none
    else none
  else none
else
  some
    (.ext 0,
      [.sl (.int .i64) [] true, .sc (.int .u64 b),
        .ps 1 0 0 0, .ps 5 0 0 0, .sc (.bool false),
        .sc (.int .i64 left), .sc (.int .i64 m),
        .sc (.int .i64 i)],
      [some
          { c := [.sc (.int .i64 size)], vr := true, ty := 3, fz := false,
            loose := false },
        some
          { c := [.ps 6 0 0 0], vr := true, ty := 99, fz := false, loose := true },
        some
          { c := [.sc (.int .i64 cnt)], vr := true, ty := 3, fz := false,
            loose := false },
        some
          { c := [.os 7 0 0 kf true false true], vr := true, ty := 25, fz := false,
            loose := true },
        some
          { c := [.sc (.int .i64 kind)], vr := true, ty := 3, fz := false,
            loose := false },
        some
          {
            c :=
              [.fn (Go.Fn.func 113) []
                  [.ps 0 0 0 0, .ps 1 0 0 0, .ps 2 0 0 0, .ps 3 0 0 0,
                    .ps 4 0 0 0, .ps 5 0 0 0]],
            vr := true, ty := 122, fz := false, loose := true },
        some
          { c := [.sc (.int .i64 n), .run (.int .u64) g],
            vr := true, ty := 111, fz := false, loose := false },
        some
          { c := [.run (.int .i64) f], vr := false, ty := tf, fz := false,
            loose := false }])) := by kernel_rfl
end Go.Ev.Burn

/- The search of the burn chapter: its loop as an entry. -/
namespace Go.Ev.Burn
open Go Go.Ev
set_option maxRecDepth 1000000
set_option linter.unusedVariables false
abbrev kvB (k : Nat) (b left m i : Int) : List AV := [osW 0 k, vint .u64 b, ps 2, ps 6, vb false, vi left, vi m, vi i]
abbrev kvA (b left m i : Int) : List AV := [nilA, vint .u64 b, ps 1, ps 5, vb false, vi left, vi m, vi i]
abbrev rowsN (size n kind : Int) (g : List Int) (gr : Nat) (put : AV) (pre : Hp) (c : Int) : Hp := pre ++ boxes size n c kind g gr nilSl false put
abbrev rowsS (size n kind : Int) (g : List Int) (gr : Nat) (put : AV) (pre : Hp) (c : Int) (f : List Int) : Hp := pre ++ (boxes size n c kind g gr (osW (gr + 1) f.length) true put ++ [some (rowI f 3)])
def tLoop (kv : Int → List AV) (rn : Int → Hp) (rs : Int → List Int → Hp) (n : Int) (X : Sum (Nat × Int × List Int) (Int × List Int)) : Tree (Out × List AV × Hp) :=
  .br (Brn.xStop X) (.br (Brn.xSt X).2.isEmpty (.leaf (.ret, kv (Brn.xIdx X), rn (Brn.xSt X).1)) (.leaf (.ret, kv (Brn.xIdx X), rs (Brn.xSt X).1 (Brn.xSt X).2)))
    (.br (Brn.xSt X).2.isEmpty (.leaf (.ext 0, kv n, rn (Brn.xSt X).1)) (.leaf (.ext 0, kv n, rs (Brn.xSt X).1 (Brn.xSt X).2)))
def gLoop (d k : Nat) (fs : List Int) (left size m n : Int) (g : List Int) (cnt : Int) : Bool :=
  decide (k = fs.length) && decide (left = size - fs.length) && decide (1 ≤ left) && decide (left ≤ (d : Int)) && decide (size ≤ 9) && decide (m = n) && decide (1 ≤ n) && decide (n ≤ 9) && decide (g.length = 81) && Brn.capOK cnt left
def l113B (d : Nat) (kv : List AV) (H : Hp) : Tree (Out × List AV × Hp) := match kv, H with
  | [.os 0 0 0 k true false true, .sc (.int .u64 b), .ps 2 0 0 0, .ps 6 0 0 0, .sc (.bool false), .sc (.int .i64 left), .sc (.int .i64 m), .sc (.int .i64 0)],
    [some ⟨[.run (.int .i64) fs], false, t, z, false, none⟩, some ⟨[.sc (.int .i64 size)], true, 3, false, false, none⟩, some ⟨[.ps 7 0 0 0], true, 99, false, true, none⟩, some ⟨[.sc (.int .i64 cnt)], true, 3, false, false, none⟩,
     some ⟨[.sc (.slice none 0 0)], true, 25, false, false, none⟩, some ⟨[.sc (.int .i64 kind)], true, 3, false, false, none⟩, some ⟨[.fn (.func 113) [] [.ps 1 0 0 0, .ps 2 0 0 0, .ps 3 0 0 0, .ps 4 0 0 0, .ps 5 0 0 0, .ps 6 0 0 0]], true, 122, false, true, none⟩, some ⟨[.sc (.int .i64 n), .run (.int .u64) g], true, 111, false, false, none⟩] =>
    .br (gLoop d k fs left size m n g cnt && decide (0 < k)) (tLoop (kvB k b left m) (rowsN size n kind g 7 putB [some (rowZ fs t z)]) (rowsS size n kind g 7 putB [some (rowZ fs t z)]) n (Brn.putX n.toNat g (Brn.allN n) (kind == 2) (left - 1).toNat fs b cnt [])) .fail
  | _, _ => .fail
def vF : AV → Option Unit
  | .sc (.bool false) => some ()
  | _ => none
def v0 : AV → Option Unit
  | .sc (.int .i64 0) => some ()
  | _ => none
def l113C (d : Nat) (kv : List AV) (H : Hp) : Tree (Out × List AV × Hp) := match kv, H with
  | [a0, a1, a2, a3, a4, a5, a6, a7], [r0, r1, r2, r3, r4, r5, r6, r7, r8] =>
    tO (vW0 a0) fun k => tO (vU a1) fun b => tO (vPs 2 a2) fun _ => tO (vPs 6 a3) fun _ => tO (vF a4) fun _ => tO (vI a5) fun left => tO (vI a6) fun m => tO (v0 a7) fun _ =>
    tO (rFs r0) fun (fs, t, z) => tO (rInt r1) fun size => tO (rPs7 r2) fun _ => tO (rInt r3) fun cnt => tO (rOs8 r4) fun kf => tO (rInt r5) fun kind => tO (rPut r6) fun _ => tO (rGr r7) fun (n, g) => tO (rL0 r8) fun (f, tf) =>
    .br (gLoop d k fs left size m n g cnt && decide (0 < k) && decide (0 < cnt)) (.br (Brn.xStop (Brn.putX n.toNat g (Brn.allN n) (kind == 2) (left - 1).toNat fs b cnt f))
      (.leaf (.ret, kvB k b left m (Brn.xIdx (Brn.putX n.toNat g (Brn.allN n) (kind == 2) (left - 1).toNat fs b cnt f)), some (rowZ fs t z) :: (boxes size n (Brn.xSt (Brn.putX n.toNat g (Brn.allN n) (kind == 2) (left - 1).toNat fs b cnt f)).1 kind g 7 (osW 8 kf) true putB ++ [some (rowI f tf)])))
      (.leaf (.ext 0, kvB k b left m n, some (rowZ fs t z) :: (boxes size n (Brn.xSt (Brn.putX n.toNat g (Brn.allN n) (kind == 2) (left - 1).toNat fs b cnt f)).1 kind g 7 (osW 8 kf) true putB ++ [some (rowI f tf)])))) .fail
  | _, _ => .fail
def l113A (d : Nat) (kv : List AV) (H : Hp) : Tree (Out × List AV × Hp) := match kv, H with
  | [.sl (.int .i64) [] true, .sc (.int .u64 b), .ps 1 0 0 0, .ps 5 0 0 0, .sc (.bool false), .sc (.int .i64 left), .sc (.int .i64 m), .sc (.int .i64 0)],
    [some ⟨[.sc (.int .i64 size)], true, 3, false, false, none⟩, some ⟨[.ps 6 0 0 0], true, 99, false, true, none⟩, some ⟨[.sc (.int .i64 cnt)], true, 3, false, false, none⟩,
     some ⟨[.sc (.slice none 0 0)], true, 25, false, false, none⟩, some ⟨[.sc (.int .i64 kind)], true, 3, false, false, none⟩, some ⟨[.fn (.func 113) [] [.ps 0 0 0 0, .ps 1 0 0 0, .ps 2 0 0 0, .ps 3 0 0 0, .ps 4 0 0 0, .ps 5 0 0 0]], true, 122, false, true, none⟩, some ⟨[.sc (.int .i64 n), .run (.int .u64) g], true, 111, false, false, none⟩] =>
    .br (gLoop d 0 [] left size m n g cnt) (tLoop (kvA b left m) (rowsN size n kind g 6 putA []) (rowsS size n kind g 6 putA []) n (Brn.putX n.toNat g (Brn.allN n) (kind == 2) (left - 1).toNat [] b cnt [])) .fail
  | _, _ => .fail
def l113 (d : Nat) (base : Nat) (kv : List AV) (H : Hp) : Tree (Out × List AV × Hp) := cond (Nat.beq base 8) (l113B d kv H) (cond (Nat.beq base 9) (l113C d kv H) (cond (Nat.beq base 7) (l113A d kv H) .fail))
noncomputable def S18 (d : Nat) : Tab := (S17 d).addLoop 113 10 (l113 d)
theorem nbB (d : Nat) (fs : List Int) (t : TypeId) (z : Bool) (b size cnt kind n : Int) (g : List Int) : evBody (S18 d) 113 [osW 0 fs.length, vint .u64 b, ps 1, ps 2, ps 3, ps 4, ps 5, ps 6] (some (rowZ fs t z) :: boxes size n cnt kind g 7 nilSl false putB) = (bif IntKind.i64.wrap (size - (↑fs.length : Int)) == 0 then
  bif decide (0 ≤ n) && decide (n ≤ 9) then
    bif b != Brn.allN n then
      some
        (.sc (.bool true),
          [some
              { c := [.run (.int .i64) fs], vr := false, ty := t, fz := z,
                loose := false },
            some
              { c := [.sc (.int .i64 size)], vr := true, ty := 3, fz := false,
                loose := false },
            some
              { c := [.ps 7 0 0 0], vr := true, ty := 99, fz := false, loose := true :
                Row },
            some
              { c := [.sc (.int .i64 cnt)], vr := true, ty := 3, fz := false,
                loose := false },
            some
              { c := [.sc (.slice none 0 0)], vr := true, ty := 25, fz := false,
                loose := false },
            some
              { c := [.sc (.int .i64 kind)], vr := true, ty := 3, fz := false,
                loose := false },
            some
              {
                c :=
                  [.fn (Go.Fn.func 113) []
                      [.ps 1 0 0 0, .ps 2 0 0 0, .ps 3 0 0 0, .ps 4 0 0 0,
                        .ps 5 0 0 0, .ps 6 0 0 0]],
                vr := true, ty := 122, fz := false, loose := true },
            some
              { c := [.sc (.int .i64 n), .run (.int .u64) g],
                vr := true, ty := 111, fz := false, loose := false }])
    else
      bif IntKind.i64.wrap (cnt + 1) == 1 then
        bif sm fs && decide (0 < fs.length) then
          some
            (.sc (.bool (kind == 2)),
              [some
                  { c := [.run (.int .i64) fs], vr := false, ty := t, fz := z,
                    loose := false },
                some
                  { c := [.sc (.int .i64 size)], vr := true, ty := 3, fz := false,
                    loose := false },
                some
                  { c := [.ps 7 0 0 0], vr := true, ty := 99, fz := false, loose := true :
                    Row },
                some
                  { c := [.sc (.int .i64 (IntKind.i64.wrap (cnt + 1)))], vr := true,
                    ty := 3, fz := false, loose := false },
                some
                  { c := [.os 8 0 0 fs.length true false true], vr := true, ty := 25,
                    fz := false, loose := true },
                some
                  { c := [.sc (.int .i64 kind)], vr := true, ty := 3, fz := false,
                    loose := false },
                some
                  {
                    c :=
                      [.fn (Go.Fn.func 113) []
                          [.ps 1 0 0 0, .ps 2 0 0 0, .ps 3 0 0 0, .ps 4 0 0 0,
                            .ps 5 0 0 0, .ps 6 0 0 0]],
                    vr := true, ty := 122, fz := false, loose := true },
                some
                  { c := [.sc (.int .i64 n), .run (.int .u64) g],
                    vr := true, ty := 111, fz := false, loose := false },
                some
                  { c := [.run (.int .i64) fs], vr := false, ty := 3, fz := false,
                    loose := false }])
        else none
      else
        some
          (.sc (.bool (kind == 2)),
            [some
                { c := [.run (.int .i64) fs], vr := false, ty := t, fz := z,
                  loose := false },
              some
                { c := [.sc (.int .i64 size)], vr := true, ty := 3, fz := false,
                  loose := false },
              some
                { c := [.ps 7 0 0 0], vr := true, ty := 99, fz := false, loose := true :
                  Row },
              some
                { c := [.sc (.int .i64 (IntKind.i64.wrap (cnt + 1)))], vr := true,
                  ty := 3, fz := false, loose := false },
              some
                { c := [.sc (.slice none 0 0)], vr := true, ty := 25, fz := false,
                  loose := false },
              some
                { c := [.sc (.int .i64 kind)], vr := true, ty := 3, fz := false,
                  loose := false },
              some
                {
                  c :=
                    [.fn (Go.Fn.func 113) []
                        [.ps 1 0 0 0, .ps 2 0 0 0, .ps 3 0 0 0, .ps 4 0 0 0,
                          .ps 5 0 0 0, .ps 6 0 0 0]],
                  vr := true, ty := 122, fz := false, loose := true },
              some
                { c := [.sc (.int .i64 n), .run (.int .u64) g],
                  vr := true, ty := 111, fz := false, loose := false }])
  else none
else
  bif
      decide (fs.length = fs.length) &&
                          decide
                            (IntKind.i64.wrap (size - (↑fs.length : Int)) = size - (↑fs.length : Int)) &&
                        decide (1 ≤ IntKind.i64.wrap (size - (↑fs.length : Int))) &&
                      decide (IntKind.i64.wrap (size - (↑fs.length : Int)) ≤ (↑d : Int)) &&
                    decide (size ≤ 9) &&
                  decide (n = n) &&
                decide (1 ≤ n) &&
              decide (n ≤ 9) &&
            decide (g.length = 81) &&
          Brn.capOK cnt (IntKind.i64.wrap (size - (↑fs.length : Int))) &&
        decide (0 < fs.length) then
    bif
        Brn.xStop
          (Brn.putX n.toNat g (Brn.allN n) (kind == 2) (IntKind.i64.wrap (size - (↑fs.length : Int)) - 1).toNat fs b
            cnt []) then
      bif
          (Brn.xSt
                (Brn.putX n.toNat g (Brn.allN n) (kind == 2) (IntKind.i64.wrap (size - (↑fs.length : Int)) - 1).toNat
                  fs b cnt [])).snd.isEmpty then
        some
          (.sc (.bool false),
            [some
                { c := [.run (.int .i64) fs], vr := false, ty := t, fz := z,
                  loose := false },
              some
                { c := [.sc (.int .i64 size)], vr := true, ty := 3, fz := false,
                  loose := false },
              some
                { c := [.ps 7 0 0 0], vr := true, ty := 99, fz := false, loose := true :
                  Row },
              some
                {
                  c :=
                    [.sc
                        (.int .i64
                          (Brn.xSt
                              (Brn.putX n.toNat g (Brn.allN n) (kind == 2)
                                (IntKind.i64.wrap (size - (↑fs.length : Int)) - 1).toNat fs b cnt [])).fst)],
                  vr := true, ty := 3, fz := false, loose := false },
              some
                { c := [.sc (.slice none 0 0)], vr := true, ty := 25, fz := false,
                  loose := false },
              some
                { c := [.sc (.int .i64 kind)], vr := true, ty := 3, fz := false,
                  loose := false },
              some
                {
                  c :=
                    [.fn (Go.Fn.func 113) []
                        [.ps 1 0 0 0, .ps 2 0 0 0, .ps 3 0 0 0, .ps 4 0 0 0,
                          .ps 5 0 0 0, .ps 6 0 0 0]],
                  vr := true, ty := 122, fz := false, loose := true },
              some
                { c := [.sc (.int .i64 n), .run (.int .u64) g],
                  vr := true, ty := 111, fz := false, loose := false }])
      else
        some
          (.sc (.bool false),
            [some
                { c := [.run (.int .i64) fs], vr := false, ty := t, fz := z,
                  loose := false },
              some
                { c := [.sc (.int .i64 size)], vr := true, ty := 3, fz := false,
                  loose := false },
              some
                { c := [.ps 7 0 0 0], vr := true, ty := 99, fz := false, loose := true :
                  Row },
              some
                {
                  c :=
                    [.sc
                        (.int .i64
                          (Brn.xSt
                              (Brn.putX n.toNat g (Brn.allN n) (kind == 2)
                                (IntKind.i64.wrap (size - (↑fs.length : Int)) - 1).toNat fs b cnt [])).fst)],
                  vr := true, ty := 3, fz := false, loose := false },
              some
                {
                  c :=
                    [.os 8 0 0
                        (Brn.xSt
                              (Brn.putX n.toNat g (Brn.allN n) (kind == 2)
                                (IntKind.i64.wrap (size - (↑fs.length : Int)) - 1).toNat fs b cnt [])).snd.length
                        true false true],
                  vr := true, ty := 25, fz := false, loose := true },
              some
                { c := [.sc (.int .i64 kind)], vr := true, ty := 3, fz := false,
                  loose := false },
              some
                {
                  c :=
                    [.fn (Go.Fn.func 113) []
                        [.ps 1 0 0 0, .ps 2 0 0 0, .ps 3 0 0 0, .ps 4 0 0 0,
                          .ps 5 0 0 0, .ps 6 0 0 0]],
                  vr := true, ty := 122, fz := false, loose := true },
              some
                { c := [.sc (.int .i64 n), .run (.int .u64) g],
                  vr := true, ty := 111, fz := false, loose := false },
              some
                {
                  c :=
                    [.run (.int .i64)
                        (Brn.xSt
                            (Brn.putX n.toNat g (Brn.allN n) (kind == 2)
                              (IntKind.i64.wrap (size - (↑fs.length : Int)) - 1).toNat fs b cnt [])).snd],
                  vr := false, ty := 3, fz := false, loose := false }])
    else
      bif
          (Brn.xSt
                (Brn.putX n.toNat g (Brn.allN n) (kind == 2) (IntKind.i64.wrap (size - (↑fs.length : Int)) - 1).toNat
                  fs b cnt [])).snd.isEmpty then
        some
          (.sc (.bool true),
            [some
                { c := [.run (.int .i64) fs], vr := false, ty := t, fz := z,
                  loose := false },
              some
                { c := [.sc (.int .i64 size)], vr := true, ty := 3, fz := false,
                  loose := false },
              some
                { c := [.ps 7 0 0 0], vr := true, ty := 99, fz := false, loose := true :
                  Row },
              some
                {
                  c :=
                    [.sc
                        (.int .i64
                          (Brn.xSt
                              (Brn.putX n.toNat g (Brn.allN n) (kind == 2)
                                (IntKind.i64.wrap (size - (↑fs.length : Int)) - 1).toNat fs b cnt [])).fst)],
                  vr := true, ty := 3, fz := false, loose := false },
              some
                { c := [.sc (.slice none 0 0)], vr := true, ty := 25, fz := false,
                  loose := false },
              some
                { c := [.sc (.int .i64 kind)], vr := true, ty := 3, fz := false,
                  loose := false },
              some
                {
                  c :=
                    [.fn (Go.Fn.func 113) []
                        [.ps 1 0 0 0, .ps 2 0 0 0, .ps 3 0 0 0, .ps 4 0 0 0,
                          .ps 5 0 0 0, .ps 6 0 0 0]],
                  vr := true, ty := 122, fz := false, loose := true },
              some
                { c := [.sc (.int .i64 n), .run (.int .u64) g],
                  vr := true, ty := 111, fz := false, loose := false }])
      else
        some
          (.sc (.bool true),
            [some
                { c := [.run (.int .i64) fs], vr := false, ty := t, fz := z,
                  loose := false },
              some
                { c := [.sc (.int .i64 size)], vr := true, ty := 3, fz := false,
                  loose := false },
              some
                { c := [.ps 7 0 0 0], vr := true, ty := 99, fz := false, loose := true :
                  Row },
              some
                {
                  c :=
                    [.sc
                        (.int .i64
                          (Brn.xSt
                              (Brn.putX n.toNat g (Brn.allN n) (kind == 2)
                                (IntKind.i64.wrap (size - (↑fs.length : Int)) - 1).toNat fs b cnt [])).fst)],
                  vr := true, ty := 3, fz := false, loose := false },
              some
                {
                  c :=
                    [.os 8 0 0
                        (Brn.xSt
                              (Brn.putX n.toNat g (Brn.allN n) (kind == 2)
                                (IntKind.i64.wrap (size - (↑fs.length : Int)) - 1).toNat fs b cnt [])).snd.length
                        true false true],
                  vr := true, ty := 25, fz := false, loose := true },
              some
                { c := [.sc (.int .i64 kind)], vr := true, ty := 3, fz := false,
                  loose := false },
              some
                {
                  c :=
                    [.fn (Go.Fn.func 113) []
                        [.ps 1 0 0 0, .ps 2 0 0 0, .ps 3 0 0 0, .ps 4 0 0 0,
                          .ps 5 0 0 0, .ps 6 0 0 0]],
                  vr := true, ty := 122, fz := false, loose := true },
              some
                { c := [.sc (.int .i64 n), .run (.int .u64) g],
                  vr := true, ty := 111, fz := false, loose := false },
              some
                {
                  c :=
                    [.run (.int .i64)
                        (Brn.xSt
                            (Brn.putX n.toNat g (Brn.allN n) (kind == 2)
                              (IntKind.i64.wrap (size - (↑fs.length : Int)) - 1).toNat fs b cnt [])).snd],
                  vr := false, ty := 3, fz := false, loose := false }])
  else none) := by kernel_rfl
theorem nbC (d : Nat) (fs f : List Int) (kf : Nat) (t tf : TypeId) (z : Bool) (b size cnt kind n : Int) (g : List Int) : evBody (S18 d) 113 [osW 0 fs.length, vint .u64 b, ps 1, ps 2, ps 3, ps 4, ps 5, ps 6] (some (rowZ fs t z) :: (boxes size n cnt kind g 7 (osW 8 kf) true putB ++ [some (rowI f tf)])) = (bif IntKind.i64.wrap (size - (↑fs.length : Int)) == 0 then
  bif decide (0 ≤ n) && decide (n ≤ 9) then
    bif b != Brn.allN n then
      some
        (.sc (.bool true),
          [some
              { c := [.run (.int .i64) fs], vr := false, ty := t, fz := z,
                loose := false },
            some
              { c := [.sc (.int .i64 size)], vr := true, ty := 3, fz := false,
                loose := false },
            some
              { c := [.ps 7 0 0 0], vr := true, ty := 99, fz := false, loose := true :
                Row },
            some
              { c := [.sc (.int .i64 cnt)], vr := true, ty := 3, fz := false,
                loose := false },
            some
              { c := [.os 8 0 0 kf true false true], vr := true, ty := 25, fz := false,
                loose := true },
            some
              { c := [.sc (.int .i64 kind)], vr := true, ty := 3, fz := false,
                loose := false },
            some
              {
                c :=
                  [.fn (Go.Fn.func 113) []
                      [.ps 1 0 0 0, .ps 2 0 0 0, .ps 3 0 0 0, .ps 4 0 0 0,
                        .ps 5 0 0 0, .ps 6 0 0 0]],
                vr := true, ty := 122, fz := false, loose := true },
            some
              { c := [.sc (.int .i64 n), .run (.int .u64) g],
                vr := true, ty := 111, fz := false, loose := false },
            some
              { c := [.run (.int .i64) f], vr := false, ty := tf, fz := false,
                loose := false }])
    else
      bif IntKind.i64.wrap (cnt + 1) == 1 then
        bif sm fs && decide (0 < fs.length) then
          some
            (.sc (.bool (kind == 2)),
              [some
                  { c := [.run (.int .i64) fs], vr := false, ty := t, fz := z,
                    loose := false },
                some
                  { c := [.sc (.int .i64 size)], vr := true, ty := 3, fz := false,
                    loose := false },
                some
                  { c := [.ps 7 0 0 0], vr := true, ty := 99, fz := false, loose := true :
                    Row },
                some
                  { c := [.sc (.int .i64 (IntKind.i64.wrap (cnt + 1)))], vr := true,
                    ty := 3, fz := false, loose := false },
                some
                  { c := [.os 9 0 0 fs.length true false true], vr := true, ty := 25,
                    fz := false, loose := true },
                some
                  { c := [.sc (.int .i64 kind)], vr := true, ty := 3, fz := false,
                    loose := false },
                some
                  {
                    c :=
                      [.fn (Go.Fn.func 113) []
                          [.ps 1 0 0 0, .ps 2 0 0 0, .ps 3 0 0 0, .ps 4 0 0 0,
                            .ps 5 0 0 0, .ps 6 0 0 0]],
                    vr := true, ty := 122, fz := false, loose := true },
                some
                  { c := [.sc (.int .i64 n), .run (.int .u64) g],
                    vr := true, ty := 111, fz := false, loose := false },
                some
                  { c := [.run (.int .i64) f], vr := false, ty := tf, fz := false,
                    loose := false },
                some
                  { c := [.run (.int .i64) fs], vr := false, ty := 3, fz := false,
                    loose := false }])
        else none
      else
        some
          (.sc (.bool (kind == 2)),
            [some
                { c := [.run (.int .i64) fs], vr := false, ty := t, fz := z,
                  loose := false },
              some
                { c := [.sc (.int .i64 size)], vr := true, ty := 3, fz := false,
                  loose := false },
              some
                { c := [.ps 7 0 0 0], vr := true, ty := 99, fz := false, loose := true :
                  Row },
              some
                { c := [.sc (.int .i64 (IntKind.i64.wrap (cnt + 1)))], vr := true,
                  ty := 3, fz := false, loose := false },
              some
                { c := [.os 8 0 0 kf true false true], vr := true, ty := 25,
                  fz := false, loose := true },
              some
                { c := [.sc (.int .i64 kind)], vr := true, ty := 3, fz := false,
                  loose := false },
              some
                {
                  c :=
                    [.fn (Go.Fn.func 113) []
                        [.ps 1 0 0 0, .ps 2 0 0 0, .ps 3 0 0 0, .ps 4 0 0 0,
                          .ps 5 0 0 0, .ps 6 0 0 0]],
                  vr := true, ty := 122, fz := false, loose := true },
              some
                { c := [.sc (.int .i64 n), .run (.int .u64) g],
                  vr := true, ty := 111, fz := false, loose := false },
              some
                { c := [.run (.int .i64) f], vr := false, ty := tf, fz := false,
                  loose := false }])
  else none
else
  bif
      decide (fs.length = fs.length) &&
                            decide
                              (IntKind.i64.wrap (size - (↑fs.length : Int)) = size - (↑fs.length : Int)) &&
                          decide (1 ≤ IntKind.i64.wrap (size - (↑fs.length : Int))) &&
                        decide (IntKind.i64.wrap (size - (↑fs.length : Int)) ≤ (↑d : Int)) &&
                      decide (size ≤ 9) &&
                    decide (n = n) &&
                  decide (1 ≤ n) &&
                decide (n ≤ 9) &&
              decide (g.length = 81) &&
            Brn.capOK cnt (IntKind.i64.wrap (size - (↑fs.length : Int))) &&
          decide (0 < fs.length) &&
        decide (0 < cnt) then
    bif
        Brn.xStop
          (Brn.putX n.toNat g (Brn.allN n) (kind == 2) (IntKind.i64.wrap (size - (↑fs.length : Int)) - 1).toNat fs b
            cnt f) then
      some
        (.sc (.bool false),
          [some
              { c := [.run (.int .i64) fs], vr := false, ty := t, fz := z,
                loose := false },
            some
              { c := [.sc (.int .i64 size)], vr := true, ty := 3, fz := false,
                loose := false },
            some
              { c := [.ps 7 0 0 0], vr := true, ty := 99, fz := false, loose := true :
                Row },
            some
              {
                c :=
                  [.sc
                      (.int .i64
                        (Brn.xSt
                            (Brn.putX n.toNat g (Brn.allN n) (kind == 2)
                              (IntKind.i64.wrap (size - (↑fs.length : Int)) - 1).toNat fs b cnt f)).fst)],
                vr := true, ty := 3, fz := false, loose := false },
            some
              { c := [.os 8 0 0 kf true false true], vr := true, ty := 25, fz := false,
                loose := true },
            some
              { c := [.sc (.int .i64 kind)], vr := true, ty := 3, fz := false,
                loose := false },
            some
              {
                c :=
                  [.fn (Go.Fn.func 113) []
                      [.ps 1 0 0 0, .ps 2 0 0 0, .ps 3 0 0 0, .ps 4 0 0 0,
                        .ps 5 0 0 0, .ps 6 0 0 0]],
                vr := true, ty := 122, fz := false, loose := true },
            some
              { c := [.sc (.int .i64 n), .run (.int .u64) g],
                vr := true, ty := 111, fz := false, loose := false },
            some
              { c := [.run (.int .i64) f], vr := false, ty := tf, fz := false,
                loose := false }])
    else
      some
        (.sc (.bool true),
          [some
              { c := [.run (.int .i64) fs], vr := false, ty := t, fz := z,
                loose := false },
            some
              { c := [.sc (.int .i64 size)], vr := true, ty := 3, fz := false,
                loose := false },
            some
              { c := [.ps 7 0 0 0], vr := true, ty := 99, fz := false, loose := true :
                Row },
            some
              {
                c :=
                  [.sc
                      (.int .i64
                        (Brn.xSt
                            (Brn.putX n.toNat g (Brn.allN n) (kind == 2)
                              (IntKind.i64.wrap (size - (↑fs.length : Int)) - 1).toNat fs b cnt f)).fst)],
                vr := true, ty := 3, fz := false, loose := false },
            some
              { c := [.os 8 0 0 kf true false true], vr := true, ty := 25, fz := false,
                loose := true },
            some
              { c := [.sc (.int .i64 kind)], vr := true, ty := 3, fz := false,
                loose := false },
            some
              {
                c :=
                  [.fn (Go.Fn.func 113) []
                      [.ps 1 0 0 0, .ps 2 0 0 0, .ps 3 0 0 0, .ps 4 0 0 0,
                        .ps 5 0 0 0, .ps 6 0 0 0]],
                vr := true, ty := 122, fz := false, loose := true },
            some
              { c := [.sc (.int .i64 n), .run (.int .u64) g],
                vr := true, ty := 111, fz := false, loose := false },
            some
              { c := [.run (.int .i64) f], vr := false, ty := tf, fz := false,
                loose := false }])
  else none) := by kernel_rfl
theorem nbA (d : Nat) (b size cnt kind n : Int) (g : List Int) : evBody (S18 d) 113 [nilA, vint .u64 b, ps 0, ps 1, ps 2, ps 3, ps 4, ps 5] (boxes size n cnt kind g 6 nilSl false putA) = (bif IntKind.i64.wrap (size - (↑0 : Int)) == 0 then
  bif decide (0 ≤ n) && decide (n ≤ 9) then
    bif b != Brn.allN n then
      some
        (.sc (.bool true),
          [some
              { c := [.sc (.int .i64 size)], vr := true, ty := 3, fz := false,
                loose := false },
            some
              { c := [.ps 6 0 0 0], vr := true, ty := 99, fz := false, loose := true :
                Row },
            some
              { c := [.sc (.int .i64 cnt)], vr := true, ty := 3, fz := false,
                loose := false },
            some
              { c := [.sc (.slice none 0 0)], vr := true, ty := 25, fz := false,
                loose := false },
            some
              { c := [.sc (.int .i64 kind)], vr := true, ty := 3, fz := false,
                loose := false },
            some
              {
                c :=
                  [.fn (Go.Fn.func 113) []
                      [.ps 0 0 0 0, .ps 1 0 0 0, .ps 2 0 0 0, .ps 3 0 0 0,
                        .ps 4 0 0 0, .ps 5 0 0 0]],
                vr := true, ty := 122, fz := false, loose := true },
            some
              { c := [.sc (.int .i64 n), .run (.int .u64) g],
                vr := true, ty := 111, fz := false, loose := false }])
    else
      bif IntKind.i64.wrap (cnt + 1) == 1 then none
      else
        some
          (.sc (.bool (kind == 2)),
            [some
                { c := [.sc (.int .i64 size)], vr := true, ty := 3, fz := false,
                  loose := false },
              some
                { c := [.ps 6 0 0 0], vr := true, ty := 99, fz := false, loose := true :
                  Row },
              some
                { c := [.sc (.int .i64 (IntKind.i64.wrap (cnt + 1)))], vr := true,
                  ty := 3, fz := false, loose := false },
              some
                { c := [.sc (.slice none 0 0)], vr := true, ty := 25, fz := false,
                  loose := false },
              some
                { c := [.sc (.int .i64 kind)], vr := true, ty := 3, fz := false,
                  loose := false },
              some
                {
                  c :=
                    [.fn (Go.Fn.func 113) []
                        [.ps 0 0 0 0, .ps 1 0 0 0, .ps 2 0 0 0, .ps 3 0 0 0,
                          .ps 4 0 0 0, .ps 5 0 0 0]],
                  vr := true, ty := 122, fz := false, loose := true },
              some
                { c := [.sc (.int .i64 n), .run (.int .u64) g],
                  vr := true, ty := 111, fz := false, loose := false }])
  else none
else
  bif
      decide (0 = 0) && decide (IntKind.i64.wrap (size - (↑0 : Int)) = size - (↑0 : Int)) &&
                      decide (1 ≤ IntKind.i64.wrap (size - (↑0 : Int))) &&
                    decide (IntKind.i64.wrap (size - (↑0 : Int)) ≤ (↑d : Int)) &&
                  decide (size ≤ 9) &&
                decide (n = n) &&
              decide (1 ≤ n) &&
            decide (n ≤ 9) &&
          decide (g.length = 81) &&
        Brn.capOK cnt (IntKind.i64.wrap (size - (↑0 : Int))) then
    bif
        Brn.xStop
          (Brn.putX n.toNat g (Brn.allN n) (kind == 2) (IntKind.i64.wrap (size - (↑0 : Int)) - 1).toNat [] b cnt
            []) then
      bif
          (Brn.xSt
                (Brn.putX n.toNat g (Brn.allN n) (kind == 2) (IntKind.i64.wrap (size - (↑0 : Int)) - 1).toNat [] b
                  cnt [])).snd.isEmpty then
        some
          (.sc (.bool false),
            [some
                { c := [.sc (.int .i64 size)], vr := true, ty := 3, fz := false,
                  loose := false },
              some
                { c := [.ps 6 0 0 0], vr := true, ty := 99, fz := false, loose := true :
                  Row },
              some
                {
                  c :=
                    [.sc
                        (.int .i64
                          (Brn.xSt
                              (Brn.putX n.toNat g (Brn.allN n) (kind == 2)
                                (IntKind.i64.wrap (size - (↑0 : Int)) - 1).toNat [] b cnt [])).fst)],
                  vr := true, ty := 3, fz := false, loose := false },
              some
                { c := [.sc (.slice none 0 0)], vr := true, ty := 25, fz := false,
                  loose := false },
              some
                { c := [.sc (.int .i64 kind)], vr := true, ty := 3, fz := false,
                  loose := false },
              some
                {
                  c :=
                    [.fn (Go.Fn.func 113) []
                        [.ps 0 0 0 0, .ps 1 0 0 0, .ps 2 0 0 0, .ps 3 0 0 0,
                          .ps 4 0 0 0, .ps 5 0 0 0]],
                  vr := true, ty := 122, fz := false, loose := true },
              some
                { c := [.sc (.int .i64 n), .run (.int .u64) g],
                  vr := true, ty := 111, fz := false, loose := false }])
      else
        some
          (.sc (.bool false),
            [some
                { c := [.sc (.int .i64 size)], vr := true, ty := 3, fz := false,
                  loose := false },
              some
                { c := [.ps 6 0 0 0], vr := true, ty := 99, fz := false, loose := true :
                  Row },
              some
                {
                  c :=
                    [.sc
                        (.int .i64
                          (Brn.xSt
                              (Brn.putX n.toNat g (Brn.allN n) (kind == 2)
                                (IntKind.i64.wrap (size - (↑0 : Int)) - 1).toNat [] b cnt [])).fst)],
                  vr := true, ty := 3, fz := false, loose := false },
              some
                {
                  c :=
                    [.os 7 0 0
                        (Brn.xSt
                              (Brn.putX n.toNat g (Brn.allN n) (kind == 2)
                                (IntKind.i64.wrap (size - (↑0 : Int)) - 1).toNat [] b cnt [])).snd.length
                        true false true],
                  vr := true, ty := 25, fz := false, loose := true },
              some
                { c := [.sc (.int .i64 kind)], vr := true, ty := 3, fz := false,
                  loose := false },
              some
                {
                  c :=
                    [.fn (Go.Fn.func 113) []
                        [.ps 0 0 0 0, .ps 1 0 0 0, .ps 2 0 0 0, .ps 3 0 0 0,
                          .ps 4 0 0 0, .ps 5 0 0 0]],
                  vr := true, ty := 122, fz := false, loose := true },
              some
                { c := [.sc (.int .i64 n), .run (.int .u64) g],
                  vr := true, ty := 111, fz := false, loose := false },
              some
                {
                  c :=
                    [.run (.int .i64)
                        (Brn.xSt
                            (Brn.putX n.toNat g (Brn.allN n) (kind == 2)
                              (IntKind.i64.wrap (size - (↑0 : Int)) - 1).toNat [] b cnt [])).snd],
                  vr := false, ty := 3, fz := false, loose := false }])
    else
      bif
          (Brn.xSt
                (Brn.putX n.toNat g (Brn.allN n) (kind == 2) (IntKind.i64.wrap (size - (↑0 : Int)) - 1).toNat [] b
                  cnt [])).snd.isEmpty then
        some
          (.sc (.bool true),
            [some
                { c := [.sc (.int .i64 size)], vr := true, ty := 3, fz := false,
                  loose := false },
              some
                { c := [.ps 6 0 0 0], vr := true, ty := 99, fz := false, loose := true :
                  Row },
              some
                {
                  c :=
                    [.sc
                        (.int .i64
                          (Brn.xSt
                              (Brn.putX n.toNat g (Brn.allN n) (kind == 2)
                                (IntKind.i64.wrap (size - (↑0 : Int)) - 1).toNat [] b cnt [])).fst)],
                  vr := true, ty := 3, fz := false, loose := false },
              some
                { c := [.sc (.slice none 0 0)], vr := true, ty := 25, fz := false,
                  loose := false },
              some
                { c := [.sc (.int .i64 kind)], vr := true, ty := 3, fz := false,
                  loose := false },
              some
                {
                  c :=
                    [.fn (Go.Fn.func 113) []
                        [.ps 0 0 0 0, .ps 1 0 0 0, .ps 2 0 0 0, .ps 3 0 0 0,
                          .ps 4 0 0 0, .ps 5 0 0 0]],
                  vr := true, ty := 122, fz := false, loose := true },
              some
                { c := [.sc (.int .i64 n), .run (.int .u64) g],
                  vr := true, ty := 111, fz := false, loose := false }])
      else
        some
          (.sc (.bool true),
            [some
                { c := [.sc (.int .i64 size)], vr := true, ty := 3, fz := false,
                  loose := false },
              some
                { c := [.ps 6 0 0 0], vr := true, ty := 99, fz := false, loose := true :
                  Row },
              some
                {
                  c :=
                    [.sc
                        (.int .i64
                          (Brn.xSt
                              (Brn.putX n.toNat g (Brn.allN n) (kind == 2)
                                (IntKind.i64.wrap (size - (↑0 : Int)) - 1).toNat [] b cnt [])).fst)],
                  vr := true, ty := 3, fz := false, loose := false },
              some
                {
                  c :=
                    [.os 7 0 0
                        (Brn.xSt
                              (Brn.putX n.toNat g (Brn.allN n) (kind == 2)
                                (IntKind.i64.wrap (size - (↑0 : Int)) - 1).toNat [] b cnt [])).snd.length
                        true false true],
                  vr := true, ty := 25, fz := false, loose := true },
              some
                { c := [.sc (.int .i64 kind)], vr := true, ty := 3, fz := false,
                  loose := false },
              some
                {
                  c :=
                    [.fn (Go.Fn.func 113) []
                        [.ps 0 0 0 0, .ps 1 0 0 0, .ps 2 0 0 0, .ps 3 0 0 0,
                          .ps 4 0 0 0, .ps 5 0 0 0]],
                  vr := true, ty := 122, fz := false, loose := true },
              some
                { c := [.sc (.int .i64 n), .run (.int .u64) g],
                  vr := true, ty := 111, fz := false, loose := false },
              some
                {
                  c :=
                    [.run (.int .i64)
                        (Brn.xSt
                            (Brn.putX n.toNat g (Brn.allN n) (kind == 2)
                              (IntKind.i64.wrap (size - (↑0 : Int)) - 1).toNat [] b cnt [])).snd],
                  vr := false, ty := 3, fz := false, loose := false }])
  else none) := by kernel_rfl
end Go.Ev.Burn

