/- The reference's bags: plain definitions. -/
import Derived.Test.YtajhpbahjindkaaDoorRe
import Derived.Test.YtajhpbahjindkaaDoorRc
set_option linter.unusedVariables false
set_option linter.unusedSimpArgs false
namespace Rgg
open Go
def ordS : Nat → List Nat
  | 1 => [0, 1]
  | 2 => [0, 1, 3, 2]
  | 3 => [0, 1, 3, 7, 5, 2, 6, 4]
  | 4 => [0, 1, 3, 7, 15, 11, 5, 13, 9, 2, 6, 14, 10, 4, 12, 8]
  | 5 => [0, 1, 3, 7, 15, 31, 23, 11, 27, 19, 5, 13, 29, 21, 9, 25, 17, 2, 6, 14, 30, 22, 10, 26, 18, 4, 12, 28, 20, 8, 24, 16]
  | _ => []
def setsL (K : Int) : List ByteArray := (ordS K.toNat).map word
def inI (n lo hi : Int) : Bool := decide (lo ≤ n) && decide (n ≤ hi)
def prErr (K : Int) (s : ByteArray) (i : Nat) (_ : Unit) (c : UInt8) : Int := bif !inI ((c.toNat : Int) - 97) 0 (K - 1) then 2 else bif decide (0 < i) && decide (c.toNat ≤ ((bts s).getD (i - 1) 0).toNat) then 7 else 0
def prX (K : Int) (s : ByteArray) : Sum (Int × Nat × Unit) Unit := Erx.errX (prErr K s) (fun _ _ _ => ()) (bts s) ()
def prE (K : Int) (s : ByteArray) : Int := Erx.errE (prX K s)
def hasS (l : List ByteArray) (s : ByteArray) : Bool := l.any fun x => x == s
def ofS (K : Int) (l : List ByteArray) : List ByteArray := (setsL K).filter fun x => hasS l x
def reS (K : Int) (l : List ByteArray) : List ByteArray := (setsL K).filter fun x => !hasS l x
def win (b : ByteArray) (c : UInt8) : Bool := (bts b).any fun x => x == c
def cmS (a b : ByteArray) : ByteArray := ⟨((bts a).filter fun c => win b c).toArray⟩
def ckErr (K : Int) (bags : List ByteArray) (i : Nat) (_ : Unit) (s : ByteArray) : Int := bif prE K s != 0 then prE K s else bif hasS (bags.take i) s then 6 else 0
def ckX (K : Int) (bags : List ByteArray) : Sum (Int × Nat × Unit) Unit := Erx.errX (ckErr K bags) (fun _ _ _ => ()) bags ()
def ckE (K : Int) (bags : List ByteArray) : Int := bif !inI K 1 5 then 1 else bif decide (32 < bags.length) then 3 else Erx.errE (ckX K bags)
def asE (K : Int) (bags : List ByteArray) (s : ByteArray) : Int := bif ckE K bags == 0 then prE K s else ckE K bags
def trR (K : Int) (bags : List ByteArray) (s : ByteArray) : List ByteArray := ofS K (bags.map fun b => cmS b s)
def szs (l : List ByteArray) : Bool := l.all fun s => decide (s.size ≤ 100000)
def tdR (K : Int) (bags : List ByteArray) : List ByteArray := bif ckE K bags == 0 then ofS K bags else []
def rsR (K : Int) (bags : List ByteArray) : List ByteArray := bif ckE K bags == 0 then reS K bags else []
def tcR (K : Int) (bags : List ByteArray) (s : ByteArray) : List ByteArray := bif asE K bags s == 0 then trR K bags s else []
def lng (l : List ByteArray) : Bool := l.any fun s => decide (30 < s.size)
end Rgg
namespace Go.Ev.Rag
open Go Go.Ev Go.Proofs
set_option maxRecDepth 1000000
set_option maxHeartbeats 0
end Go.Ev.Rag
namespace Go.Ev.Rag
open Go Go.Ev
set_option maxRecDepth 1000000
set_option maxHeartbeats 0
set_option linter.unusedVariables false
def c46t (K : Int) (l : List ByteArray) : Tree (AV × Hp) := .br (Rgg.szs l) (.leaf (vi (Rgg.ckE K l), [])) .fail
def c46 (args : List AV) (H : Hp) : Tree (AV × Hp) := match args, H with
  | [(.sc (.int .i64 K)), (.sl .str l false)], [] => c46t K l
  | _, _ => .fail
def c41t (K : Int) (l : List ByteArray) : Tree (AV × Hp) := .br (Rgg.szs l && sm l) (.leaf (.tuple [osW 0 (Rgg.tdR K l).length, vi (Rgg.ckE K l)], [some (rS (Rgg.tdR K l))])) .fail
def c41 (args : List AV) (H : Hp) : Tree (AV × Hp) := match args, H with
  | [(.sc (.int .i64 K)), (.sl .str l false)], [] => c41t K l
  | _, _ => .fail
def c43t (K : Int) (l : List ByteArray) : Tree (AV × Hp) := .br (Rgg.szs l && sm l) (.leaf (.tuple [osW 0 (Rgg.rsR K l).length, vi (Rgg.ckE K l)], [some (rS (Rgg.rsR K l))])) .fail
def c43 (args : List AV) (H : Hp) : Tree (AV × Hp) := match args, H with
  | [(.sc (.int .i64 K)), (.sl .str l false)], [] => c43t K l
  | _, _ => .fail
def c44t (K : Int) (l : List ByteArray) (s : ByteArray) : Tree (AV × Hp) := .br (Rgg.szs l && sm l && decide (s.size ≤ 100000)) (.leaf (.tuple [osW 0 (Rgg.tcR K l s).length, vi (Rgg.asE K l s)], [some (rS (Rgg.tcR K l s))])) .fail
def c44 (args : List AV) (H : Hp) : Tree (AV × Hp) := match args, H with
  | [(.sc (.int .i64 K)), (.sl .str l false), (.sc (.string s))], [] => c44t K l s
  | _, _ => .fail
end Go.Ev.Rag
namespace Go.Ev.Rag
open Go Go.Ev
set_option maxRecDepth 1000000
set_option maxHeartbeats 0
set_option linter.unusedVariables false
def c16t (args : List AV) (H : Hp) : Tree (AV × Hp) := match args, H with
  | [], [] => .leaf (vb true, [])
  | _, _ => .fail
def c15t (l m : List ByteArray) : Tree (AV × Hp) := .br (decide (80 < l.length)) (.leaf (vb true, [])) (.br (sm m) (.leaf (vb (Rgg.lng l || Rgg.lng m), [])) .fail)
def c15 (args : List AV) (H : Hp) : Tree (AV × Hp) := match args, H with
  | [(.sl .str l false), (.sl .str m false)], [] => c15t l m
  | _, _ => .fail
def c23t (a b : List ByteArray) : Tree (AV × Hp) := .br (sm a && a == b) (.leaf (vb true, [])) .fail
def c23 (args : List AV) (H : Hp) : Tree (AV × Hp) := match args, H with
  | [(.sl .str a false), (.sl .str b false)], [] => c23t a b
  | _, _ => .fail
noncomputable def S1 : Tab := ((((((R4).addCall 46 c46).addCall 41 c41).addCall 43 c43).addCall 44 c44).addCall 15 c15).addCall 23 c23
noncomputable def S2 : Tab := S1.addCall 16 c16t
end Go.Ev.Rag
