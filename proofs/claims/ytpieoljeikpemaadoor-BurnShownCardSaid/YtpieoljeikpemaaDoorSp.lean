/- What the search of the burn chapter comes to: plain definitions. -/
import Derived.Test.YtpieoljeikpemaaDoorSa
namespace Brn
open Go
structure Fair (m : Nat) (fs : List Int) (c : Int) (f : List Int) (r : Int × List Int) : Prop where
  lo : c ≤ r.1
  hi : r.1 ≤ c + (m : Int)
  keep : 0 < c → r.2 = f
  pos : (f ≠ [] → 0 < c) → r.2 ≠ [] → 0 < r.1
end Brn
namespace Brn
open Go
def exts (n : Nat) : Nat → List Int → List (List Int)
  | 0, fs => [fs]
  | l + 1, fs => (List.range n).flatMap fun (p : Nat) => exts n l (fs ++ [(p : Int)])
def upd (s : Int × List Int) (x : List Int) : Int × List Int := (s.1 + 1, bif s.1 + 1 == 1 then x else s.2)
end Brn
namespace Brn
open Go
def enB (n : Int) (ws : W) (fs : List Int) : Bool := decide (((fs.foldl (dayNext n ws) []).length : Int) = n)
def solsF (n : Int) (ws : W) (l : Int) (fs : List Int) : List (List Int) := (exts n.toNat l.toNat fs).filter (enB n ws)
def sols (n : Int) (ws : W) (l : Int) : List (List Int) := solsF n ws l []
def dd (n : Int) (ws : W) : Nat := (List.range 9).findIdx (fun (k : Nat) => !(sols n ws ((k + 1 : Nat) : Int)).isEmpty) + 1
end Brn
namespace Brn
open Go
variable {n : Int} {ws : W}
end Brn
