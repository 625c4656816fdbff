/- What the search of the burn chapter comes to: plain definitions. -/
import Derived.Test.YtpieoljeikpemaaDoorSa
namespace Brn
open Go
def putF (P : List Int → Int → Int → List Int → Bool × Int × List Int) (g : List Int) (l : Nat) (fs : List Int) (b : Int) (i : Nat) (s : Int × List Int) (p : Nat) : Sum (Nat × Int × List Int) (Int × List Int) :=
  bif (P (fs ++ [(p : Int)]) (orU b (g.getD (l + p * 9) 0)) s.1 s.2).1 then .inr (P (fs ++ [(p : Int)]) (orU b (g.getD (l + p * 9) 0)) s.1 s.2).2 else .inl (i, (P (fs ++ [(p : Int)]) (orU b (g.getD (l + p * 9) 0)) s.1 s.2).2)
def outX : Sum (Nat × Int × List Int) (Int × List Int) → Bool × Int × List Int
  | .inl x => (false, x.2)
  | .inr x => (true, x)
def putS (n : Nat) (g : List Int) (all : Int) (many : Bool) : Nat → List Int → Int → Int → List Int → Bool × Int × List Int
  | 0, fs, b, c, f => bif b != all then (true, c, f) else (many, c + 1, bif c + 1 == 1 then fs else f)
  | l + 1, fs, b, c, f => outX (Ev.foldX (putF (putS n g all many l) g l fs b) 0 (List.range n) (c, f))
def putX (n : Nat) (g : List Int) (all : Int) (many : Bool) (l : Nat) (fs : List Int) (b c : Int) (f : List Int) : Sum (Nat × Int × List Int) (Int × List Int) := Ev.foldX (putF (putS n g all many l) g l fs b) 0 (List.range n) (c, f)
def xStop : Sum (Nat × Int × List Int) (Int × List Int) → Bool
  | .inl _ => true
  | .inr _ => false
def xIdx : Sum (Nat × Int × List Int) (Int × List Int) → Int
  | .inl x => x.1
  | .inr _ => 0
def xSt : Sum (Nat × Int × List Int) (Int × List Int) → Int × List Int
  | .inl x => x.2
  | .inr x => x
def capOK (cnt left : Int) : Bool := decide (0 ≤ cnt) && decide (cnt + ((9 ^ left.toNat : Nat) : Int) ≤ 1000000000000000000)
structure Fair (m : Nat) (fs : List Int) (c : Int) (f : List Int) (r : Int × List Int) : Prop where
  lo : c ≤ r.1
  hi : r.1 ≤ c + (m : Int)
  keep : 0 < c → r.2 = f
  pos : (f ≠ [] → 0 < c) → r.2 ≠ [] → 0 < r.1
theorem foldX_fair {P : List Int → Int → Int → List Int → Bool × Int × List Int} {g : List Int} {l m : Nat} {fs : List Int} {b : Int} (hP : ∀ p : Nat, ∀ b c f, 0 ≤ c → Fair m (fs ++ [(p : Int)]) c f (P (fs ++ [(p : Int)]) b c f).2) :
    ∀ (ps : List Nat) (i : Nat) (c : Int) (f : List Int), 0 ≤ c → Fair (ps.length * m) fs c f (xSt (Ev.foldX (putF P g l fs b) i ps (c, f)))
  | [], i, c, f, h => ⟨Int.le_refl _, by simp [Ev.foldX, xSt], fun _ => rfl, fun h1 h2 => h1 h2⟩
  | p :: ps, i, c, f, h => by
    simp only [Ev.foldX]
    have h1 := hP p (orU b (g.getD (l + p * 9) 0)) c f h
    generalize hr : P (fs ++ [(p : Int)]) (orU b (g.getD (l + p * 9) 0)) c f = r at h1
    have e : putF P g l fs b i (c, f) p = bif r.1 then .inr r.2 else .inl (i, r.2) := by unfold putF; simp only [hr]
    have hm : ((p :: ps).length * m : Nat) = ps.length * m + m := by rw [List.length_cons, Nat.succ_mul]
    rw [e, hm]
    obtain ⟨a1, a2, a3, a4⟩ := h1
    cases hx : r.1 with
    | false =>
      simp only [cond_false, xSt]
      exact ⟨a1, by push_cast; have : (0 : Int) ≤ ((ps.length * m : Nat) : Int) := Int.natCast_nonneg _; push_cast at this; omega, a3, a4⟩
    | true =>
      simp only [cond_true]
      have hq := foldX_fair (g := g) (l := l) (b := b) hP ps (i + 1) r.2.1 r.2.2 (by omega)
      rw [show (r.2.1, r.2.2) = r.2 from rfl] at hq
      obtain ⟨b1, b2, b3, b4⟩ := hq
      refine ⟨Int.le_trans a1 b1, by push_cast at b2 ⊢; omega, fun hc => ?_, fun hf h2 => b4 (fun h3 => a4 hf h3) h2⟩
      rw [b3 (by omega), a3 hc]
theorem putS_fair {n : Nat} (hn : n ≤ 9) {g : List Int} {all : Int} {many : Bool} : ∀ (l : Nat) (fs : List Int) (b c : Int) (f : List Int), 0 ≤ c → fs ≠ [] → Fair (9 ^ l) fs c f (putS n g all many l fs b c f).2
  | 0, fs, b, c, f, h, hfs => by
    simp only [putS]
    cases b != all with
    | true => exact ⟨Int.le_refl _, by simp; omega, fun _ => rfl, fun h1 h2 => h1 h2⟩
    | false =>
      simp only [cond_false]
      refine ⟨by show c ≤ c + 1; omega, by show c + 1 ≤ _; simp, fun hc => ?_, fun _ _ => by show 0 < c + 1; omega⟩
      have : (c + 1 == 1) = false := by simp; omega
      show (bif c + 1 == 1 then fs else f) = f
      rw [this]; rfl
  | l + 1, fs, b, c, f, h, hfs => by
    have hx : ∀ x : Sum (Nat × Int × List Int) (Int × List Int), (outX x).2 = xSt x := fun x => by cases x <;> rfl
    simp only [putS]
    rw [hx]
    have := foldX_fair (P := putS n g all many l) (g := g) (l := l) (fs := fs) (b := b) (fun p b c f hc => putS_fair (g := g) (all := all) (many := many) hn l (fs ++ [(p : Int)]) b c f hc (by simp)) (List.range n) 0 c f h
    obtain ⟨a1, a2, a3, a4⟩ := this
    refine ⟨a1, ?_, a3, a4⟩
    rw [List.length_range] at a2
    have : n * 9 ^ l ≤ 9 ^ (l + 1) := by rw [Nat.pow_succ, Nat.mul_comm (9 ^ l)]; exact Nat.mul_le_mul_right _ hn
    omega
end Brn
namespace Brn
open Go
def exts (n : Nat) : Nat → List Int → List (List Int)
  | 0, fs => [fs]
  | l + 1, fs => (List.range n).flatMap fun (p : Nat) => exts n l (fs ++ [(p : Int)])
def upd (s : Int × List Int) (x : List Int) : Int × List Int := (s.1 + 1, bif s.1 + 1 == 1 then x else s.2)
end Brn
namespace Brn
open Go
def enB (n : Int) (ws : W) (fs : List Int) : Bool := decide (((fs.foldl (dayNext n ws) []).length : Int) = n)
def solsF (n : Int) (ws : W) (l : Int) (fs : List Int) : List (List Int) := (exts n.toNat l.toNat fs).filter (enB n ws)
def sols (n : Int) (ws : W) (l : Int) : List (List Int) := solsF n ws l []
def dd (n : Int) (ws : W) : Nat := (List.range 9).findIdx (fun (k : Nat) => !(sols n ws ((k + 1 : Nat) : Int)).isEmpty) + 1
def srch (n : Int) (g : List Int) (many : Bool) (size : Int) : Int × List Int := (putS n.toNat g (allN n) many size.toNat [] 0 0 []).2
end Brn
namespace Brn
open Go
variable {n : Int} {ws : W}
end Brn
