/- Sets that are told apart: the reference's side; tables and normal forms. -/
import Derived.Test.YtajhpbahjindkaaDoorRf
import Derived.Test.YtajhpbahjindkaaDoorRk
set_option linter.unusedVariables false
set_option linter.unusedSimpArgs false
namespace Rgg
open Go
def paR (K : Int) (s : ByteArray) : List ByteArray := trR K (setsL K) s
def toR (K : Int) (bags : List ByteArray) (s : ByteArray) : Bool := ((trR K bags s).length : Int) == ((paR K s).length : Int)
def apR (K : Int) (bags : List ByteArray) : List ByteArray := bif ckE K bags == 0 then (setsL K).filter (toR K bags) else []
def mxN (l : List ByteArray) : Nat := l.foldl (fun n x => max n x.size) 0
def lgRE (K : Int) (bags : List ByteArray) : Int := bif ckE K bags == 0 && (bags.length : Int) == 0 then 4 else ckE K bags
def lgRN (K : Int) (bags : List ByteArray) : Int := bif lgRE K bags == 0 then (mxN (apR K bags) : Int) else 0
def msRL (K : Int) (bags : List ByteArray) (s : ByteArray) : List ByteArray := (paR K s).filter fun x => !hasS (trR K bags s) x
def msRE (K : Int) (bags : List ByteArray) (s : ByteArray) : Int := bif asE K bags s == 0 then (bif (msRL K bags s).isEmpty then 13 else 0) else asE K bags s
def msRS (K : Int) (bags : List ByteArray) (s : ByteArray) : ByteArray := bif asE K bags s == 0 then (bif (msRL K bags s).isEmpty then ⟨#[]⟩ else (msRL K bags s).headD ⟨#[]⟩) else ⟨#[]⟩
def pvA (K : Int) (bags : List ByteArray) (s p : ByteArray) : Int := bif asE K bags s == 0 then prE K p else asE K bags s
def pvR (K : Int) (bags : List ByteArray) (s p : ByteArray) : Int := bif pvA K bags s p == 0 && (cmS p s != p || hasS (trR K bags s) p) then 14 else pvA K bags s p
end Rgg
namespace Go.Ev.Rag
open Go Go.Ev
set_option maxRecDepth 1000000
set_option maxHeartbeats 0
set_option linter.unusedVariables false
theorem nf69 (K : Int) (s : ByteArray) : evBody Q7 69 [vi K, vS s] [] = (bif decide (1 ≤ K) && decide (K ≤ 5) then bif decide (1 ≤ K) && decide (K ≤ 5) && sm (Rgg.setsL K) && Rgg.szs (Rgg.setsL K) && decide (s.size ≤ 100000) then some (.os 0 0 0 (Rgg.trR K (Rgg.setsL K) s).length true false true, [some ⟨[.run .str (Rgg.trR K (Rgg.setsL K) s)], false, Rgg.tyS (Rgg.trR K (Rgg.setsL K) s), false, false, none⟩]) else none else none) := by kernel_rfl
theorem nf25 (K : Int) (bags : List ByteArray) (s p : ByteArray) : evBody Q7 25 [vi K, lS bags, vS s, vS p] [] = (bif Rgg.szs bags && decide (s.size ≤ 100000) then bif Rgg.asE K bags s == 0 then bif decide (1 ≤ K) && decide (K ≤ 5) && decide (p.size ≤ 100000) then bif Rgg.prE K p == 0 then bif decide (p.size ≤ 100000) && decide (s.size ≤ 100000) then bif !Rgg.cmS p s == p then some (vi 14, []) else bif decide (1 ≤ K) && decide (K ≤ 5) && sm bags && Rgg.szs bags && decide (s.size ≤ 100000) then bif sm (Rgg.trR K bags s) then bif Rgg.hasS (Rgg.trR K bags s) p then some (vi 14, []) else some (vi (Rgg.prE K p), []) else none else none else none else some (vi (Rgg.prE K p), []) else none else bif Rgg.asE K bags s == 0 then bif decide (p.size ≤ 100000) && decide (s.size ≤ 100000) then bif !Rgg.cmS p s == p then some (vi 14, []) else bif decide (1 ≤ K) && decide (K ≤ 5) && sm bags && Rgg.szs bags && decide (s.size ≤ 100000) then bif sm (Rgg.trR K bags s) then bif Rgg.hasS (Rgg.trR K bags s) p then some (vi 14, []) else some (vi (Rgg.asE K bags s), []) else none else none else none else some (vi (Rgg.asE K bags s), []) else none) := by kernel_rfl
def c69t (K : Int) (s : ByteArray) : Tree (AV × Hp) := .br (decide (1 ≤ K) && decide (K ≤ 5) && decide (s.size ≤ 100000)) (.leaf (osW 0 (Rgg.paR K s).length, [some (rS (Rgg.paR K s))])) .fail
def c69 (args : List AV) (H : Hp) : Tree (AV × Hp) := match args, H with
  | [(.sc (.int .i64 K)), (.sc (.string s))], [] => c69t K s
  | _, _ => .fail
theorem c69_ok {T : Tab} (hT : TabOK T) (h : ∀ (K : Int) (s : ByteArray) (r : AV × Hp), (c69t K s).val = some r → evBody T 69 [vi K, vS s] [] = some r) : ∀ args H v H', (c69 args H).val = some (v, H') → CallOK T 69 args H v H' := by
  intro args H v H' hv
  unfold c69 at hv
  split at hv
  · exact evBody_sound hT (h _ _ _ hv)
  · cases hv
def c25t (K : Int) (bags : List ByteArray) (s p : ByteArray) : Tree (AV × Hp) := .br (sm bags && Rgg.szs bags && decide (s.size ≤ 100000) && decide (p.size ≤ 100000)) (.leaf (vi (Rgg.pvR K bags s p), [])) .fail
def c25 (args : List AV) (H : Hp) : Tree (AV × Hp) := match args, H with
  | [(.sc (.int .i64 K)), (.sl .str bags false), (.sc (.string s)), (.sc (.string p))], [] => c25t K bags s p
  | _, _ => .fail
theorem c25_ok {T : Tab} (hT : TabOK T) (h : ∀ (K : Int) (bags : List ByteArray) (s p : ByteArray) (r : AV × Hp), (c25t K bags s p).val = some r → evBody T 25 [vi K, lS bags, vS s, vS p] [] = some r) : ∀ args H v H', (c25 args H).val = some (v, H') → CallOK T 25 args H v H' := by
  intro args H v H' hv
  unfold c25 at hv
  split at hv
  · exact evBody_sound hT (h _ _ _ _ _ hv)
  · cases hv
noncomputable def U1 : Tab := (Q7).addCall 69 c69
theorem nf64 (K : Int) (bags : List ByteArray) (s : ByteArray) : evBody U1 64 [vi K, lS bags, vS s] [] = (bif decide (1 ≤ K) && decide (K ≤ 5) && sm bags && Rgg.szs bags && decide (s.size ≤ 100000) then bif decide (1 ≤ K) && decide (K ≤ 5) && decide (s.size ≤ 100000) then some (vb ((↑(Rgg.trR K bags s).length : Int) == (↑(Rgg.paR K s).length : Int)), []) else none else none) := by kernel_rfl
def c64t (K : Int) (bags : List ByteArray) (s : ByteArray) : Tree (AV × Hp) := .br (decide (1 ≤ K) && decide (K ≤ 5) && sm bags && Rgg.szs bags && decide (s.size ≤ 100000)) (.leaf (vb (Rgg.toR K bags s), [])) .fail
def c64 (args : List AV) (H : Hp) : Tree (AV × Hp) := match args, H with
  | [(.sc (.int .i64 K)), (.sl .str bags false), (.sc (.string s))], [] => c64t K bags s
  | _, _ => .fail
theorem c64_ok {T : Tab} (hT : TabOK T) (h : ∀ (K : Int) (bags : List ByteArray) (s : ByteArray) (r : AV × Hp), (c64t K bags s).val = some r → evBody T 64 [vi K, lS bags, vS s] [] = some r) : ∀ args H v H', (c64 args H).val = some (v, H') → CallOK T 64 args H v H' := by
  intro args H v H' hv
  unfold c64 at hv
  split at hv
  · exact evBody_sound hT (h _ _ _ _ hv)
  · cases hv
noncomputable def U2 : Tab := (U1).addCall 64 c64
theorem nl18 (again : Ag) (K i : Int) (bags out al : List ByteArray) (ty : TypeId) : lpStep U2 18 7 0 (lpc U2 18 7) again [vi K, lS bags, osW 0 out.length, osW 1 al.length, vi i] [some (rowS out ty), some (rowS al 9)] = (bif decide (i < (↑al.length : Int)) then bif decide (0 ≤ i) then bif decide (i < (↑al.length : Int)) then oM al[i.toNat]? fun x => bif decide (1 ≤ K) && decide (K ≤ 5) && sm bags && Rgg.szs bags && decide (ByteArray.size x ≤ 100000) then bif Rgg.toR K bags x then bif decide (0 ≤ i) then bif decide (i < (↑al.length : Int)) then oM al[i.toNat]? fun x => bif room (out.length + 1) 16 then again [vi K, .sl .str bags false, osW 0 (out.length + 1), osW 1 al.length, vi (IntKind.i64.wrap (i + 1))] [some ⟨[.run .str (out ++ [x])], false, 9, false, false, none⟩, some ⟨[.run .str al], false, 9, false, false, none⟩] else none else none else none else again [vi K, .sl .str bags false, osW 0 out.length, osW 1 al.length, vi (IntKind.i64.wrap (i + 1))] [some ⟨[.run .str out], false, ty, false, false, none⟩, some ⟨[.run .str al], false, 9, false, false, none⟩] else none else none else none else some (.ext 0, [vi K, .sl .str bags false, osW 0 out.length, osW 1 al.length, vi i], [some { c := [.run .str out], vr := false, ty := ty, fz := false, loose := false : Row }, some { c := [.run .str al], vr := false, ty := 9, fz := false, loose := false : Row }])) := by kernel_rfl
theorem nl22 (again : Ag) (e : ByteArray) (i : Int) (l t : List ByteArray) (ty tz : TypeId) : lpStep U2 22 7 0 (lpc U2 22 7) again [vS e, vi 0, osW 0 l.length, osW 1 t.length, vi i] [some (rowS l ty), some (rowS t tz)] = (bif decide (i < (↑l.length : Int)) then bif decide (0 ≤ i) then bif decide (i < (↑l.length : Int)) then oM l[i.toNat]? fun x => bif sm t then bif !Rgg.hasS t x then bif decide (0 ≤ i) then bif decide (i < (↑l.length : Int)) then oM l[i.toNat]? fun x => some (.ret, [.sc (.string x), vi 0, osW 0 l.length, osW 1 t.length, vi i], [some ⟨[.run .str l], false, ty, false, false, none⟩, some ⟨[.run .str t], false, tz, false, false, none⟩]) else none else none else again [.sc (.string e), vi 0, osW 0 l.length, osW 1 t.length, vi (IntKind.i64.wrap (i + 1))] [some ⟨[.run .str l], false, ty, false, false, none⟩, some ⟨[.run .str t], false, tz, false, false, none⟩] else none else none else none else some (.ext 0, [.sc (.string e), vi 0, osW 0 l.length, osW 1 t.length, vi i], [some { c := [.run .str l], vr := false, ty := ty, fz := false, loose := false : Row }, some { c := [.run .str t], vr := false, ty := tz, fz := false, loose := false : Row }])) := by kernel_rfl
def l18_7t (K : Int) (bags al : List ByteArray) (k : Nat) : Tree (Out × List AV × Hp) := .br (decide (1 ≤ K) && decide (K ≤ 5) && sm bags && Rgg.szs bags && sm al && Rgg.szs al && decide (k = al.length)) (.leaf (.ext 0, [vi K, lS bags, osW 0 (al.filter (Rgg.toR K bags)).length, osW 1 al.length, vi al.length], [some (rS (al.filter (Rgg.toR K bags))), some (rowS al 9)])) .fail
def l18_7 (base : Nat) (kv : List AV) (H : Hp) : Tree (Out × List AV × Hp) := match Nat.beq base 0, kv, H with
  | true, [(.sc (.int .i64 K)), (.sl .str bags false), (.os 0 0 0 0 true false true), (.os 1 0 0 k true false true), (.sc (.int .i64 0))], [some ⟨[.run .str []], false, 0, false, false, none⟩, some ⟨[.run .str al], false, 9, false, false, none⟩] => l18_7t K bags al k
  | _, _, _ => .fail
theorem l18_7_ok {T : Tab} (hT : TabOK T) (hlo : loopOf T.fn 18 7 = some (lpc T 18 7)) (h : ∀ (K : Int) (bags al : List ByteArray) (k : Nat) (r : Out × List AV × Hp), (l18_7t K bags al k).val = some r → ∃ mm, lpRun T 18 7 0 (lpc T 18 7) mm [vi K, lS bags, osW 0 0, osW 1 k, vi 0] [some (rowS [] 0), some (rowS al 9)] = some r) : ∀ base kv H o kv' H', (l18_7 base kv H).val = some (o, kv', H') → LoopOK T 18 7 base kv H o kv' H' := by
  intro base kv H o kv' H' hv
  unfold l18_7 at hv
  split at hv
  · rename_i hb
    obtain rfl := Nat.eq_of_beq_eq_true hb
    exact loop_ok hT hlo (h _ _ _ _ _ hv)
  · cases hv
noncomputable def U3 : Tab := (U2).addLoop 18 7 l18_7
theorem nf18 (K : Int) (bags : List ByteArray) : evBody U3 18 [vi K, lS bags] [] = (bif Rgg.szs bags then bif Rgg.ckE K bags != 0 then some (.tuple [osW 0 0, vi (Rgg.ckE K bags)], [some { c := [.run .str []], vr := false, ty := 0, fz := false, loose := false : Row }]) else bif decide (1 ≤ K) && decide (K ≤ 5) then bif decide (1 ≤ K) && decide (K ≤ 5) && sm bags && Rgg.szs bags && sm (Rgg.setsL K) && Rgg.szs (Rgg.setsL K) && decide ((Rgg.setsL K).length = (Rgg.setsL K).length) then some (.tuple [.os 0 0 0 (List.filter (Rgg.toR K bags) (Rgg.setsL K)).length true false true, vi 0], [some { c := [.run .str (List.filter (Rgg.toR K bags) (Rgg.setsL K))], vr := false, ty := Rgg.tyS (List.filter (Rgg.toR K bags) (Rgg.setsL K)), fz := false, loose := false : Row }]) else none else none else none) := by kernel_rfl
def c18t (K : Int) (bags : List ByteArray) : Tree (AV × Hp) := .br (sm bags && Rgg.szs bags) (.leaf (.tuple [osW 0 (Rgg.apR K bags).length, vi (Rgg.ckE K bags)], [some (rS (Rgg.apR K bags))])) .fail
def c18 (args : List AV) (H : Hp) : Tree (AV × Hp) := match args, H with
  | [(.sc (.int .i64 K)), (.sl .str bags false)], [] => c18t K bags
  | _, _ => .fail
theorem c18_ok {T : Tab} (hT : TabOK T) (h : ∀ (K : Int) (bags : List ByteArray) (r : AV × Hp), (c18t K bags).val = some r → evBody T 18 [vi K, lS bags] [] = some r) : ∀ args H v H', (c18 args H).val = some (v, H') → CallOK T 18 args H v H' := by
  intro args H v H' hv
  unfold c18 at hv
  split at hv
  · exact evBody_sound hT (h _ _ _ hv)
  · cases hv
noncomputable def U4 : Tab := (U2).addCall 18 c18
theorem nl20 (again : Ag) (l : List ByteArray) (n i : Int) (ty : TypeId) : lpStep U4 20 8 0 (lpc U4 20 8) again [osW 0 l.length, vi n, vi i] [some (rowS l ty)] = (bif decide (i < (↑l.length : Int)) then bif decide (0 ≤ i) then bif decide (i < (↑l.length : Int)) then oM l[i.toNat]? fun x => again [osW 0 l.length, vi (if (↑(ByteArray.size x) : Int) > n then (↑(ByteArray.size x) : Int) else n), vi (IntKind.i64.wrap (i + 1))] [some { c := [.run .str l], vr := false, ty := ty, fz := false, loose := false : Row }] else none else none else some (.ext 0, [osW 0 l.length, vi n, vi i], [some { c := [.run .str l], vr := false, ty := ty, fz := false, loose := false : Row }])) := by kernel_rfl
def l20_8t (l : List ByteArray) (k : Nat) (ty : TypeId) : Tree (Out × List AV × Hp) := .br (sm l && Rgg.szs l && decide (k = l.length)) (.leaf (.ext 0, [osW 0 l.length, vi (Rgg.mxN l : Nat), vi l.length], [some (rowS l ty)])) .fail
def l20_8 (base : Nat) (kv : List AV) (H : Hp) : Tree (Out × List AV × Hp) := match Nat.beq base 0, kv, H with
  | true, [(.os 0 0 0 k true false true), (.sc (.int .i64 0)), (.sc (.int .i64 0))], [some ⟨[.run .str l], false, ty, false, false, none⟩] => l20_8t l k ty
  | _, _, _ => .fail
theorem l20_8_ok {T : Tab} (hT : TabOK T) (hlo : loopOf T.fn 20 8 = some (lpc T 20 8)) (h : ∀ (l : List ByteArray) (k : Nat) (ty : TypeId) (r : Out × List AV × Hp), (l20_8t l k ty).val = some r → ∃ mm, lpRun T 20 8 0 (lpc T 20 8) mm [osW 0 k, vi 0, vi 0] [some (rowS l ty)] = some r) : ∀ base kv H o kv' H', (l20_8 base kv H).val = some (o, kv', H') → LoopOK T 20 8 base kv H o kv' H' := by
  intro base kv H o kv' H' hv
  unfold l20_8 at hv
  split at hv
  · rename_i hb
    obtain rfl := Nat.eq_of_beq_eq_true hb
    exact loop_ok hT hlo (h _ _ _ _ hv)
  · cases hv
def l22_7t (e : ByteArray) (l t : List ByteArray) (k m : Nat) (ty tz : TypeId) : Tree (Out × List AV × Hp) := .br (sm l && sm t && decide (k = l.length) && decide (m = t.length)) (.br (l.filter fun x => !Rgg.hasS t x).isEmpty (.leaf (.ext 0, [vS e, vi 0, osW 0 l.length, osW 1 t.length, vi l.length], [some (rowS l ty), some (rowS t tz)])) (.leaf (.ret, [vS ((l.filter fun x => !Rgg.hasS t x).headD ⟨#[]⟩), vi 0, osW 0 l.length, osW 1 t.length, vi (l.findIdx fun x => !Rgg.hasS t x)], [some (rowS l ty), some (rowS t tz)]))) .fail
def l22_7 (base : Nat) (kv : List AV) (H : Hp) : Tree (Out × List AV × Hp) := match Nat.beq base 0, kv, H with
  | true, [(.sc (.string e)), (.sc (.int .i64 0)), (.os 0 0 0 k true false true), (.os 1 0 0 m true false true), (.sc (.int .i64 0))], [some ⟨[.run .str l], false, ty, false, false, none⟩, some ⟨[.run .str t], false, tz, false, false, none⟩] => l22_7t e l t k m ty tz
  | _, _, _ => .fail
theorem l22_7_ok {T : Tab} (hT : TabOK T) (hlo : loopOf T.fn 22 7 = some (lpc T 22 7)) (h : ∀ (e : ByteArray) (l t : List ByteArray) (k m : Nat) (ty tz : TypeId) (r : Out × List AV × Hp), (l22_7t e l t k m ty tz).val = some r → ∃ mm, lpRun T 22 7 0 (lpc T 22 7) mm [vS e, vi 0, osW 0 k, osW 1 m, vi 0] [some (rowS l ty), some (rowS t tz)] = some r) : ∀ base kv H o kv' H', (l22_7 base kv H).val = some (o, kv', H') → LoopOK T 22 7 base kv H o kv' H' := by
  intro base kv H o kv' H' hv
  unfold l22_7 at hv
  split at hv
  · rename_i hb
    obtain rfl := Nat.eq_of_beq_eq_true hb
    exact loop_ok hT hlo (h _ _ _ _ _ _ _ _ hv)
  · cases hv
noncomputable def U5 : Tab := ((U4).addLoop 20 8 l20_8).addLoop 22 7 l22_7
theorem nf20 (K : Int) (bags : List ByteArray) : evBody U5 20 [vi K, lS bags] [] = (bif sm bags && Rgg.szs bags then bif Rgg.ckE K bags == 0 then bif (↑bags.length : Int) == 0 then some (.tuple [vi 0, vi 4], []) else bif Rgg.ckE K bags != 0 then some (.tuple [vi 0, vi (Rgg.ckE K bags)], []) else bif sm (Rgg.apR K bags) && Rgg.szs (Rgg.apR K bags) && decide ((Rgg.apR K bags).length = (Rgg.apR K bags).length) then some (.tuple [vi (↑(Rgg.mxN (Rgg.apR K bags)) : Int), vi 0], []) else none else bif Rgg.ckE K bags != 0 then some (.tuple [vi 0, vi (Rgg.ckE K bags)], []) else bif sm (Rgg.apR K bags) && Rgg.szs (Rgg.apR K bags) && decide ((Rgg.apR K bags).length = (Rgg.apR K bags).length) then some (.tuple [vi (↑(Rgg.mxN (Rgg.apR K bags)) : Int), vi 0], []) else none else none) := by kernel_rfl
theorem nf22 (K : Int) (bags : List ByteArray) (s : ByteArray) : evBody U5 22 [vi K, lS bags, vS s] [] = (bif Rgg.szs bags && decide (s.size ≤ 100000) then bif Rgg.asE K bags s != 0 then some (.tuple [.sc (.string { data := #[] : ByteArray }), vi (Rgg.asE K bags s)], []) else bif decide (1 ≤ K) && decide (K ≤ 5) && decide (s.size ≤ 100000) then bif decide (1 ≤ K) && decide (K ≤ 5) && sm bags && Rgg.szs bags && decide (s.size ≤ 100000) then bif sm (Rgg.paR K s) && sm (Rgg.trR K bags s) && decide ((Rgg.paR K s).length = (Rgg.paR K s).length) && decide ((Rgg.trR K bags s).length = (Rgg.trR K bags s).length) then bif (List.filter (fun x => !Rgg.hasS (Rgg.trR K bags s) x) (Rgg.paR K s)).isEmpty then some (.tuple [.sc (.string { data := #[] : ByteArray }), vi 13], []) else some (.tuple [.sc (.string ((List.filter (fun x => !Rgg.hasS (Rgg.trR K bags s) x) (Rgg.paR K s)).headD { data := #[] : ByteArray })), vi 0], []) else none else none else none else none) := by kernel_rfl
def c20t (K : Int) (bags : List ByteArray) : Tree (AV × Hp) := .br (sm bags && Rgg.szs bags) (.leaf (.tuple [vi (Rgg.lgRN K bags), vi (Rgg.lgRE K bags)], [])) .fail
def c20 (args : List AV) (H : Hp) : Tree (AV × Hp) := match args, H with
  | [(.sc (.int .i64 K)), (.sl .str bags false)], [] => c20t K bags
  | _, _ => .fail
theorem c20_ok {T : Tab} (hT : TabOK T) (h : ∀ (K : Int) (bags : List ByteArray) (r : AV × Hp), (c20t K bags).val = some r → evBody T 20 [vi K, lS bags] [] = some r) : ∀ args H v H', (c20 args H).val = some (v, H') → CallOK T 20 args H v H' := by
  intro args H v H' hv
  unfold c20 at hv
  split at hv
  · exact evBody_sound hT (h _ _ _ hv)
  · cases hv
def c22t (K : Int) (bags : List ByteArray) (s : ByteArray) : Tree (AV × Hp) := .br (sm bags && Rgg.szs bags && decide (s.size ≤ 100000)) (.leaf (.tuple [vS (Rgg.msRS K bags s), vi (Rgg.msRE K bags s)], [])) .fail
def c22 (args : List AV) (H : Hp) : Tree (AV × Hp) := match args, H with
  | [(.sc (.int .i64 K)), (.sl .str bags false), (.sc (.string s))], [] => c22t K bags s
  | _, _ => .fail
theorem c22_ok {T : Tab} (hT : TabOK T) (h : ∀ (K : Int) (bags : List ByteArray) (s : ByteArray) (r : AV × Hp), (c22t K bags s).val = some r → evBody T 22 [vi K, lS bags, vS s] [] = some r) : ∀ args H v H', (c22 args H).val = some (v, H') → CallOK T 22 args H v H' := by
  intro args H v H' hv
  unfold c22 at hv
  split at hv
  · exact evBody_sound hT (h _ _ _ _ hv)
  · cases hv
end Go.Ev.Rag
namespace Go.Ev.Rag
open Go Go.Ev
set_option maxRecDepth 1000000
set_option maxHeartbeats 0
set_option linter.unusedVariables false
noncomputable def V1 : Tab := (((((((((P3).addCall 19 c19).addCall 21 c21).addCall 24 c24).addCall 18 c18).addCall 20 c20).addCall 22 c22).addCall 25 c25).addCall 15 c15).addCall 23 c23
noncomputable def V2 : Tab := V1.addCall 16 c16t
theorem nf3 (K : Int) (bags : List ByteArray) (s p : ByteArray) : evBody V2 3 [vi K, lS bags, vS s, vS p] [] = (bif decide (80 < bags.length) then some (vb true, []) else bif Rgg.lng bags || Rgg.lng [s, p] then some (vb true, []) else bif sm bags && Rgg.szs bags then bif sm bags && Rgg.szs bags then bif sm bags && Rgg.szs bags && decide (s.size ≤ 100000) then bif sm (Rgg.apL K bags) && Rgg.apL K bags == Rgg.apR K bags then bif Rgg.opE K bags == Rgg.ckE K bags then bif Rgg.lgN K bags == Rgg.lgRN K bags then bif Rgg.lgE K bags == Rgg.lgRE K bags then bif Rgg.msS K bags s == Rgg.msRS K bags s then bif Rgg.msE K bags s == Rgg.msRE K bags s then bif sm bags && Rgg.szs bags && decide (s.size ≤ 100000) && decide (p.size ≤ 100000) then bif Rgg.pvE K bags s p == Rgg.pvR K bags s p then some (vb true, []) else some (vb false, []) else none else some (vb false, []) else some (vb false, []) else some (vb false, []) else some (vb false, []) else some (vb false, []) else none else none else none else none) := by kernel_rfl
end Go.Ev.Rag
