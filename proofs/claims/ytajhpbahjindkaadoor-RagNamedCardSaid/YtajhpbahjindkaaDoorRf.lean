/- The reference's bags: plain definitions. -/
import Derived.Test.YtajhpbahjindkaaDoorRe
import Derived.Test.YtajhpbahjindkaaDoorRc
set_option linter.unusedVariables false
set_option linter.unusedSimpArgs false
namespace Rgg
open Go
def ordS : Nat → List Nat
  | 1 => [0, 1]
  | 2 => [0, 1, 3, 2]
  | 3 => [0, 1, 3, 7, 5, 2, 6, 4]
  | 4 => [0, 1, 3, 7, 15, 11, 5, 13, 9, 2, 6, 14, 10, 4, 12, 8]
  | 5 => [0, 1, 3, 7, 15, 31, 23, 11, 27, 19, 5, 13, 29, 21, 9, 25, 17, 2, 6, 14, 30, 22, 10, 26, 18, 4, 12, 28, 20, 8, 24, 16]
  | _ => []
def setsL (K : Int) : List ByteArray := (ordS K.toNat).map word
def inI (n lo hi : Int) : Bool := decide (lo ≤ n) && decide (n ≤ hi)
def prErr (K : Int) (s : ByteArray) (i : Nat) (_ : Unit) (c : UInt8) : Int := bif !inI ((c.toNat : Int) - 97) 0 (K - 1) then 2 else bif decide (0 < i) && decide (c.toNat ≤ ((bts s).getD (i - 1) 0).toNat) then 7 else 0
def prX (K : Int) (s : ByteArray) : Sum (Int × Nat × Unit) Unit := Erx.errX (prErr K s) (fun _ _ _ => ()) (bts s) ()
def prE (K : Int) (s : ByteArray) : Int := Erx.errE (prX K s)
def hasS (l : List ByteArray) (s : ByteArray) : Bool := l.any fun x => x == s
def ofS (K : Int) (l : List ByteArray) : List ByteArray := (setsL K).filter fun x => hasS l x
def reS (K : Int) (l : List ByteArray) : List ByteArray := (setsL K).filter fun x => !hasS l x
def win (b : ByteArray) (c : UInt8) : Bool := (bts b).any fun x => x == c
def cmS (a b : ByteArray) : ByteArray := ⟨((bts a).filter fun c => win b c).toArray⟩
def ckErr (K : Int) (bags : List ByteArray) (i : Nat) (_ : Unit) (s : ByteArray) : Int := bif prE K s != 0 then prE K s else bif hasS (bags.take i) s then 6 else 0
def ckX (K : Int) (bags : List ByteArray) : Sum (Int × Nat × Unit) Unit := Erx.errX (ckErr K bags) (fun _ _ _ => ()) bags ()
def ckE (K : Int) (bags : List ByteArray) : Int := bif !inI K 1 5 then 1 else bif decide (32 < bags.length) then 3 else Erx.errE (ckX K bags)
def asE (K : Int) (bags : List ByteArray) (s : ByteArray) : Int := bif ckE K bags == 0 then prE K s else ckE K bags
def trR (K : Int) (bags : List ByteArray) (s : ByteArray) : List ByteArray := ofS K (bags.map fun b => cmS b s)
def szs (l : List ByteArray) : Bool := l.all fun s => decide (s.size ≤ 100000)
def tdR (K : Int) (bags : List ByteArray) : List ByteArray := bif ckE K bags == 0 then ofS K bags else []
def rsR (K : Int) (bags : List ByteArray) : List ByteArray := bif ckE K bags == 0 then reS K bags else []
def tcR (K : Int) (bags : List ByteArray) (s : ByteArray) : List ByteArray := bif asE K bags s == 0 then trR K bags s else []
def lng (l : List ByteArray) : Bool := l.any fun s => decide (30 < s.size)
end Rgg
namespace Go.Ev.Rag
open Go Go.Ev Go.Proofs
set_option maxRecDepth 1000000
set_option maxHeartbeats 0
noncomputable def TD : Tab := carried T0 40 16
theorem TD_ok : TabOK TD := (carried_ok T0_ok.fns T0_ok.mixed 40 16).1
theorem w63_1 : evBody TD 63 [vi 0, vi 1] [] = some (osW 0 2, [some (rowS (Rgg.setsL 1) 9)]) := by kernel_rfl
theorem w63_2 : evBody TD 63 [vi 0, vi 2] [] = some (osW 0 4, [some (rowS (Rgg.setsL 2) 9)]) := by kernel_rfl
theorem w63_3 : evBody TD 63 [vi 0, vi 3] [] = some (osW 0 8, [some (rowS (Rgg.setsL 3) 9)]) := by kernel_rfl
theorem w63_4 : evBody TD 63 [vi 0, vi 4] [] = some (osW 0 16, [some (rowS (Rgg.setsL 4) 9)]) := by kernel_rfl
theorem w63_5 : evBody TD 63 [vi 0, vi 5] [] = some (osW 0 32, [some (rowS (Rgg.setsL 5) 9)]) := by kernel_rfl
end Go.Ev.Rag
namespace Go.Ev.Rag
open Go Go.Ev
set_option maxRecDepth 1000000
set_option maxHeartbeats 0
set_option linter.unusedVariables false
abbrev vC (c : Int) : AV := .sc (.int .u8 c)
theorem nf78 (n a b : Int) : evBody T0 78 [vi n, vi a, vi b] [] = (bif decide (n ≥ a) then some (vb (decide (n ≤ b)), []) else some (vb false, [])) := by kernel_rfl
def c78t (n a b : Int) : Tree (AV × Hp) := .leaf (vb (Rgg.inI n a b), [])
def c78 (args : List AV) (H : Hp) : Tree (AV × Hp) := match args, H with
  | [(.sc (.int .i64 n)), (.sc (.int .i64 a)), (.sc (.int .i64 b))], [] => c78t n a b
  | _, _ => .fail
theorem c78_ok {T : Tab} (hT : TabOK T) (h : ∀ (n a b : Int) (r : AV × Hp), (c78t n a b).val = some r → evBody T 78 [vi n, vi a, vi b] [] = some r) : ∀ args H v H', (c78 args H).val = some (v, H') → CallOK T 78 args H v H' := by
  intro args H v H' hv
  unfold c78 at hv
  split at hv
  · exact evBody_sound hT (h _ _ _ _ hv)
  · cases hv
def c63t (K : Int) : Tree (AV × Hp) := .br (decide (1 ≤ K) && decide (K ≤ 5)) (.leaf (osW 0 (Rgg.setsL K).length, [some (rowS (Rgg.setsL K) 9)])) .fail
def c63 (args : List AV) (H : Hp) : Tree (AV × Hp) := match args, H with
  | [(.sc (.int .i64 0)), (.sc (.int .i64 K))], [] => c63t K
  | _, _ => .fail
theorem c63_ok {T : Tab} (hT : TabOK T) (h : ∀ (K : Int) (r : AV × Hp), (c63t K).val = some r → evBody T 63 [vi 0, vi K] [] = some r) : ∀ args H v H', (c63 args H).val = some (v, H') → CallOK T 63 args H v H' := by
  intro args H v H' hv
  unfold c63 at hv
  split at hv
  · exact evBody_sound hT (h _ _ hv)
  · cases hv
noncomputable def Q1 : Tab := ((T0).addCall 78 c78).addCall 63 c63
theorem nl74 (again : Ag) (K i : Int) (s : ByteArray) : lpStep Q1 74 2 0 (lpc Q1 74 2) again [vi K, vS s, vi 0, vi i] [] = (bif decide (i < (↑s.size : Int)) then bif decide (0 ≤ i) then oM s[i.toNat]? fun x => bif !Rgg.inI (IntKind.i64.wrap (IntKind.i64.wrap (↑x.toNat : Int) - 97)) 0 (IntKind.i64.wrap (K - 1)) then some (.ret, [vi K, .sc (.string s), vi 2, vi i], []) else bif decide (i > 0) then bif decide (0 ≤ i) then oM s[i.toNat]? fun x => bif decide (0 ≤ IntKind.i64.wrap (i - 1)) then oM s[(IntKind.i64.wrap (i - 1)).toNat]? fun x_1 => bif decide ((↑x.toNat : Int) ≤ (↑x_1.toNat : Int)) then some (.ret, [vi K, .sc (.string s), vi 7, vi i], []) else again [vi K, .sc (.string s), vi 0, vi (IntKind.i64.wrap (i + 1))] [] else none else none else again [vi K, .sc (.string s), vi 0, vi (IntKind.i64.wrap (i + 1))] [] else none else some (.ext 0, [vi K, .sc (.string s), vi 0, vi i], [])) := by kernel_rfl
theorem nl71 (again : Ag) (l : List ByteArray) (s : ByteArray) (i : Int) : lpStep Q1 71 2 0 (lpc Q1 71 2) again [lS l, vS s, vb false, vi i] [] = (bif decide (i < (↑l.length : Int)) then bif decide (0 ≤ i) then bif decide (i < (↑l.length : Int)) then oM l[i.toNat]? fun x => bif x == s then some (.ret, [.sl .str l false, .sc (.string s), vb true, vi i], []) else again [.sl .str l false, .sc (.string s), vb false, vi (IntKind.i64.wrap (i + 1))] [] else none else none else some (.ext 0, [.sl .str l false, .sc (.string s), vb false, vi i], [])) := by kernel_rfl
theorem nl99 (again : Ag) (s : ByteArray) (c i : Int) : lpStep Q1 99 2 0 (lpc Q1 99 2) again [vS s, vC c, vb false, vi i] [] = (bif decide (i < (↑s.size : Int)) then bif decide (0 ≤ i) then oM s[i.toNat]? fun x => bif (↑x.toNat : Int) == c then some (.ret, [.sc (.string s), .sc (.int .u8 c), vb true, vi i], []) else again [.sc (.string s), .sc (.int .u8 c), vb false, vi (IntKind.i64.wrap (i + 1))] [] else none else some (.ext 0, [.sc (.string s), .sc (.int .u8 c), vb false, vi i], [])) := by kernel_rfl
def l74_2t (K : Int) (s : ByteArray) : Tree (Out × List AV × Hp) := .br (decide (1 ≤ K) && decide (K ≤ 5) && decide (s.size ≤ 100000)) (.br (Rgg.prE K s == 0) (.leaf (.ext 0, [vi K, vS s, vi 0, vi s.size], [])) (.leaf (.ret, [vi K, vS s, vi (Rgg.prE K s), vi (Erx.errI 0 (Rgg.prX K s))], []))) .fail
def l74_2 (base : Nat) (kv : List AV) (H : Hp) : Tree (Out × List AV × Hp) := match Nat.beq base 0, kv, H with
  | true, [(.sc (.int .i64 K)), (.sc (.string s)), (.sc (.int .i64 0)), (.sc (.int .i64 0))], [] => l74_2t K s
  | _, _, _ => .fail
theorem l74_2_ok {T : Tab} (hT : TabOK T) (hlo : loopOf T.fn 74 2 = some (lpc T 74 2)) (h : ∀ (K : Int) (s : ByteArray) (r : Out × List AV × Hp), (l74_2t K s).val = some r → ∃ mm, lpRun T 74 2 0 (lpc T 74 2) mm [vi K, vS s, vi 0, vi 0] [] = some r) : ∀ base kv H o kv' H', (l74_2 base kv H).val = some (o, kv', H') → LoopOK T 74 2 base kv H o kv' H' := by
  intro base kv H o kv' H' hv
  unfold l74_2 at hv
  split at hv
  · rename_i hb
    obtain rfl := Nat.eq_of_beq_eq_true hb
    exact loop_ok hT hlo (h _ _ _ hv)
  · cases hv
def l71_2t (l : List ByteArray) (s : ByteArray) : Tree (Out × List AV × Hp) := .br (sm l) (.br (Rgg.hasS l s) (.leaf (.ret, [lS l, vS s, vb true, vi (l.findIdx fun x => x == s)], [])) (.leaf (.ext 0, [lS l, vS s, vb false, vi l.length], []))) .fail
def l71_2 (base : Nat) (kv : List AV) (H : Hp) : Tree (Out × List AV × Hp) := match Nat.beq base 0, kv, H with
  | true, [(.sl .str l false), (.sc (.string s)), (.sc (.bool false)), (.sc (.int .i64 0))], [] => l71_2t l s
  | _, _, _ => .fail
theorem l71_2_ok {T : Tab} (hT : TabOK T) (hlo : loopOf T.fn 71 2 = some (lpc T 71 2)) (h : ∀ (l : List ByteArray) (s : ByteArray) (r : Out × List AV × Hp), (l71_2t l s).val = some r → ∃ mm, lpRun T 71 2 0 (lpc T 71 2) mm [lS l, vS s, vb false, vi 0] [] = some r) : ∀ base kv H o kv' H', (l71_2 base kv H).val = some (o, kv', H') → LoopOK T 71 2 base kv H o kv' H' := by
  intro base kv H o kv' H' hv
  unfold l71_2 at hv
  split at hv
  · rename_i hb
    obtain rfl := Nat.eq_of_beq_eq_true hb
    exact loop_ok hT hlo (h _ _ _ hv)
  · cases hv
def l99_2t (s : ByteArray) (c : Int) : Tree (Out × List AV × Hp) := .br (decide (s.size ≤ 100000) && decide (0 ≤ c) && decide (c < 256)) (.br (Rgg.win s (UInt8.ofNat c.toNat)) (.leaf (.ret, [vS s, vC c, vb true, vi ((Rgg.bts s).findIdx fun x => x == UInt8.ofNat c.toNat)], [])) (.leaf (.ext 0, [vS s, vC c, vb false, vi s.size], []))) .fail
def l99_2 (base : Nat) (kv : List AV) (H : Hp) : Tree (Out × List AV × Hp) := match Nat.beq base 0, kv, H with
  | true, [(.sc (.string s)), (.sc (.int .u8 c)), (.sc (.bool false)), (.sc (.int .i64 0))], [] => l99_2t s c
  | _, _, _ => .fail
theorem l99_2_ok {T : Tab} (hT : TabOK T) (hlo : loopOf T.fn 99 2 = some (lpc T 99 2)) (h : ∀ (s : ByteArray) (c : Int) (r : Out × List AV × Hp), (l99_2t s c).val = some r → ∃ mm, lpRun T 99 2 0 (lpc T 99 2) mm [vS s, vC c, vb false, vi 0] [] = some r) : ∀ base kv H o kv' H', (l99_2 base kv H).val = some (o, kv', H') → LoopOK T 99 2 base kv H o kv' H' := by
  intro base kv H o kv' H' hv
  unfold l99_2 at hv
  split at hv
  · rename_i hb
    obtain rfl := Nat.eq_of_beq_eq_true hb
    exact loop_ok hT hlo (h _ _ _ hv)
  · cases hv
noncomputable def Q2 : Tab := (((Q1).addLoop 74 2 l74_2).addLoop 71 2 l71_2).addLoop 99 2 l99_2
theorem nf74 (K : Int) (s : ByteArray) : evBody Q2 74 [vi K, vS s] [] = (bif decide (1 ≤ K) && decide (K ≤ 5) && decide (s.size ≤ 100000) then bif Rgg.prE K s == 0 then some (vi 0, []) else some (vi (Rgg.prE K s), []) else none) := by kernel_rfl
theorem nf71 (l : List ByteArray) (s : ByteArray) : evBody Q2 71 [lS l, vS s] [] = (bif sm l then bif Rgg.hasS l s then some (vb true, []) else some (vb false, []) else none) := by kernel_rfl
theorem nf99 (s : ByteArray) (c : Int) : evBody Q2 99 [vS s, vC c] [] = (bif decide (s.size ≤ 100000) && decide (0 ≤ c) && decide (c < 256) then bif Rgg.win s (UInt8.ofNat c.toNat) then some (vb true, []) else some (vb false, []) else none) := by kernel_rfl
def c74t (K : Int) (s : ByteArray) : Tree (AV × Hp) := .br (decide (1 ≤ K) && decide (K ≤ 5) && decide (s.size ≤ 100000)) (.leaf (vi (Rgg.prE K s), [])) .fail
def c74 (args : List AV) (H : Hp) : Tree (AV × Hp) := match args, H with
  | [(.sc (.int .i64 K)), (.sc (.string s))], [] => c74t K s
  | _, _ => .fail
theorem c74_ok {T : Tab} (hT : TabOK T) (h : ∀ (K : Int) (s : ByteArray) (r : AV × Hp), (c74t K s).val = some r → evBody T 74 [vi K, vS s] [] = some r) : ∀ args H v H', (c74 args H).val = some (v, H') → CallOK T 74 args H v H' := by
  intro args H v H' hv
  unfold c74 at hv
  split at hv
  · exact evBody_sound hT (h _ _ _ hv)
  · cases hv
def c71t (l : List ByteArray) (s : ByteArray) : Tree (AV × Hp) := .br (sm l) (.leaf (vb (Rgg.hasS l s), [])) .fail
def c71 (args : List AV) (H : Hp) : Tree (AV × Hp) := match args, H with
  | [(.sl .str l false), (.sc (.string s))], [] => c71t l s
  | _, _ => .fail
theorem c71_ok {T : Tab} (hT : TabOK T) (h : ∀ (l : List ByteArray) (s : ByteArray) (r : AV × Hp), (c71t l s).val = some r → evBody T 71 [lS l, vS s] [] = some r) : ∀ args H v H', (c71 args H).val = some (v, H') → CallOK T 71 args H v H' := by
  intro args H v H' hv
  unfold c71 at hv
  split at hv
  · exact evBody_sound hT (h _ _ _ hv)
  · cases hv
def c99t (s : ByteArray) (c : Int) : Tree (AV × Hp) := .br (decide (s.size ≤ 100000) && decide (0 ≤ c) && decide (c < 256)) (.leaf (vb (Rgg.win s (UInt8.ofNat c.toNat)), [])) .fail
def c99 (args : List AV) (H : Hp) : Tree (AV × Hp) := match args, H with
  | [(.sc (.string s)), (.sc (.int .u8 c))], [] => c99t s c
  | _, _ => .fail
theorem c99_ok {T : Tab} (hT : TabOK T) (h : ∀ (s : ByteArray) (c : Int) (r : AV × Hp), (c99t s c).val = some r → evBody T 99 [vS s, vC c] [] = some r) : ∀ args H v H', (c99 args H).val = some (v, H') → CallOK T 99 args H v H' := by
  intro args H v H' hv
  unfold c99 at hv
  split at hv
  · exact evBody_sound hT (h _ _ _ hv)
  · cases hv
noncomputable def Q3 : Tab := (((Q1).addCall 74 c74).addCall 71 c71).addCall 99 c99
theorem nl75 (again : Ag) (a b out : ByteArray) (i : Int) : lpStep Q3 75 3 0 (lpc Q3 75 3) again [vS a, vS b, vS out, vi i] [] = (bif decide (i < (↑a.size : Int)) then bif decide (0 ≤ i) then oM a[i.toNat]? fun x => bif decide (b.size ≤ 100000) && decide (0 ≤ (↑x.toNat : Int)) && decide ((↑x.toNat : Int) < 256) then bif Rgg.win b (UInt8.ofNat (↑x.toNat : Int).toNat) then bif decide (0 ≤ i) then bif decide (i ≤ IntKind.i64.wrap (i + 1)) then bif decide (IntKind.i64.wrap (i + 1) ≤ (↑a.size : Int)) then bif room (out.size + (a.extract ((some i.toNat).getD 0) ((some (IntKind.i64.wrap (i + 1)).toNat).getD a.size)).size) 1 then again [.sc (.string a), .sc (.string b), .sc (.string (out ++ a.extract ((some i.toNat).getD 0) ((some (IntKind.i64.wrap (i + 1)).toNat).getD a.size))), vi (IntKind.i64.wrap (i + 1))] [] else none else none else none else none else again [.sc (.string a), .sc (.string b), .sc (.string out), vi (IntKind.i64.wrap (i + 1))] [] else none else none else some (.ext 0, [.sc (.string a), .sc (.string b), .sc (.string out), vi i], [])) := by kernel_rfl
theorem nl46 (again : Ag) (K i : Int) (l : List ByteArray) : lpStep Q3 46 6 0 (lpc Q3 46 6) again [vi K, lS l, vi 0, vi i] [] = (bif decide (i < (↑l.length : Int)) then bif decide (0 ≤ i) then bif decide (i < (↑l.length : Int)) then oM l[i.toNat]? fun x => bif decide (1 ≤ K) && decide (K ≤ 5) && decide (ByteArray.size x ≤ 100000) then bif Rgg.prE K x == 0 then bif decide (0 ≤ i) then bif decide (i ≤ (↑l.length : Int)) then bif decide (0 ≤ i) then bif decide (i < (↑l.length : Int)) then oM l[i.toNat]? fun x_1 => bif sm (List.take i.toNat l) then bif Rgg.hasS (List.take i.toNat l) x_1 then some (.ret, [vi K, .sl .str l false, vi 6, vi i], []) else bif Rgg.prE K x != 0 then some (.ret, [vi K, .sl .str l false, vi (Rgg.prE K x), vi i], []) else again [vi K, .sl .str l false, vi 0, vi (IntKind.i64.wrap (i + 1))] [] else none else none else none else none else none else bif Rgg.prE K x != 0 then some (.ret, [vi K, .sl .str l false, vi (Rgg.prE K x), vi i], []) else again [vi K, .sl .str l false, vi 0, vi (IntKind.i64.wrap (i + 1))] [] else none else none else none else some (.ext 0, [vi K, .sl .str l false, vi 0, vi i], [])) := by kernel_rfl
theorem nl82 (again : Ag) (l out al : List ByteArray) (i : Int) (ty : TypeId) : lpStep Q3 82 4 0 (lpc Q3 82 4) again [lS l, osW 0 out.length, osW 1 al.length, vi i] [some (rowS out ty), some (rowS al 9)] = (bif decide (i < (↑al.length : Int)) then bif decide (0 ≤ i) then bif decide (i < (↑al.length : Int)) then oM al[i.toNat]? fun x => bif sm l then bif Rgg.hasS l x then bif decide (0 ≤ i) then bif decide (i < (↑al.length : Int)) then oM al[i.toNat]? fun x => bif room (out.length + 1) 16 then again [.sl .str l false, osW 0 (out.length + 1), osW 1 al.length, vi (IntKind.i64.wrap (i + 1))] [some ⟨[.run .str (out ++ [x])], false, 9, false, false, none⟩, some ⟨[.run .str al], false, 9, false, false, none⟩] else none else none else none else again [.sl .str l false, osW 0 out.length, osW 1 al.length, vi (IntKind.i64.wrap (i + 1))] [some ⟨[.run .str out], false, ty, false, false, none⟩, some ⟨[.run .str al], false, 9, false, false, none⟩] else none else none else none else some (.ext 0, [.sl .str l false, osW 0 out.length, osW 1 al.length, vi i], [some { c := [.run .str out], vr := false, ty := ty, fz := false, loose := false : Row }, some { c := [.run .str al], vr := false, ty := 9, fz := false, loose := false : Row }])) := by kernel_rfl
theorem nl87 (again : Ag) (l out al : List ByteArray) (i : Int) (ty : TypeId) : lpStep Q3 87 4 0 (lpc Q3 87 4) again [lS l, osW 0 out.length, osW 1 al.length, vi i] [some (rowS out ty), some (rowS al 9)] = (bif decide (i < (↑al.length : Int)) then bif decide (0 ≤ i) then bif decide (i < (↑al.length : Int)) then oM al[i.toNat]? fun x => bif sm l then bif !Rgg.hasS l x then bif decide (0 ≤ i) then bif decide (i < (↑al.length : Int)) then oM al[i.toNat]? fun x => bif room (out.length + 1) 16 then again [.sl .str l false, osW 0 (out.length + 1), osW 1 al.length, vi (IntKind.i64.wrap (i + 1))] [some ⟨[.run .str (out ++ [x])], false, 9, false, false, none⟩, some ⟨[.run .str al], false, 9, false, false, none⟩] else none else none else none else again [.sl .str l false, osW 0 out.length, osW 1 al.length, vi (IntKind.i64.wrap (i + 1))] [some ⟨[.run .str out], false, ty, false, false, none⟩, some ⟨[.run .str al], false, 9, false, false, none⟩] else none else none else none else some (.ext 0, [.sl .str l false, osW 0 out.length, osW 1 al.length, vi i], [some { c := [.run .str out], vr := false, ty := ty, fz := false, loose := false : Row }, some { c := [.run .str al], vr := false, ty := 9, fz := false, loose := false : Row }])) := by kernel_rfl
def l75_3t (a b e : ByteArray) : Tree (Out × List AV × Hp) := .br (decide (a.size ≤ 100000) && decide (b.size ≤ 100000) && decide (e.size = 0)) (.leaf (.ext 0, [vS a, vS b, vS (Rgg.cmS a b), vi a.size], [])) .fail
def l75_3 (base : Nat) (kv : List AV) (H : Hp) : Tree (Out × List AV × Hp) := match Nat.beq base 0, kv, H with
  | true, [(.sc (.string a)), (.sc (.string b)), (.sc (.string e)), (.sc (.int .i64 0))], [] => l75_3t a b e
  | _, _, _ => .fail
theorem l75_3_ok {T : Tab} (hT : TabOK T) (hlo : loopOf T.fn 75 3 = some (lpc T 75 3)) (h : ∀ (a b e : ByteArray) (r : Out × List AV × Hp), (l75_3t a b e).val = some r → ∃ mm, lpRun T 75 3 0 (lpc T 75 3) mm [vS a, vS b, vS e, vi 0] [] = some r) : ∀ base kv H o kv' H', (l75_3 base kv H).val = some (o, kv', H') → LoopOK T 75 3 base kv H o kv' H' := by
  intro base kv H o kv' H' hv
  unfold l75_3 at hv
  split at hv
  · rename_i hb
    obtain rfl := Nat.eq_of_beq_eq_true hb
    exact loop_ok hT hlo (h _ _ _ _ hv)
  · cases hv
def l46_6t (K : Int) (l : List ByteArray) : Tree (Out × List AV × Hp) := .br (decide (1 ≤ K) && decide (K ≤ 5) && sm l && Rgg.szs l) (.br (Erx.errE (Rgg.ckX K l) == 0) (.leaf (.ext 0, [vi K, lS l, vi 0, vi l.length], [])) (.leaf (.ret, [vi K, lS l, vi (Erx.errE (Rgg.ckX K l)), vi (Erx.errI 0 (Rgg.ckX K l))], []))) .fail
def l46_6 (base : Nat) (kv : List AV) (H : Hp) : Tree (Out × List AV × Hp) := match Nat.beq base 0, kv, H with
  | true, [(.sc (.int .i64 K)), (.sl .str l false), (.sc (.int .i64 0)), (.sc (.int .i64 0))], [] => l46_6t K l
  | _, _, _ => .fail
theorem l46_6_ok {T : Tab} (hT : TabOK T) (hlo : loopOf T.fn 46 6 = some (lpc T 46 6)) (h : ∀ (K : Int) (l : List ByteArray) (r : Out × List AV × Hp), (l46_6t K l).val = some r → ∃ mm, lpRun T 46 6 0 (lpc T 46 6) mm [vi K, lS l, vi 0, vi 0] [] = some r) : ∀ base kv H o kv' H', (l46_6 base kv H).val = some (o, kv', H') → LoopOK T 46 6 base kv H o kv' H' := by
  intro base kv H o kv' H' hv
  unfold l46_6 at hv
  split at hv
  · rename_i hb
    obtain rfl := Nat.eq_of_beq_eq_true hb
    exact loop_ok hT hlo (h _ _ _ hv)
  · cases hv
def l82_4t (l al : List ByteArray) (k : Nat) : Tree (Out × List AV × Hp) := .br (sm l && sm al && decide (k = al.length)) (.leaf (.ext 0, [lS l, osW 0 (al.filter fun x => Rgg.hasS l x).length, osW 1 al.length, vi al.length], [some (rS (al.filter fun x => Rgg.hasS l x)), some (rowS al 9)])) .fail
def l82_4 (base : Nat) (kv : List AV) (H : Hp) : Tree (Out × List AV × Hp) := match Nat.beq base 0, kv, H with
  | true, [(.sl .str l false), (.os 0 0 0 0 true false true), (.os 1 0 0 k true false true), (.sc (.int .i64 0))], [some ⟨[.run .str []], false, 0, false, false, none⟩, some ⟨[.run .str al], false, 9, false, false, none⟩] => l82_4t l al k
  | _, _, _ => .fail
theorem l82_4_ok {T : Tab} (hT : TabOK T) (hlo : loopOf T.fn 82 4 = some (lpc T 82 4)) (h : ∀ (l al : List ByteArray) (k : Nat) (r : Out × List AV × Hp), (l82_4t l al k).val = some r → ∃ mm, lpRun T 82 4 0 (lpc T 82 4) mm [lS l, osW 0 0, osW 1 k, vi 0] [some (rowS [] 0), some (rowS al 9)] = some r) : ∀ base kv H o kv' H', (l82_4 base kv H).val = some (o, kv', H') → LoopOK T 82 4 base kv H o kv' H' := by
  intro base kv H o kv' H' hv
  unfold l82_4 at hv
  split at hv
  · rename_i hb
    obtain rfl := Nat.eq_of_beq_eq_true hb
    exact loop_ok hT hlo (h _ _ _ _ hv)
  · cases hv
def l87_4t (l al : List ByteArray) (k : Nat) : Tree (Out × List AV × Hp) := .br (sm l && sm al && decide (k = al.length)) (.leaf (.ext 0, [lS l, osW 0 (al.filter fun x => !Rgg.hasS l x).length, osW 1 al.length, vi al.length], [some (rS (al.filter fun x => !Rgg.hasS l x)), some (rowS al 9)])) .fail
def l87_4 (base : Nat) (kv : List AV) (H : Hp) : Tree (Out × List AV × Hp) := match Nat.beq base 0, kv, H with
  | true, [(.sl .str l false), (.os 0 0 0 0 true false true), (.os 1 0 0 k true false true), (.sc (.int .i64 0))], [some ⟨[.run .str []], false, 0, false, false, none⟩, some ⟨[.run .str al], false, 9, false, false, none⟩] => l87_4t l al k
  | _, _, _ => .fail
theorem l87_4_ok {T : Tab} (hT : TabOK T) (hlo : loopOf T.fn 87 4 = some (lpc T 87 4)) (h : ∀ (l al : List ByteArray) (k : Nat) (r : Out × List AV × Hp), (l87_4t l al k).val = some r → ∃ mm, lpRun T 87 4 0 (lpc T 87 4) mm [lS l, osW 0 0, osW 1 k, vi 0] [some (rowS [] 0), some (rowS al 9)] = some r) : ∀ base kv H o kv' H', (l87_4 base kv H).val = some (o, kv', H') → LoopOK T 87 4 base kv H o kv' H' := by
  intro base kv H o kv' H' hv
  unfold l87_4 at hv
  split at hv
  · rename_i hb
    obtain rfl := Nat.eq_of_beq_eq_true hb
    exact loop_ok hT hlo (h _ _ _ _ hv)
  · cases hv
noncomputable def Q4 : Tab := ((((Q3).addLoop 75 3 l75_3).addLoop 46 6 l46_6).addLoop 82 4 l82_4).addLoop 87 4 l87_4
theorem nf75 (a b : ByteArray) : evBody Q4 75 [vS a, vS b] [] = (bif decide (a.size ≤ 100000) && decide (b.size ≤ 100000) && decide (0 = 0) then some (.sc (.string (Rgg.cmS a b)), []) else none) := by kernel_rfl
theorem nf46 (K : Int) (l : List ByteArray) : evBody Q4 46 [vi K, lS l] [] = (bif !Rgg.inI K 1 5 then some (vi 1, []) else bif decide ((↑l.length : Int) > 32) then some (vi 3, []) else bif decide (1 ≤ K) && decide (K ≤ 5) && sm l && Rgg.szs l then bif Erx.errE (Rgg.ckX K l) == 0 then some (vi 0, []) else some (vi (Erx.errE (Rgg.ckX K l)), []) else none) := by kernel_rfl
theorem nf82 (K : Int) (l : List ByteArray) : evBody Q4 82 [vi K, lS l] [] = (bif decide (1 ≤ K) && decide (K ≤ 5) then bif sm l && sm (Rgg.setsL K) && decide ((Rgg.setsL K).length = (Rgg.setsL K).length) then some (.os 0 0 0 (List.filter (fun x => Rgg.hasS l x) (Rgg.setsL K)).length true false true, [some { c := [.run .str (List.filter (fun x => Rgg.hasS l x) (Rgg.setsL K))], vr := false, ty := Rgg.tyS (List.filter (fun x => Rgg.hasS l x) (Rgg.setsL K)), fz := false, loose := false : Row }]) else none else none) := by kernel_rfl
theorem nf87 (K : Int) (l : List ByteArray) : evBody Q4 87 [vi K, lS l] [] = (bif decide (1 ≤ K) && decide (K ≤ 5) then bif sm l && sm (Rgg.setsL K) && decide ((Rgg.setsL K).length = (Rgg.setsL K).length) then some (.os 0 0 0 (List.filter (fun x => !Rgg.hasS l x) (Rgg.setsL K)).length true false true, [some ⟨[.run .str (List.filter (fun x => !Rgg.hasS l x) (Rgg.setsL K))], false, Rgg.tyS (List.filter (fun x => !Rgg.hasS l x) (Rgg.setsL K)), false, false, none⟩]) else none else none) := by kernel_rfl
def c75t (a b : ByteArray) : Tree (AV × Hp) := .br (decide (a.size ≤ 100000) && decide (b.size ≤ 100000)) (.leaf (vS (Rgg.cmS a b), [])) .fail
def c75 (args : List AV) (H : Hp) : Tree (AV × Hp) := match args, H with
  | [(.sc (.string a)), (.sc (.string b))], [] => c75t a b
  | _, _ => .fail
theorem c75_ok {T : Tab} (hT : TabOK T) (h : ∀ (a b : ByteArray) (r : AV × Hp), (c75t a b).val = some r → evBody T 75 [vS a, vS b] [] = some r) : ∀ args H v H', (c75 args H).val = some (v, H') → CallOK T 75 args H v H' := by
  intro args H v H' hv
  unfold c75 at hv
  split at hv
  · exact evBody_sound hT (h _ _ _ hv)
  · cases hv
def c46t (K : Int) (l : List ByteArray) : Tree (AV × Hp) := .br (Rgg.szs l) (.leaf (vi (Rgg.ckE K l), [])) .fail
def c46 (args : List AV) (H : Hp) : Tree (AV × Hp) := match args, H with
  | [(.sc (.int .i64 K)), (.sl .str l false)], [] => c46t K l
  | _, _ => .fail
theorem c46_ok {T : Tab} (hT : TabOK T) (h : ∀ (K : Int) (l : List ByteArray) (r : AV × Hp), (c46t K l).val = some r → evBody T 46 [vi K, lS l] [] = some r) : ∀ args H v H', (c46 args H).val = some (v, H') → CallOK T 46 args H v H' := by
  intro args H v H' hv
  unfold c46 at hv
  split at hv
  · exact evBody_sound hT (h _ _ _ hv)
  · cases hv
def c82t (K : Int) (l : List ByteArray) : Tree (AV × Hp) := .br (decide (1 ≤ K) && decide (K ≤ 5) && sm l) (.leaf (osW 0 (Rgg.ofS K l).length, [some (rS (Rgg.ofS K l))])) .fail
def c82 (args : List AV) (H : Hp) : Tree (AV × Hp) := match args, H with
  | [(.sc (.int .i64 K)), (.sl .str l false)], [] => c82t K l
  | _, _ => .fail
theorem c82_ok {T : Tab} (hT : TabOK T) (h : ∀ (K : Int) (l : List ByteArray) (r : AV × Hp), (c82t K l).val = some r → evBody T 82 [vi K, lS l] [] = some r) : ∀ args H v H', (c82 args H).val = some (v, H') → CallOK T 82 args H v H' := by
  intro args H v H' hv
  unfold c82 at hv
  split at hv
  · exact evBody_sound hT (h _ _ _ hv)
  · cases hv
def c87t (K : Int) (l : List ByteArray) : Tree (AV × Hp) := .br (decide (1 ≤ K) && decide (K ≤ 5) && sm l) (.leaf (osW 0 (Rgg.reS K l).length, [some (rS (Rgg.reS K l))])) .fail
def c87 (args : List AV) (H : Hp) : Tree (AV × Hp) := match args, H with
  | [(.sc (.int .i64 K)), (.sl .str l false)], [] => c87t K l
  | _, _ => .fail
theorem c87_ok {T : Tab} (hT : TabOK T) (h : ∀ (K : Int) (l : List ByteArray) (r : AV × Hp), (c87t K l).val = some r → evBody T 87 [vi K, lS l] [] = some r) : ∀ args H v H', (c87 args H).val = some (v, H') → CallOK T 87 args H v H' := by
  intro args H v H' hv
  unfold c87 at hv
  split at hv
  · exact evBody_sound hT (h _ _ _ hv)
  · cases hv
noncomputable def Q5 : Tab := ((((((Q1).addCall 74 c74).addCall 71 c71).addCall 75 c75).addCall 46 c46).addCall 82 c82).addCall 87 c87
theorem nl70 (again : Ag) (K i : Int) (l out : List ByteArray) (s : ByteArray) (ty : TypeId) : lpStep Q5 70 3 0 (lpc Q5 70 3) again [vi K, lS l, vS s, osW 0 out.length, vi i] [some (rowS out ty)] = (bif decide (i < (↑l.length : Int)) then bif decide (0 ≤ i) then bif decide (i < (↑l.length : Int)) then oM l[i.toNat]? fun x => bif decide (ByteArray.size x ≤ 100000) && decide (s.size ≤ 100000) then bif room (out.length + 1) 16 then again [vi K, .sl .str l false, .sc (.string s), osW 0 (out.length + 1), vi (IntKind.i64.wrap (i + 1))] [some ⟨[.run .str (out ++ [Rgg.cmS x s])], false, 9, false, false, none⟩] else none else none else none else none else some (.ext 0, [vi K, .sl .str l false, .sc (.string s), osW 0 out.length, vi i], [some { c := [.run .str out], vr := false, ty := ty, fz := false, loose := false : Row }])) := by kernel_rfl
def l70_3t (K : Int) (l : List ByteArray) (s : ByteArray) : Tree (Out × List AV × Hp) := .br (sm l && Rgg.szs l && decide (s.size ≤ 100000)) (.leaf (.ext 0, [vi K, lS l, vS s, osW 0 (l.map fun b => Rgg.cmS b s).length, vi l.length], [some (rS (l.map fun b => Rgg.cmS b s))])) .fail
def l70_3 (base : Nat) (kv : List AV) (H : Hp) : Tree (Out × List AV × Hp) := match Nat.beq base 0, kv, H with
  | true, [(.sc (.int .i64 K)), (.sl .str l false), (.sc (.string s)), (.os 0 0 0 0 true false true), (.sc (.int .i64 0))], [some ⟨[.run .str []], false, 0, false, false, none⟩] => l70_3t K l s
  | _, _, _ => .fail
theorem l70_3_ok {T : Tab} (hT : TabOK T) (hlo : loopOf T.fn 70 3 = some (lpc T 70 3)) (h : ∀ (K : Int) (l : List ByteArray) (s : ByteArray) (r : Out × List AV × Hp), (l70_3t K l s).val = some r → ∃ mm, lpRun T 70 3 0 (lpc T 70 3) mm [vi K, lS l, vS s, osW 0 0, vi 0] [some (rowS [] 0)] = some r) : ∀ base kv H o kv' H', (l70_3 base kv H).val = some (o, kv', H') → LoopOK T 70 3 base kv H o kv' H' := by
  intro base kv H o kv' H' hv
  unfold l70_3 at hv
  split at hv
  · rename_i hb
    obtain rfl := Nat.eq_of_beq_eq_true hb
    exact loop_ok hT hlo (h _ _ _ _ hv)
  · cases hv
noncomputable def Q6 : Tab := (Q5).addLoop 70 3 l70_3
theorem nf70 (K : Int) (l : List ByteArray) (s : ByteArray) : evBody Q6 70 [vi K, lS l, vS s] [] = (bif sm l && Rgg.szs l && decide (s.size ≤ 100000) then bif decide (1 ≤ K) && decide (K ≤ 5) && sm (List.map (fun b => Rgg.cmS b s) l) then some (.os 0 0 0 (Rgg.ofS K (List.map (fun b => Rgg.cmS b s) l)).length true false true, [some { c := [.run .str (Rgg.ofS K (List.map (fun b => Rgg.cmS b s) l))], vr := false, ty := Rgg.tyS (Rgg.ofS K (List.map (fun b => Rgg.cmS b s) l)), fz := false, loose := false : Row }]) else none else none) := by kernel_rfl
theorem nf68 (K : Int) (l : List ByteArray) (s : ByteArray) : evBody Q6 68 [vi K, lS l, vS s] [] = (bif Rgg.szs l then bif Rgg.ckE K l == 0 then bif decide (1 ≤ K) && decide (K ≤ 5) && decide (s.size ≤ 100000) then some (vi (Rgg.prE K s), []) else none else some (vi (Rgg.ckE K l), []) else none) := by kernel_rfl
theorem nf41 (K : Int) (l : List ByteArray) : evBody Q6 41 [vi K, lS l] [] = (bif Rgg.szs l then bif Rgg.ckE K l != 0 then some (.tuple [osW 0 0, vi (Rgg.ckE K l)], [some { c := [.run .str []], vr := false, ty := 0, fz := false, loose := false : Row }]) else bif decide (1 ≤ K) && decide (K ≤ 5) && sm l then some (.tuple [.os 0 0 0 (Rgg.ofS K l).length true false true, vi 0], [some ⟨[.run .str (Rgg.ofS K l)], false, Rgg.tyS (Rgg.ofS K l), false, false, none⟩]) else none else none) := by kernel_rfl
theorem nf43 (K : Int) (l : List ByteArray) : evBody Q6 43 [vi K, lS l] [] = (bif Rgg.szs l then bif Rgg.ckE K l != 0 then some (.tuple [osW 0 0, vi (Rgg.ckE K l)], [some { c := [.run .str []], vr := false, ty := 0, fz := false, loose := false : Row }]) else bif decide (1 ≤ K) && decide (K ≤ 5) && sm l then some (.tuple [.os 0 0 0 (Rgg.reS K l).length true false true, vi 0], [some ⟨[.run .str (Rgg.reS K l)], false, Rgg.tyS (Rgg.reS K l), false, false, none⟩]) else none else none) := by kernel_rfl
def c70t (K : Int) (l : List ByteArray) (s : ByteArray) : Tree (AV × Hp) := .br (decide (1 ≤ K) && decide (K ≤ 5) && sm l && Rgg.szs l && decide (s.size ≤ 100000)) (.leaf (osW 0 (Rgg.trR K l s).length, [some (rS (Rgg.trR K l s))])) .fail
def c70 (args : List AV) (H : Hp) : Tree (AV × Hp) := match args, H with
  | [(.sc (.int .i64 K)), (.sl .str l false), (.sc (.string s))], [] => c70t K l s
  | _, _ => .fail
theorem c70_ok {T : Tab} (hT : TabOK T) (h : ∀ (K : Int) (l : List ByteArray) (s : ByteArray) (r : AV × Hp), (c70t K l s).val = some r → evBody T 70 [vi K, lS l, vS s] [] = some r) : ∀ args H v H', (c70 args H).val = some (v, H') → CallOK T 70 args H v H' := by
  intro args H v H' hv
  unfold c70 at hv
  split at hv
  · exact evBody_sound hT (h _ _ _ _ hv)
  · cases hv
def c68t (K : Int) (l : List ByteArray) (s : ByteArray) : Tree (AV × Hp) := .br (Rgg.szs l && decide (s.size ≤ 100000)) (.leaf (vi (Rgg.asE K l s), [])) .fail
def c68 (args : List AV) (H : Hp) : Tree (AV × Hp) := match args, H with
  | [(.sc (.int .i64 K)), (.sl .str l false), (.sc (.string s))], [] => c68t K l s
  | _, _ => .fail
theorem c68_ok {T : Tab} (hT : TabOK T) (h : ∀ (K : Int) (l : List ByteArray) (s : ByteArray) (r : AV × Hp), (c68t K l s).val = some r → evBody T 68 [vi K, lS l, vS s] [] = some r) : ∀ args H v H', (c68 args H).val = some (v, H') → CallOK T 68 args H v H' := by
  intro args H v H' hv
  unfold c68 at hv
  split at hv
  · exact evBody_sound hT (h _ _ _ _ hv)
  · cases hv
def c41t (K : Int) (l : List ByteArray) : Tree (AV × Hp) := .br (Rgg.szs l && sm l) (.leaf (.tuple [osW 0 (Rgg.tdR K l).length, vi (Rgg.ckE K l)], [some (rS (Rgg.tdR K l))])) .fail
def c41 (args : List AV) (H : Hp) : Tree (AV × Hp) := match args, H with
  | [(.sc (.int .i64 K)), (.sl .str l false)], [] => c41t K l
  | _, _ => .fail
theorem c41_ok {T : Tab} (hT : TabOK T) (h : ∀ (K : Int) (l : List ByteArray) (r : AV × Hp), (c41t K l).val = some r → evBody T 41 [vi K, lS l] [] = some r) : ∀ args H v H', (c41 args H).val = some (v, H') → CallOK T 41 args H v H' := by
  intro args H v H' hv
  unfold c41 at hv
  split at hv
  · exact evBody_sound hT (h _ _ _ hv)
  · cases hv
def c43t (K : Int) (l : List ByteArray) : Tree (AV × Hp) := .br (Rgg.szs l && sm l) (.leaf (.tuple [osW 0 (Rgg.rsR K l).length, vi (Rgg.ckE K l)], [some (rS (Rgg.rsR K l))])) .fail
def c43 (args : List AV) (H : Hp) : Tree (AV × Hp) := match args, H with
  | [(.sc (.int .i64 K)), (.sl .str l false)], [] => c43t K l
  | _, _ => .fail
theorem c43_ok {T : Tab} (hT : TabOK T) (h : ∀ (K : Int) (l : List ByteArray) (r : AV × Hp), (c43t K l).val = some r → evBody T 43 [vi K, lS l] [] = some r) : ∀ args H v H', (c43 args H).val = some (v, H') → CallOK T 43 args H v H' := by
  intro args H v H' hv
  unfold c43 at hv
  split at hv
  · exact evBody_sound hT (h _ _ _ hv)
  · cases hv
noncomputable def Q7 : Tab := ((((Q5).addCall 70 c70).addCall 68 c68).addCall 41 c41).addCall 43 c43
theorem nf44 (K : Int) (l : List ByteArray) (s : ByteArray) : evBody Q7 44 [vi K, lS l, vS s] [] = (bif Rgg.szs l && decide (s.size ≤ 100000) then bif Rgg.asE K l s != 0 then some (.tuple [osW 0 0, vi (Rgg.asE K l s)], [some { c := [.run .str []], vr := false, ty := 0, fz := false, loose := false : Row }]) else bif decide (1 ≤ K) && decide (K ≤ 5) && sm l && Rgg.szs l && decide (s.size ≤ 100000) then some (.tuple [.os 0 0 0 (Rgg.trR K l s).length true false true, vi 0], [some ⟨[.run .str (Rgg.trR K l s)], false, Rgg.tyS (Rgg.trR K l s), false, false, none⟩]) else none else none) := by kernel_rfl
def c44t (K : Int) (l : List ByteArray) (s : ByteArray) : Tree (AV × Hp) := .br (Rgg.szs l && sm l && decide (s.size ≤ 100000)) (.leaf (.tuple [osW 0 (Rgg.tcR K l s).length, vi (Rgg.asE K l s)], [some (rS (Rgg.tcR K l s))])) .fail
def c44 (args : List AV) (H : Hp) : Tree (AV × Hp) := match args, H with
  | [(.sc (.int .i64 K)), (.sl .str l false), (.sc (.string s))], [] => c44t K l s
  | _, _ => .fail
theorem c44_ok {T : Tab} (hT : TabOK T) (h : ∀ (K : Int) (l : List ByteArray) (s : ByteArray) (r : AV × Hp), (c44t K l s).val = some r → evBody T 44 [vi K, lS l, vS s] [] = some r) : ∀ args H v H', (c44 args H).val = some (v, H') → CallOK T 44 args H v H' := by
  intro args H v H' hv
  unfold c44 at hv
  split at hv
  · exact evBody_sound hT (h _ _ _ _ hv)
  · cases hv
theorem nl15_4 (again : Ag) (l m : List ByteArray) (i : Int) : lpStep Q7 15 4 0 (lpc Q7 15 4) again [lS l, lS m, vb false, vi i] [] = (bif decide (i < (↑l.length : Int)) then bif decide (0 ≤ i) then bif decide (i < (↑l.length : Int)) then oM l[i.toNat]? fun x => bif decide ((↑(ByteArray.size x) : Int) > 30) then some (.ret, [.sl .str l false, .sl .str m false, vb true, vi i], []) else again [.sl .str l false, .sl .str m false, vb false, vi (IntKind.i64.wrap (i + 1))] [] else none else none else some (.ext 0, [.sl .str l false, .sl .str m false, vb false, vi i], [])) := by kernel_rfl
theorem nl15_9 (again : Ag) (m : List ByteArray) (i : Int) : lpStep Q7 15 9 0 (lpc Q7 15 9) again [lS m, vb false, vi i] [] = (bif decide (i < (↑m.length : Int)) then bif decide (0 ≤ i) then bif decide (i < (↑m.length : Int)) then oM m[i.toNat]? fun x => bif decide ((↑(ByteArray.size x) : Int) > 30) then some (.ret, [.sl .str m false, vb true, vi i], []) else again [.sl .str m false, vb false, vi (IntKind.i64.wrap (i + 1))] [] else none else none else some (.ext 2, [.sl .str m false, vb false, vi i], [])) := by kernel_rfl
theorem nl23 (again : Ag) (a b : List ByteArray) (i : Int) : lpStep Q7 23 4 0 (lpc Q7 23 4) again [lS a, lS b, vb false, vi i] [] = (bif decide (i < (↑a.length : Int)) then bif decide (0 ≤ i) then bif decide (i < (↑a.length : Int)) then oM a[i.toNat]? fun x => bif decide (0 ≤ i) then bif decide (i < (↑b.length : Int)) then oM b[i.toNat]? fun x_1 => bif !x == x_1 then some (.ret, [.sl .str a false, .sl .str b false, vb false, vi i], []) else again [.sl .str a false, .sl .str b false, vb false, vi (IntKind.i64.wrap (i + 1))] [] else none else none else none else none else some (.ext 0, [.sl .str a false, .sl .str b false, vb false, vi i], [])) := by kernel_rfl
def l15_4t (l m : List ByteArray) : Tree (Out × List AV × Hp) := .br (sm l) (.br (Rgg.lng l) (.leaf (.ret, [lS l, lS m, vb true, vi (l.findIdx fun s => decide (30 < s.size))], [])) (.leaf (.ext 0, [lS l, lS m, vb false, vi l.length], []))) .fail
def l15_4 (base : Nat) (kv : List AV) (H : Hp) : Tree (Out × List AV × Hp) := match Nat.beq base 0, kv, H with
  | true, [(.sl .str l false), (.sl .str m false), (.sc (.bool false)), (.sc (.int .i64 0))], [] => l15_4t l m
  | _, _, _ => .fail
theorem l15_4_ok {T : Tab} (hT : TabOK T) (hlo : loopOf T.fn 15 4 = some (lpc T 15 4)) (h : ∀ (l m : List ByteArray) (r : Out × List AV × Hp), (l15_4t l m).val = some r → ∃ mm, lpRun T 15 4 0 (lpc T 15 4) mm [lS l, lS m, vb false, vi 0] [] = some r) : ∀ base kv H o kv' H', (l15_4 base kv H).val = some (o, kv', H') → LoopOK T 15 4 base kv H o kv' H' := by
  intro base kv H o kv' H' hv
  unfold l15_4 at hv
  split at hv
  · rename_i hb
    obtain rfl := Nat.eq_of_beq_eq_true hb
    exact loop_ok hT hlo (h _ _ _ hv)
  · cases hv
def l15_9t (m : List ByteArray) : Tree (Out × List AV × Hp) := .br (sm m) (.br (Rgg.lng m) (.leaf (.ret, [lS m, vb true, vi (m.findIdx fun s => decide (30 < s.size))], [])) (.leaf (.ext 2, [lS m, vb false, vi m.length], []))) .fail
def l15_9 (base : Nat) (kv : List AV) (H : Hp) : Tree (Out × List AV × Hp) := match Nat.beq base 0, kv, H with
  | true, [(.sl .str m false), (.sc (.bool false)), (.sc (.int .i64 0))], [] => l15_9t m
  | _, _, _ => .fail
theorem l15_9_ok {T : Tab} (hT : TabOK T) (hlo : loopOf T.fn 15 9 = some (lpc T 15 9)) (h : ∀ (m : List ByteArray) (r : Out × List AV × Hp), (l15_9t m).val = some r → ∃ mm, lpRun T 15 9 0 (lpc T 15 9) mm [lS m, vb false, vi 0] [] = some r) : ∀ base kv H o kv' H', (l15_9 base kv H).val = some (o, kv', H') → LoopOK T 15 9 base kv H o kv' H' := by
  intro base kv H o kv' H' hv
  unfold l15_9 at hv
  split at hv
  · rename_i hb
    obtain rfl := Nat.eq_of_beq_eq_true hb
    exact loop_ok hT hlo (h _ _ hv)
  · cases hv
def l23_4t (a b : List ByteArray) : Tree (Out × List AV × Hp) := .br (sm a && a == b) (.leaf (.ext 0, [lS a, lS b, vb false, vi a.length], [])) .fail
def l23_4 (base : Nat) (kv : List AV) (H : Hp) : Tree (Out × List AV × Hp) := match Nat.beq base 0, kv, H with
  | true, [(.sl .str a false), (.sl .str b false), (.sc (.bool false)), (.sc (.int .i64 0))], [] => l23_4t a b
  | _, _, _ => .fail
theorem l23_4_ok {T : Tab} (hT : TabOK T) (hlo : loopOf T.fn 23 4 = some (lpc T 23 4)) (h : ∀ (a b : List ByteArray) (r : Out × List AV × Hp), (l23_4t a b).val = some r → ∃ mm, lpRun T 23 4 0 (lpc T 23 4) mm [lS a, lS b, vb false, vi 0] [] = some r) : ∀ base kv H o kv' H', (l23_4 base kv H).val = some (o, kv', H') → LoopOK T 23 4 base kv H o kv' H' := by
  intro base kv H o kv' H' hv
  unfold l23_4 at hv
  split at hv
  · rename_i hb
    obtain rfl := Nat.eq_of_beq_eq_true hb
    exact loop_ok hT hlo (h _ _ _ hv)
  · cases hv
noncomputable def Q8 : Tab := ((((Q7).addCall 44 c44).addLoop 15 4 l15_4).addLoop 15 9 l15_9).addLoop 23 4 l23_4
theorem nf23 (a b : List ByteArray) : evBody Q8 23 [lS a, lS b] [] = (bif (↑a.length : Int) != (↑b.length : Int) then some (vb false, []) else bif sm a && a == b then some (vb true, []) else none) := by kernel_rfl
end Go.Ev.Rag
namespace Go.Ev.Rag
open Go Go.Ev
set_option maxRecDepth 1000000
set_option maxHeartbeats 0
set_option linter.unusedVariables false
def c16t (args : List AV) (H : Hp) : Tree (AV × Hp) := match args, H with
  | [], [] => .leaf (vb true, [])
  | _, _ => .fail
def c15t (l m : List ByteArray) : Tree (AV × Hp) := .br (decide (80 < l.length)) (.leaf (vb true, [])) (.br (sm m) (.leaf (vb (Rgg.lng l || Rgg.lng m), [])) .fail)
def c15 (args : List AV) (H : Hp) : Tree (AV × Hp) := match args, H with
  | [(.sl .str l false), (.sl .str m false)], [] => c15t l m
  | _, _ => .fail
def c23t (a b : List ByteArray) : Tree (AV × Hp) := .br (sm a && a == b) (.leaf (vb true, [])) .fail
def c23 (args : List AV) (H : Hp) : Tree (AV × Hp) := match args, H with
  | [(.sl .str a false), (.sl .str b false)], [] => c23t a b
  | _, _ => .fail
theorem c23_ok {T : Tab} (hT : TabOK T) (h : ∀ (a b : List ByteArray) (r : AV × Hp), (c23t a b).val = some r → evBody T 23 [lS a, lS b] [] = some r) : ∀ args H v H', (c23 args H).val = some (v, H') → CallOK T 23 args H v H' := by
  intro args H v H' hv
  unfold c23 at hv
  split at hv
  · exact evBody_sound hT (h _ _ _ hv)
  · cases hv
noncomputable def S1 : Tab := ((((((R4).addCall 46 c46).addCall 41 c41).addCall 43 c43).addCall 44 c44).addCall 15 c15).addCall 23 c23
noncomputable def S2 : Tab := S1.addCall 16 c16t
end Go.Ev.Rag
