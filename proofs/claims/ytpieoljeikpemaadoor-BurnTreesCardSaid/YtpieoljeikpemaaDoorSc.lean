/- The program's functions of the burn chapter: tables, and normal forms. -/
import Derived.Test.YtpieoljeikpemaaDoorSb
import Derived.Test.YtpieoljeikpemaaDoorSa
set_option linter.unusedVariables false
set_option linter.unusedSimpArgs false
namespace Go.Ev.Burn
open Go Go.Ev
set_option maxRecDepth 1000000
set_option linter.unusedVariables false
abbrev aG (n : Int) (l : List Int) : AV := .pt [.sc (.int .i64 n), .run (.int .u64) l] (some 111) 0 0 0
def c100t (x : Int) : Tree (AV × Hp) := .br (decide (0 < x) && decide (x < 512)) (.leaf (vi (Brn.tz x.toNat), [])) .fail
def c100 (args : List AV) (H : Hp) : Tree (AV × Hp) := match args, H with
  | [(.sc (.int .u64 x))], [] => c100t x
  | _, _ => .fail
theorem c100_ok {T : Tab} (hT : TabOK T) (h : ∀ (x : Int) (r : AV × Hp), (c100t x).val = some r → evBody T 100 [vint .u64 x] [] = some r) : ∀ args H v H', (c100 args H).val = some (v, H') → CallOK T 100 args H v H' := by
  intro args H v H' hv
  unfold c100 at hv
  split at hv
  · exact evBody_sound hT (h _ _ hv)
  · cases hv
noncomputable def S1 : Tab := (T12).addCall 100 c100
theorem nf82 (x : Int) : evBody S1 82 [vint .u64 x] [] = (bif decide (0 < x) && decide (x < 512) then some (vi (↑(Brn.tz x.toNat) : Int), []) else none) := by kernel_rfl
def c82t (x : Int) : Tree (AV × Hp) := .br (decide (0 < x) && decide (x < 512)) (.leaf (vi (Brn.tz x.toNat), [])) .fail
def c82 (args : List AV) (H : Hp) : Tree (AV × Hp) := match args, H with
  | [(.sc (.int .u64 x))], [] => c82t x
  | _, _ => .fail
theorem c82_ok {T : Tab} (hT : TabOK T) (h : ∀ (x : Int) (r : AV × Hp), (c82t x).val = some r → evBody T 82 [vint .u64 x] [] = some r) : ∀ args H v H', (c82 args H).val = some (v, H') → CallOK T 82 args H v H' := by
  intro args H v H' hv
  unfold c82 at hv
  split at hv
  · exact evBody_sound hT (h _ _ hv)
  · cases hv
noncomputable def S2 : Tab := (S1).addCall 82 c82
theorem nf76 (n : Int) (l : List Int) : evBody S2 76 [aG n l] [] = (bif decide (0 ≤ n) then some (.sc (.int .u64 (IntKind.u64.wrap (IntKind.u64.wrap (1 * 2 ^ Min.min n.toNat 64) - 1))), []) else none) := by kernel_rfl
end Go.Ev.Burn
namespace Go.Ev.Burn
open Go Go.Ev
set_option maxRecDepth 1000000
set_option linter.unusedVariables false
abbrev rG (n : Int) (l : List Int) : Row := ⟨[.sc (.int .i64 n), .run (.int .u64) l], true, 111, false, false, none⟩
abbrev rN (l : List Int) (t : TypeId) : Row := ⟨[.run (.int .u64) l], true, t, false, false, none⟩
abbrev nilP : AV := .sc (.pointer none)
theorem nl65_8 (again : Ag) (pl : List Int) (n q : Int) (ws wl : Ws) (g l : List Int) (k i : Int) : lpStep S2 65 8 0 (lpc S2 65 8) again [lI pl, ps 0, nilP, vi 0, ps 1, ps 2, lW wl, vi k, vi i] [some (rH n ws 24), some (rG q g), some (rN l 107)] = (bif decide (i < k) then bif decide (0 ≤ i) then bif decide (i < (↑(List.length wl) : Int)) then oM wl[i.toNat]? fun x => bif !Brn.inR x.fst 0 (IntKind.i64.wrap (n - 1)) then some (.ret, [.sl (.int .i64) pl false, .ps 0 0 0 0, .sc (.pointer none), vi 2, .ps 1 0 0 0, .ps 2 0 0 0, .sl (.pair .i64) wl false, vi k, vi i], [some ⟨[vi n, .sl (.pair .i64) ws false], true, 24, false, false, none⟩, some ⟨[vi q, .run (.int .u64) g], true, 111, false, false, none⟩, some ⟨[.run (.int .u64) l], true, 107, false, false, none⟩]) else bif !Brn.inR x.snd 0 (IntKind.i64.wrap (n - 1)) then some (.ret, [.sl (.int .i64) pl false, .ps 0 0 0 0, .sc (.pointer none), vi 2, .ps 1 0 0 0, .ps 2 0 0 0, .sl (.pair .i64) wl false, vi k, vi i], [some ⟨[vi n, .sl (.pair .i64) ws false], true, 24, false, false, none⟩, some ⟨[vi q, .run (.int .u64) g], true, 111, false, false, none⟩, some ⟨[.run (.int .u64) l], true, 107, false, false, none⟩]) else bif decide (x.fst ≥ x.snd) then some (.ret, [.sl (.int .i64) pl false, .ps 0 0 0 0, .sc (.pointer none), vi 7, .ps 1 0 0 0, .ps 2 0 0 0, .sl (.pair .i64) wl false, vi k, vi i], [some ⟨[vi n, .sl (.pair .i64) ws false], true, 24, false, false, none⟩, some ⟨[vi q, .run (.int .u64) g], true, 111, false, false, none⟩, some ⟨[.run (.int .u64) l], true, 107, false, false, none⟩]) else bif decide (0 ≤ x.fst) then bif decide (x.fst < (↑9 : Int)) then oM l[x.fst.toNat]? fun x_1 => bif decide (0 ≤ x.snd) then bif IntKind.u64.wrap (↑(BitVec.ofInt 64 (Int.fdiv x_1 (2 ^ Min.min x.snd.toNat 64)) &&& BitVec.ofInt 64 1).toNat : Int) == 1 then some (.ret, [.sl (.int .i64) pl false, .ps 0 0 0 0, .sc (.pointer none), vi 6, .ps 1 0 0 0, .ps 2 0 0 0, .sl (.pair .i64) wl false, vi k, vi i], [some ⟨[vi n, .sl (.pair .i64) ws false], true, 24, false, false, none⟩, some ⟨[vi q, .run (.int .u64) g], true, 111, false, false, none⟩, some ⟨[.run (.int .u64) l], true, 107, false, false, none⟩]) else bif decide (0 ≤ x.fst) then bif decide (x.fst < (↑9 : Int)) then oM l[x.fst.toNat]? fun x_2 => bif decide (0 ≤ x.snd) then bif decide (0 ≤ x.fst) then bif decide (x.fst < (↑9 : Int)) then oM l[x.fst.toNat]? fun x_3 => bif decide (0 ≤ x.snd) then bif decide (x.snd < (↑9 : Int)) then oM (l.set x.fst.toNat (IntKind.u64.wrap (↑(BitVec.ofInt 64 x_2 ||| BitVec.ofInt 64 (IntKind.u64.wrap (1 * 2 ^ Min.min x.snd.toNat 64))).toNat : Int)))[x.snd.toNat]? fun x_4 => bif decide (0 ≤ x.fst) then bif decide (0 ≤ x.snd) then bif decide (x.snd < (↑9 : Int)) then oM (l.set x.fst.toNat (IntKind.u64.wrap (↑(BitVec.ofInt 64 x_2 ||| BitVec.ofInt 64 (IntKind.u64.wrap (1 * 2 ^ Min.min x.snd.toNat 64))).toNat : Int)))[x.snd.toNat]? fun x_5 => again [.sl (.int .i64) pl false, .ps 0 0 0 0, .sc (.pointer none), vi 0, .ps 1 0 0 0, .ps 2 0 0 0, .sl (.pair .i64) wl false, vi k, vi (IntKind.i64.wrap (i + 1))] [some ⟨[vi n, .sl (.pair .i64) ws false], true, 24, false, false, none⟩, some ⟨[vi q, .run (.int .u64) g], true, 111, false, false, none⟩, some ⟨[.run (.int .u64) ((l.set x.fst.toNat (IntKind.u64.wrap (↑(BitVec.ofInt 64 x_2 ||| BitVec.ofInt 64 (IntKind.u64.wrap (1 * 2 ^ Min.min x.snd.toNat 64))).toNat : Int))).set x.snd.toNat (IntKind.u64.wrap (↑(BitVec.ofInt 64 x_4 ||| BitVec.ofInt 64 (IntKind.u64.wrap (1 * 2 ^ Min.min x.fst.toNat 64))).toNat : Int)))], true, 107, false, false, none⟩] else none else none else none else none else none else none else none else none else none else none else none else none else none else none else none else some (.ext 1, [.sl (.int .i64) pl false, .ps 0 0 0 0, .sc (.pointer none), vi 0, .ps 1 0 0 0, .ps 2 0 0 0, .sl (.pair .i64) wl false, vi k, vi i], [some ⟨[vi n, .sl (.pair .i64) ws false], true, 24, false, false, none⟩, some ⟨[vi q, .run (.int .u64) g], true, 111, false, false, none⟩, some ⟨[.run (.int .u64) l], true, 107, false, false, none⟩])) := by kernel_rfl
theorem nl65_21 (again : Ag) (pl : List Int) (n q : Int) (ws : Ws) (g l now : List Int) (k i : Int) : lpStep S2 65 21 0 (lpc S2 65 21) again [lI pl, ps 0, ps 1, ps 2, ps 3, vi k, vi i] [some (rH n ws 24), some (rG q g), some (rN l 107), some (rN now 108)] = (bif decide (i < k) then bif decide (0 ≤ i) then bif decide (0 ≤ i) then bif decide (i < (↑9 : Int)) then oM now[i.toNat]? fun x => again [.sl (.int .i64) pl false, .ps 0 0 0 0, .ps 1 0 0 0, .ps 2 0 0 0, .ps 3 0 0 0, vi k, vi (IntKind.i64.wrap (i + 1))] [some ⟨[vi n, .sl (.pair .i64) ws false], true, 24, false, false, none⟩, some ⟨[vi q, .run (.int .u64) g], true, 111, false, false, none⟩, some ⟨[.run (.int .u64) l], true, 107, false, false, none⟩, some ⟨[.run (.int .u64) (now.set i.toNat (IntKind.u64.wrap (1 * 2 ^ Min.min i.toNat 64)))], true, 108, false, false, none⟩] else none else none else none else some (.ext 4, [.sl (.int .i64) pl false, .ps 0 0 0 0, .ps 1 0 0 0, .ps 2 0 0 0, .ps 3 0 0 0, vi k, vi i], [some ⟨[vi n, .sl (.pair .i64) ws false], true, 24, false, false, none⟩, some ⟨[vi q, .run (.int .u64) g], true, 111, false, false, none⟩, some ⟨[.run (.int .u64) l], true, 107, false, false, none⟩, some ⟨[.run (.int .u64) now], true, 108, false, false, none⟩])) := by kernel_rfl
theorem nl65_29 (again : Ag) (pl : List Int) (n q : Int) (ws : Ws) (g l now : List Int) (far m k i : Int) : lpStep S2 65 29 0 (lpc S2 65 29) again [lI pl, ps 0, ps 1, ps 2, ps 3, vi far, vi m, vi k, vi i] [some (rH n ws 24), some (rG q g), some (rN l 107), some (rN now 108)] = (bif decide (i < k) then bif decide (0 ≤ i) then bif decide (i < (↑9 : Int)) then oM now[i.toNat]? fun x => bif decide (0 ≤ i) then bif decide (i < (↑9 : Int)) then bif decide (0 ≤ far) then bif decide (far < (↑9 : Int)) then oM g[far.toNat + i.toNat * 9]? fun x_1 => again [.sl (.int .i64) pl false, .ps 0 0 0 0, .ps 1 0 0 0, .ps 2 0 0 0, .ps 3 0 0 0, vi far, vi m, vi k, vi (IntKind.i64.wrap (i + 1))] [some ⟨[vi n, .sl (.pair .i64) ws false], true, 24, false, false, none⟩, some ⟨[vi q, .run (.int .u64) (g.set (far.toNat + i.toNat * 9) x)], true, 111, false, false, none⟩, some ⟨[.run (.int .u64) l], true, 107, false, false, none⟩, some ⟨[.run (.int .u64) now], true, 108, false, false, none⟩] else none else none else none else none else none else none else some (.ext 8, [.sl (.int .i64) pl false, .ps 0 0 0 0, .ps 1 0 0 0, .ps 2 0 0 0, .ps 3 0 0 0, vi far, vi m, vi k, vi i], [some ⟨[vi n, .sl (.pair .i64) ws false], true, 24, false, false, none⟩, some ⟨[vi q, .run (.int .u64) g], true, 111, false, false, none⟩, some ⟨[.run (.int .u64) l], true, 107, false, false, none⟩, some ⟨[.run (.int .u64) now], true, 108, false, false, none⟩])) := by kernel_rfl
theorem nl65_38 (again : Ag) (pl : List Int) (n q : Int) (ws : Ws) (g l now before : List Int) (far p x m k i : Int) : lpStep S2 65 38 0 (lpc S2 65 38) again [lI pl, ps 0, ps 1, ps 2, ps 3, vi far, ps 4, vi p, vint .u64 x, vi m, vi k, vi i] [some (rH n ws 24), some (rG q g), some (rN l 107), some (rN now 108), some (rN before 108)] = (bif x != 0 then bif decide (0 ≤ p) then bif decide (p < (↑9 : Int)) then oM now[p.toNat]? fun x_1 => bif decide (0 < x) && decide (x < 512) then bif decide ((↑(Brn.tz x.toNat) : Int) < (↑9 : Int)) then oM before[(↑(Brn.tz x.toNat) : Int).toNat]? fun x_2 => bif decide (0 ≤ p) then bif decide (p < (↑9 : Int)) then oM now[p.toNat]? fun x_3 => again [.sl (.int .i64) pl false, .ps 0 0 0 0, .ps 1 0 0 0, .ps 2 0 0 0, .ps 3 0 0 0, vi far, .ps 4 0 0 0, vi p, .sc (.int .u64 (IntKind.u64.wrap (↑(BitVec.ofInt 64 x &&& BitVec.ofInt 64 (IntKind.u64.wrap (x - 1))).toNat : Int))), vi m, vi k, vi i] [some ⟨[vi n, .sl (.pair .i64) ws false], true, 24, false, false, none⟩, some ⟨[vi q, .run (.int .u64) g], true, 111, false, false, none⟩, some ⟨[.run (.int .u64) l], true, 107, false, false, none⟩, some ⟨[.run (.int .u64) (now.set p.toNat (IntKind.u64.wrap (↑(BitVec.ofInt 64 x_1 ||| BitVec.ofInt 64 x_2).toNat : Int)))], true, 108, false, false, none⟩, some ⟨[.run (.int .u64) before], true, 108, false, false, none⟩] else none else none else none else none else none else none else some (.ext 12, [.sl (.int .i64) pl false, .ps 0 0 0 0, .ps 1 0 0 0, .ps 2 0 0 0, .ps 3 0 0 0, vi far, .ps 4 0 0 0, vi p, .sc (.int .u64 x), vi m, vi k, vi i], [some ⟨[vi n, .sl (.pair .i64) ws false], true, 24, false, false, none⟩, some ⟨[vi q, .run (.int .u64) g], true, 111, false, false, none⟩, some ⟨[.run (.int .u64) l], true, 107, false, false, none⟩, some ⟨[.run (.int .u64) now], true, 108, false, false, none⟩, some ⟨[.run (.int .u64) before], true, 108, false, false, none⟩])) := by kernel_rfl
theorem nl65_47 (again : Ag) (pl : List Int) (n q : Int) (ws : Ws) (g now : List Int) (far p k m i : Int) : lpStep S2 65 47 0 (lpc S2 65 47) again [lI pl, ps 0, ps 1, ps 2, vi far, vi p, vi k, vi m, vi i] [some (rH n ws 24), some (rG q g), some (rN now 108)] = (bif decide (k < 9) then bif decide (0 ≤ p) then bif decide (p < (↑9 : Int)) then oM now[p.toNat]? fun x => bif decide (0 ≤ p) then bif decide (p < (↑9 : Int)) then bif decide (0 ≤ k) then bif decide (k < (↑9 : Int)) then oM g[k.toNat + p.toNat * 9]? fun x_1 => again [.sl (.int .i64) pl false, .ps 0 0 0 0, .ps 1 0 0 0, .ps 2 0 0 0, vi far, vi p, vi (IntKind.i64.wrap (k + 1)), vi m, vi i] [some ⟨[vi n, .sl (.pair .i64) ws false], true, 24, false, false, none⟩, some ⟨[vi q, .run (.int .u64) (g.set (k.toNat + p.toNat * 9) x)], true, 111, false, false, none⟩, some ⟨[.run (.int .u64) now], true, 108, false, false, none⟩] else none else none else none else none else none else none else some (.ext 16, [.sl (.int .i64) pl false, .ps 0 0 0 0, .ps 1 0 0 0, .ps 2 0 0 0, vi far, vi p, vi k, vi m, vi i], [some ⟨[vi n, .sl (.pair .i64) ws false], true, 24, false, false, none⟩, some ⟨[vi q, .run (.int .u64) g], true, 111, false, false, none⟩, some ⟨[.run (.int .u64) now], true, 108, false, false, none⟩])) := by kernel_rfl
theorem nl65_55 (again : Ag) (pl : List Int) (n q : Int) (ws : Ws) (g : List Int) (m i : Int) : lpStep S2 65 55 0 (lpc S2 65 55) again [ps 0, .dead, .dead, ps 1, lI pl, vi m, vi i] [some (rH n ws 24), some (rG q g)] = (bif decide (i < m) then bif decide (0 ≤ i) then bif decide (i < (↑pl.length : Int)) then oM pl[i.toNat]? fun x => bif !Brn.inR x 0 (IntKind.i64.wrap (n - 1)) then some (.ret, [.ps 0 0 0 0, .sc (.pointer none), vi 2, .ps 1 0 0 0, .sl (.int .i64) pl false, vi m, vi i], [some ⟨[vi n, .sl (.pair .i64) ws false], true, 24, false, false, none⟩, some ⟨[vi q, .run (.int .u64) g], true, 111, false, false, none⟩]) else again [.ps 0 0 0 0, .dead, .dead, .ps 1 0 0 0, .sl (.int .i64) pl false, vi m, vi (IntKind.i64.wrap (i + 1))] [some ⟨[vi n, .sl (.pair .i64) ws false], true, 24, false, false, none⟩, some ⟨[vi q, .run (.int .u64) g], true, 111, false, false, none⟩] else none else none else some (.ext 18, [.ps 0 0 0 0, .dead, .dead, .ps 1 0 0 0, .sl (.int .i64) pl false, vi m, vi i], [some ⟨[vi n, .sl (.pair .i64) ws false], true, 24, false, false, none⟩, some ⟨[vi q, .run (.int .u64) g], true, 111, false, false, none⟩])) := by kernel_rfl
def l9 (l : List Int) : Bool := decide (l.length = 9)
def l65_8t (pl : List Int) (n q : Int) (ws wl : Ws) (g l : List Int) (k : Int) : Tree (Out × List AV × Hp) := .br (sm wl && decide (1 ≤ n) && decide (n ≤ 9) && l9 l && decide (k = wl.length)) (.br ((Brn.waysP n wl 0 l).1 == 0) (.leaf (.ext 1, [lI pl, ps 0, nilP, vi 0, ps 1, ps 2, lW wl, vi k, vi k], [some (rH n ws 24), some (rG q g), some (rN (Brn.waysP n wl 0 l).2.2 107)])) (.leaf (.ret, [lI pl, ps 0, nilP, vi (Brn.waysP n wl 0 l).1, ps 1, ps 2, lW wl, vi k, vi (Brn.waysP n wl 0 l).2.1], [some (rH n ws 24), some (rG q g), some (rN (Brn.waysP n wl 0 l).2.2 107)]))) .fail
def l65_8 (base : Nat) (kv : List AV) (H : Hp) : Tree (Out × List AV × Hp) := match Nat.beq base 0, kv, H with
  | true, [(.sl (.int .i64) pl false), (.ps 0 0 0 0), (.sc (.pointer none)), (.sc (.int .i64 0)), (.ps 1 0 0 0), (.ps 2 0 0 0), (.sl (.pair .i64) wl false), (.sc (.int .i64 k)), (.sc (.int .i64 0))], [some ⟨[.sc (.int .i64 n), .sl (.pair .i64) ws false], true, 24, false, false, none⟩, some ⟨[.sc (.int .i64 q), .run (.int .u64) g], true, 111, false, false, none⟩, some ⟨[.run (.int .u64) l], true, 107, false, false, none⟩] => l65_8t pl n q ws wl g l k
  | _, _, _ => .fail
theorem l65_8_ok {T : Tab} (hT : TabOK T) (hlo : loopOf T.fn 65 8 = some (lpc T 65 8)) (h : ∀ (pl : List Int) (n q : Int) (ws wl : Ws) (g l : List Int) (k : Int) (r : Out × List AV × Hp), (l65_8t pl n q ws wl g l k).val = some r → ∃ mm, lpRun T 65 8 0 (lpc T 65 8) mm [lI pl, ps 0, nilP, vi 0, ps 1, ps 2, lW wl, vi k, vi 0] [some (rH n ws 24), some (rG q g), some (rN l 107)] = some r) : ∀ base kv H o kv' H', (l65_8 base kv H).val = some (o, kv', H') → LoopOK T 65 8 base kv H o kv' H' := by
  intro base kv H o kv' H' hv
  unfold l65_8 at hv
  split at hv
  · rename_i hb
    obtain rfl := Nat.eq_of_beq_eq_true hb
    exact loop_ok hT hlo (h _ _ _ _ _ _ _ _ _ hv)
  · cases hv
def l65_21t (pl : List Int) (n q : Int) (ws : Ws) (g l now : List Int) (k : Int) : Tree (Out × List AV × Hp) := .br (decide (1 ≤ n) && decide (n ≤ 9) && decide (k = n) && l9 now) (.leaf (.ext 4, [lI pl, ps 0, ps 1, ps 2, ps 3, vi k, vi k], [some (rH n ws 24), some (rG q g), some (rN l 107), some (rN (Brn.initN n.toNat now) 108)])) .fail
def l65_21 (base : Nat) (kv : List AV) (H : Hp) : Tree (Out × List AV × Hp) := match Nat.beq base 0, kv, H with
  | true, [(.sl (.int .i64) pl false), (.ps 0 0 0 0), (.ps 1 0 0 0), (.ps 2 0 0 0), (.ps 3 0 0 0), (.sc (.int .i64 k)), (.sc (.int .i64 0))], [some ⟨[.sc (.int .i64 n), .sl (.pair .i64) ws false], true, 24, false, false, none⟩, some ⟨[.sc (.int .i64 q), .run (.int .u64) g], true, 111, false, false, none⟩, some ⟨[.run (.int .u64) l], true, 107, false, false, none⟩, some ⟨[.run (.int .u64) now], true, 108, false, false, none⟩] => l65_21t pl n q ws g l now k
  | _, _, _ => .fail
theorem l65_21_ok {T : Tab} (hT : TabOK T) (hlo : loopOf T.fn 65 21 = some (lpc T 65 21)) (h : ∀ (pl : List Int) (n q : Int) (ws : Ws) (g l now : List Int) (k : Int) (r : Out × List AV × Hp), (l65_21t pl n q ws g l now k).val = some r → ∃ mm, lpRun T 65 21 0 (lpc T 65 21) mm [lI pl, ps 0, ps 1, ps 2, ps 3, vi k, vi 0] [some (rH n ws 24), some (rG q g), some (rN l 107), some (rN now 108)] = some r) : ∀ base kv H o kv' H', (l65_21 base kv H).val = some (o, kv', H') → LoopOK T 65 21 base kv H o kv' H' := by
  intro base kv H o kv' H' hv
  unfold l65_21 at hv
  split at hv
  · rename_i hb
    obtain rfl := Nat.eq_of_beq_eq_true hb
    exact loop_ok hT hlo (h _ _ _ _ _ _ _ _ _ hv)
  · cases hv
def l65_29t (pl : List Int) (n q : Int) (ws : Ws) (g l now : List Int) (far m k : Int) : Tree (Out × List AV × Hp) := .br (decide (1 ≤ n) && decide (n ≤ 9) && decide (k = n) && l9 now && decide (0 ≤ far) && decide (far < 9) && decide (g.length = 81)) (.leaf (.ext 8, [lI pl, ps 0, ps 1, ps 2, ps 3, vi far, vi m, vi k, vi k], [some (rH n ws 24), some (rG q (Brn.putN n.toNat far.toNat now g)), some (rN l 107), some (rN now 108)])) .fail
def l65_29 (base : Nat) (kv : List AV) (H : Hp) : Tree (Out × List AV × Hp) := match Nat.beq base 0, kv, H with
  | true, [(.sl (.int .i64) pl false), (.ps 0 0 0 0), (.ps 1 0 0 0), (.ps 2 0 0 0), (.ps 3 0 0 0), (.sc (.int .i64 far)), (.sc (.int .i64 m)), (.sc (.int .i64 k)), (.sc (.int .i64 0))], [some ⟨[.sc (.int .i64 n), .sl (.pair .i64) ws false], true, 24, false, false, none⟩, some ⟨[.sc (.int .i64 q), .run (.int .u64) g], true, 111, false, false, none⟩, some ⟨[.run (.int .u64) l], true, 107, false, false, none⟩, some ⟨[.run (.int .u64) now], true, 108, false, false, none⟩] => l65_29t pl n q ws g l now far m k
  | _, _, _ => .fail
theorem l65_29_ok {T : Tab} (hT : TabOK T) (hlo : loopOf T.fn 65 29 = some (lpc T 65 29)) (h : ∀ (pl : List Int) (n q : Int) (ws : Ws) (g l now : List Int) (far m k : Int) (r : Out × List AV × Hp), (l65_29t pl n q ws g l now far m k).val = some r → ∃ mm, lpRun T 65 29 0 (lpc T 65 29) mm [lI pl, ps 0, ps 1, ps 2, ps 3, vi far, vi m, vi k, vi 0] [some (rH n ws 24), some (rG q g), some (rN l 107), some (rN now 108)] = some r) : ∀ base kv H o kv' H', (l65_29 base kv H).val = some (o, kv', H') → LoopOK T 65 29 base kv H o kv' H' := by
  intro base kv H o kv' H' hv
  unfold l65_29 at hv
  split at hv
  · rename_i hb
    obtain rfl := Nat.eq_of_beq_eq_true hb
    exact loop_ok hT hlo (h _ _ _ _ _ _ _ _ _ _ _ hv)
  · cases hv
def l65_38t (pl : List Int) (n q : Int) (ws : Ws) (g l now before : List Int) (far p x m k i : Int) : Tree (Out × List AV × Hp) := .br (decide (0 ≤ x) && decide (x < 512) && decide (0 ≤ p) && decide (p < 9) && l9 now && l9 before) (.leaf (.ext 12, [lI pl, ps 0, ps 1, ps 2, ps 3, vi far, ps 4, vi p, vint .u64 0, vi m, vi k, vi i], [some (rH n ws 24), some (rG q g), some (rN l 107), some (rN (now.set p.toNat (Brn.gather before x.toNat (now.getD p.toNat 0))) 108), some (rN before 108)])) .fail
def l65_38 (base : Nat) (kv : List AV) (H : Hp) : Tree (Out × List AV × Hp) := match Nat.beq base 0, kv, H with
  | true, [(.sl (.int .i64) pl false), (.ps 0 0 0 0), (.ps 1 0 0 0), (.ps 2 0 0 0), (.ps 3 0 0 0), (.sc (.int .i64 far)), (.ps 4 0 0 0), (.sc (.int .i64 p)), (.sc (.int .u64 x)), (.sc (.int .i64 m)), (.sc (.int .i64 k)), (.sc (.int .i64 i))], [some ⟨[.sc (.int .i64 n), .sl (.pair .i64) ws false], true, 24, false, false, none⟩, some ⟨[.sc (.int .i64 q), .run (.int .u64) g], true, 111, false, false, none⟩, some ⟨[.run (.int .u64) l], true, 107, false, false, none⟩, some ⟨[.run (.int .u64) now], true, 108, false, false, none⟩, some ⟨[.run (.int .u64) before], true, 108, false, false, none⟩] => l65_38t pl n q ws g l now before far p x m k i
  | _, _, _ => .fail
theorem l65_38_ok {T : Tab} (hT : TabOK T) (hlo : loopOf T.fn 65 38 = some (lpc T 65 38)) (h : ∀ (pl : List Int) (n q : Int) (ws : Ws) (g l now before : List Int) (far p x m k i : Int) (r : Out × List AV × Hp), (l65_38t pl n q ws g l now before far p x m k i).val = some r → ∃ mm, lpRun T 65 38 0 (lpc T 65 38) mm [lI pl, ps 0, ps 1, ps 2, ps 3, vi far, ps 4, vi p, vint .u64 x, vi m, vi k, vi i] [some (rH n ws 24), some (rG q g), some (rN l 107), some (rN now 108), some (rN before 108)] = some r) : ∀ base kv H o kv' H', (l65_38 base kv H).val = some (o, kv', H') → LoopOK T 65 38 base kv H o kv' H' := by
  intro base kv H o kv' H' hv
  unfold l65_38 at hv
  split at hv
  · rename_i hb
    obtain rfl := Nat.eq_of_beq_eq_true hb
    exact loop_ok hT hlo (h _ _ _ _ _ _ _ _ _ _ _ _ _ _ _ hv)
  · cases hv
def l65_47t (pl : List Int) (n q : Int) (ws : Ws) (g now : List Int) (far p k m i : Int) : Tree (Out × List AV × Hp) := .br (decide (0 ≤ p) && decide (p < 9) && l9 now && decide (0 ≤ k) && decide (k < 9) && decide (g.length = 81)) (.leaf (.ext 16, [lI pl, ps 0, ps 1, ps 2, vi far, vi p, vi 9, vi m, vi i], [some (rH n ws 24), some (rG q (Brn.fill1 k.toNat p.toNat (now.getD p.toNat 0) g)), some (rN now 108)])) .fail
def l65_47 (base : Nat) (kv : List AV) (H : Hp) : Tree (Out × List AV × Hp) := match Nat.beq base 0, kv, H with
  | true, [(.sl (.int .i64) pl false), (.ps 0 0 0 0), (.ps 1 0 0 0), (.ps 2 0 0 0), (.sc (.int .i64 far)), (.sc (.int .i64 p)), (.sc (.int .i64 k)), (.sc (.int .i64 m)), (.sc (.int .i64 i))], [some ⟨[.sc (.int .i64 n), .sl (.pair .i64) ws false], true, 24, false, false, none⟩, some ⟨[.sc (.int .i64 q), .run (.int .u64) g], true, 111, false, false, none⟩, some ⟨[.run (.int .u64) now], true, 108, false, false, none⟩] => l65_47t pl n q ws g now far p k m i
  | _, _, _ => .fail
theorem l65_47_ok {T : Tab} (hT : TabOK T) (hlo : loopOf T.fn 65 47 = some (lpc T 65 47)) (h : ∀ (pl : List Int) (n q : Int) (ws : Ws) (g now : List Int) (far p k m i : Int) (r : Out × List AV × Hp), (l65_47t pl n q ws g now far p k m i).val = some r → ∃ mm, lpRun T 65 47 0 (lpc T 65 47) mm [lI pl, ps 0, ps 1, ps 2, vi far, vi p, vi k, vi m, vi i] [some (rH n ws 24), some (rG q g), some (rN now 108)] = some r) : ∀ base kv H o kv' H', (l65_47 base kv H).val = some (o, kv', H') → LoopOK T 65 47 base kv H o kv' H' := by
  intro base kv H o kv' H' hv
  unfold l65_47 at hv
  split at hv
  · rename_i hb
    obtain rfl := Nat.eq_of_beq_eq_true hb
    exact loop_ok hT hlo (h _ _ _ _ _ _ _ _ _ _ _ _ hv)
  · cases hv
def l65_55t (pl : List Int) (n q : Int) (ws : Ws) (g : List Int) (m : Int) : Tree (Out × List AV × Hp) := .br (sm pl && decide (1 ≤ n) && decide (n ≤ 9) && decide (m = pl.length)) (.br (pl.all fun p => Brn.inR p 0 (n - 1)) (.leaf (.ext 18, [ps 0, .dead, .dead, ps 1, lI pl, vi m, vi m], [some (rH n ws 24), some (rG q g)])) (.leaf (.ret, [ps 0, nilP, vi 2, ps 1, lI pl, vi m, vi (pl.findIdx fun p => !Brn.inR p 0 (n - 1))], [some (rH n ws 24), some (rG q g)]))) .fail
def l65_55 (base : Nat) (kv : List AV) (H : Hp) : Tree (Out × List AV × Hp) := match Nat.beq base 0, kv, H with
  | true, [(.ps 0 0 0 0), .dead, .dead, (.ps 1 0 0 0), (.sl (.int .i64) pl false), (.sc (.int .i64 m)), (.sc (.int .i64 0))], [some ⟨[.sc (.int .i64 n), .sl (.pair .i64) ws false], true, 24, false, false, none⟩, some ⟨[.sc (.int .i64 q), .run (.int .u64) g], true, 111, false, false, none⟩] => l65_55t pl n q ws g m
  | _, _, _ => .fail
theorem l65_55_ok {T : Tab} (hT : TabOK T) (hlo : loopOf T.fn 65 55 = some (lpc T 65 55)) (h : ∀ (pl : List Int) (n q : Int) (ws : Ws) (g : List Int) (m : Int) (r : Out × List AV × Hp), (l65_55t pl n q ws g m).val = some r → ∃ mm, lpRun T 65 55 0 (lpc T 65 55) mm [ps 0, .dead, .dead, ps 1, lI pl, vi m, vi 0] [some (rH n ws 24), some (rG q g)] = some r) : ∀ base kv H o kv' H', (l65_55 base kv H).val = some (o, kv', H') → LoopOK T 65 55 base kv H o kv' H' := by
  intro base kv H o kv' H' hv
  unfold l65_55 at hv
  split at hv
  · rename_i hb
    obtain rfl := Nat.eq_of_beq_eq_true hb
    exact loop_ok hT hlo (h _ _ _ _ _ _ _ hv)
  · cases hv
noncomputable def S3 : Tab := ((((((S2).addLoop 65 8 l65_8).addLoop 65 21 l65_21).addLoop 65 29 l65_29).addLoop 65 38 l65_38).addLoop 65 47 l65_47).addLoop 65 55 l65_55
theorem nl65_35 (again : Ag) (pl : List Int) (n q : Int) (ws : Ws) (g l now before : List Int) (far m k i : Int) : lpStep S3 65 35 0 (lpc S3 65 35) again [lI pl, ps 0, ps 1, ps 2, ps 3, vi far, ps 4, vi m, vi k, vi i] [some (rH n ws 24), some (rG q g), some (rN l 107), some (rN now 108), some (rN before 108)] = (bif decide (i < k) then bif decide (0 ≤ i) then bif decide (i < (↑9 : Int)) then oM l[i.toNat]? fun x => bif decide (0 ≤ x) && decide (x < 512) && decide (0 ≤ i) && decide (i < 9) && decide (now.length = 9) && decide (before.length = 9) then again [.sl (.int .i64) pl false, .ps 0 0 0 0, .ps 1 0 0 0, .ps 2 0 0 0, .ps 3 0 0 0, vi far, .ps 4 0 0 0, vi m, vi k, vi (IntKind.i64.wrap (i + 1))] [some ⟨[vi n, .sl (.pair .i64) ws false], true, 24, false, false, none⟩, some ⟨[vi q, .run (.int .u64) g], true, 111, false, false, none⟩, some ⟨[.run (.int .u64) l], true, 107, false, false, none⟩, some ⟨[.run (.int .u64) (now.set i.toNat (Brn.gather before (Int.toNat x) (now.getD i.toNat 0)))], true, 108, false, false, none⟩, some ⟨[.run (.int .u64) before], true, 108, false, false, none⟩] else none else none else none else some (.ext 10, [.sl (.int .i64) pl false, .ps 0 0 0 0, .ps 1 0 0 0, .ps 2 0 0 0, .ps 3 0 0 0, vi far, .ps 4 0 0 0, vi m, vi k, vi i], [some ⟨[vi n, .sl (.pair .i64) ws false], true, 24, false, false, none⟩, some ⟨[vi q, .run (.int .u64) g], true, 111, false, false, none⟩, some ⟨[.run (.int .u64) l], true, 107, false, false, none⟩, some ⟨[.run (.int .u64) now], true, 108, false, false, none⟩, some ⟨[.run (.int .u64) before], true, 108, false, false, none⟩])) := by kernel_rfl
theorem nl65_44 (again : Ag) (pl : List Int) (n q : Int) (ws : Ws) (g now : List Int) (far m i : Int) : lpStep S3 65 44 0 (lpc S3 65 44) again [lI pl, ps 0, ps 1, ps 2, vi far, vi m, vi i] [some (rH n ws 24), some (rG q g), some (rN now 108)] = (bif decide (i < m) then bif decide (0 ≤ i) && decide (i < 9) && decide (now.length = 9) && decide (0 ≤ far) && decide (far < 9) && decide (g.length = 81) then again [.sl (.int .i64) pl false, .ps 0 0 0 0, .ps 1 0 0 0, .ps 2 0 0 0, vi far, vi m, vi (IntKind.i64.wrap (i + 1))] [some ⟨[vi n, .sl (.pair .i64) ws false], true, 24, false, false, none⟩, some ⟨[vi q, .run (.int .u64) (Brn.fill1 far.toNat i.toNat (now.getD i.toNat 0) g)], true, 111, false, false, none⟩, some ⟨[.run (.int .u64) now], true, 108, false, false, none⟩] else none else some (.ext 14, [.sl (.int .i64) pl false, .ps 0 0 0 0, .ps 1 0 0 0, .ps 2 0 0 0, vi far, vi m, vi i], [some ⟨[vi n, .sl (.pair .i64) ws false], true, 24, false, false, none⟩, some ⟨[vi q, .run (.int .u64) g], true, 111, false, false, none⟩, some ⟨[.run (.int .u64) now], true, 108, false, false, none⟩])) := by kernel_rfl
def l65_35t (pl : List Int) (n q : Int) (ws : Ws) (g l now before : List Int) (far m k : Int) : Tree (Out × List AV × Hp) := .br (decide (1 ≤ n) && decide (n ≤ 9) && decide (k = n) && l9 now && l9 before && l9 l && l.all (fun x => decide (0 ≤ x) && decide (x < 512))) (.leaf (.ext 10, [lI pl, ps 0, ps 1, ps 2, ps 3, vi far, ps 4, vi m, vi k, vi k], [some (rH n ws 24), some (rG q g), some (rN l 107), some (rN (Brn.stepN n.toNat l before now) 108), some (rN before 108)])) .fail
def l65_35 (base : Nat) (kv : List AV) (H : Hp) : Tree (Out × List AV × Hp) := match Nat.beq base 0, kv, H with
  | true, [(.sl (.int .i64) pl false), (.ps 0 0 0 0), (.ps 1 0 0 0), (.ps 2 0 0 0), (.ps 3 0 0 0), (.sc (.int .i64 far)), (.ps 4 0 0 0), (.sc (.int .i64 m)), (.sc (.int .i64 k)), (.sc (.int .i64 0))], [some ⟨[.sc (.int .i64 n), .sl (.pair .i64) ws false], true, 24, false, false, none⟩, some ⟨[.sc (.int .i64 q), .run (.int .u64) g], true, 111, false, false, none⟩, some ⟨[.run (.int .u64) l], true, 107, false, false, none⟩, some ⟨[.run (.int .u64) now], true, 108, false, false, none⟩, some ⟨[.run (.int .u64) before], true, 108, false, false, none⟩] => l65_35t pl n q ws g l now before far m k
  | _, _, _ => .fail
theorem l65_35_ok {T : Tab} (hT : TabOK T) (hlo : loopOf T.fn 65 35 = some (lpc T 65 35)) (h : ∀ (pl : List Int) (n q : Int) (ws : Ws) (g l now before : List Int) (far m k : Int) (r : Out × List AV × Hp), (l65_35t pl n q ws g l now before far m k).val = some r → ∃ mm, lpRun T 65 35 0 (lpc T 65 35) mm [lI pl, ps 0, ps 1, ps 2, ps 3, vi far, ps 4, vi m, vi k, vi 0] [some (rH n ws 24), some (rG q g), some (rN l 107), some (rN now 108), some (rN before 108)] = some r) : ∀ base kv H o kv' H', (l65_35 base kv H).val = some (o, kv', H') → LoopOK T 65 35 base kv H o kv' H' := by
  intro base kv H o kv' H' hv
  unfold l65_35 at hv
  split at hv
  · rename_i hb
    obtain rfl := Nat.eq_of_beq_eq_true hb
    exact loop_ok hT hlo (h _ _ _ _ _ _ _ _ _ _ _ _ hv)
  · cases hv
def l65_44t (pl : List Int) (n q : Int) (ws : Ws) (g now : List Int) (far m : Int) : Tree (Out × List AV × Hp) := .br (decide (1 ≤ n) && decide (n ≤ 9) && decide (m = n) && l9 now && decide (0 ≤ far) && decide (far < 9) && decide (g.length = 81)) (.leaf (.ext 14, [lI pl, ps 0, ps 1, ps 2, vi far, vi m, vi m], [some (rH n ws 24), some (rG q (Brn.fillN n.toNat far.toNat now g)), some (rN now 108)])) .fail
def l65_44 (base : Nat) (kv : List AV) (H : Hp) : Tree (Out × List AV × Hp) := match Nat.beq base 0, kv, H with
  | true, [(.sl (.int .i64) pl false), (.ps 0 0 0 0), (.ps 1 0 0 0), (.ps 2 0 0 0), (.sc (.int .i64 far)), (.sc (.int .i64 m)), (.sc (.int .i64 0))], [some ⟨[.sc (.int .i64 n), .sl (.pair .i64) ws false], true, 24, false, false, none⟩, some ⟨[.sc (.int .i64 q), .run (.int .u64) g], true, 111, false, false, none⟩, some ⟨[.run (.int .u64) now], true, 108, false, false, none⟩] => l65_44t pl n q ws g now far m
  | _, _, _ => .fail
theorem l65_44_ok {T : Tab} (hT : TabOK T) (hlo : loopOf T.fn 65 44 = some (lpc T 65 44)) (h : ∀ (pl : List Int) (n q : Int) (ws : Ws) (g now : List Int) (far m : Int) (r : Out × List AV × Hp), (l65_44t pl n q ws g now far m).val = some r → ∃ mm, lpRun T 65 44 0 (lpc T 65 44) mm [lI pl, ps 0, ps 1, ps 2, vi far, vi m, vi 0] [some (rH n ws 24), some (rG q g), some (rN now 108)] = some r) : ∀ base kv H o kv' H', (l65_44 base kv H).val = some (o, kv', H') → LoopOK T 65 44 base kv H o kv' H' := by
  intro base kv H o kv' H' hv
  unfold l65_44 at hv
  split at hv
  · rename_i hb
    obtain rfl := Nat.eq_of_beq_eq_true hb
    exact loop_ok hT hlo (h _ _ _ _ _ _ _ _ _ hv)
  · cases hv
noncomputable def S4 : Tab := ((S3).addLoop 65 35 l65_35).addLoop 65 44 l65_44
theorem nl65_26 (again : Ag) (pl : List Int) (n q : Int) (ws : Ws) (g l now : List Int) (i : Int) : lpStep S4 65 26 0 (lpc S4 65 26) again [lI pl, ps 0, ps 1, ps 2, ps 3, vi i] [some (rH n ws 24), some (rG q g), some (rN l 107), some (rN now 108)] = (bif decide (i < 9) then bif decide (1 ≤ n) && decide (n ≤ 9) && decide (n = n) && decide (now.length = 9) && decide (0 ≤ i) && decide (i < 9) && decide (g.length = 81) then bif decide (List.map (fun (x : AV) => match x with | .run e l => l.length * e.size | _ => 1) (List.take 1 (List.drop 0 [.run (.int .u64) now])) = List.map (fun (x : AV) => match x with | .run e l => l.length * e.size | _ => 1) ((some [.run (.int .u64) (List.replicate 9 0)]).getD [])) then bif decide (1 ≤ n) && decide (n ≤ 9) && decide (n = n) && decide (now.length = 9) && decide (now.length = 9) && decide (l.length = 9) && l.all fun x => decide (0 ≤ x) && decide (x < 512) then bif decide ((Brn.stepN n.toNat l now now).length = 9) then bif decide (now.length = 9) then bif Brn.stepN n.toNat l now now == now then bif decide (1 ≤ n) && decide (n ≤ 9) && decide (n = n) && decide ((Brn.stepN n.toNat l now now).length = 9) && decide (0 ≤ i) && decide (i < 9) && decide ((Brn.putN n.toNat i.toNat now g).length = 81) then some (.ext 6, [.sl (.int .i64) pl false, .ps 0 0 0 0, .ps 1 0 0 0, .dead, .ps 2 0 0 0, .dead], [some ⟨[vi n, .sl (.pair .i64) ws false], true, 24, false, false, none⟩, some ⟨[vi q, .run (.int .u64) (Brn.fillN n.toNat i.toNat (Brn.stepN n.toNat l now now) (Brn.putN n.toNat i.toNat now g))], true, 111, false, false, none⟩, some ⟨[.run (.int .u64) (Brn.stepN n.toNat l now now)], true, 108, false, false, none⟩]) else none else again [.sl (.int .i64) pl false, .ps 0 0 0 0, .ps 1 0 0 0, .ps 2 0 0 0, .ps 3 0 0 0, vi (IntKind.i64.wrap (i + 1))] [some ⟨[vi n, .sl (.pair .i64) ws false], true, 24, false, false, none⟩, some ⟨[vi q, .run (.int .u64) (Brn.putN n.toNat i.toNat now g)], true, 111, false, false, none⟩, some ⟨[.run (.int .u64) l], true, 107, false, false, none⟩, some ⟨[.run (.int .u64) (Brn.stepN n.toNat l now now)], true, 108, false, false, none⟩] else none else none else none else none else none else some (.ext 6, [.sl (.int .i64) pl false, .ps 0 0 0 0, .ps 1 0 0 0, .ps 2 0 0 0, .ps 3 0 0 0, vi i], [some ⟨[vi n, .sl (.pair .i64) ws false], true, 24, false, false, none⟩, some ⟨[vi q, .run (.int .u64) g], true, 111, false, false, none⟩, some ⟨[.run (.int .u64) l], true, 107, false, false, none⟩, some ⟨[.run (.int .u64) now], true, 108, false, false, none⟩])) := by kernel_rfl
def l65_26t (pl : List Int) (n q : Int) (ws : Ws) (g l now : List Int) : Tree (Out × List AV × Hp) := .br (decide (1 ≤ n) && decide (n ≤ 9) && l9 now && l9 l && l.all (fun x => decide (0 ≤ x) && decide (x < 512)) && decide (g.length = 81)) (.br (decide ((Brn.rounds n.toNat l 9 0 g now).2.2 < 9)) (.leaf (.ext 6, [lI pl, ps 0, ps 1, .dead, ps 2, .dead], [some (rH n ws 24), some (rG q (Brn.rounds n.toNat l 9 0 g now).1), some (rN (Brn.rounds n.toNat l 9 0 g now).2.1 108)])) (.leaf (.ext 6, [lI pl, ps 0, ps 1, ps 2, ps 3, vi 9], [some (rH n ws 24), some (rG q (Brn.rounds n.toNat l 9 0 g now).1), some (rN l 107), some (rN (Brn.rounds n.toNat l 9 0 g now).2.1 108)]))) .fail
def l65_26 (base : Nat) (kv : List AV) (H : Hp) : Tree (Out × List AV × Hp) := match Nat.beq base 0, kv, H with
  | true, [(.sl (.int .i64) pl false), (.ps 0 0 0 0), (.ps 1 0 0 0), (.ps 2 0 0 0), (.ps 3 0 0 0), (.sc (.int .i64 0))], [some ⟨[.sc (.int .i64 n), .sl (.pair .i64) ws false], true, 24, false, false, none⟩, some ⟨[.sc (.int .i64 q), .run (.int .u64) g], true, 111, false, false, none⟩, some ⟨[.run (.int .u64) l], true, 107, false, false, none⟩, some ⟨[.run (.int .u64) now], true, 108, false, false, none⟩] => l65_26t pl n q ws g l now
  | _, _, _ => .fail
theorem l65_26_ok {T : Tab} (hT : TabOK T) (hlo : loopOf T.fn 65 26 = some (lpc T 65 26)) (h : ∀ (pl : List Int) (n q : Int) (ws : Ws) (g l now : List Int) (r : Out × List AV × Hp), (l65_26t pl n q ws g l now).val = some r → ∃ mm, lpRun T 65 26 0 (lpc T 65 26) mm [lI pl, ps 0, ps 1, ps 2, ps 3, vi 0] [some (rH n ws 24), some (rG q g), some (rN l 107), some (rN now 108)] = some r) : ∀ base kv H o kv' H', (l65_26 base kv H).val = some (o, kv', H') → LoopOK T 65 26 base kv H o kv' H' := by
  intro base kv H o kv' H' hv
  unfold l65_26 at hv
  split at hv
  · rename_i hb
    obtain rfl := Nat.eq_of_beq_eq_true hb
    exact loop_ok hT hlo (h _ _ _ _ _ _ _ _ hv)
  · cases hv
def c76t (n : Int) (l : List Int) : Tree (AV × Hp) := .br (decide (0 ≤ n) && decide (n ≤ 9)) (.leaf (vint .u64 (Brn.allN n), [])) .fail
def c76 (args : List AV) (H : Hp) : Tree (AV × Hp) := match args, H with
  | [(.pt [.sc (.int .i64 n), .run (.int .u64) l] (some 111) 0 0 0)], [] => c76t n l
  | _, _ => .fail
theorem c76_ok {T : Tab} (hT : TabOK T) (h : ∀ (n : Int) (l : List Int) (r : AV × Hp), (c76t n l).val = some r → evBody T 76 [aG n l] [] = some r) : ∀ args H v H', (c76 args H).val = some (v, H') → CallOK T 76 args H v H' := by
  intro args H v H' hv
  unfold c76 at hv
  split at hv
  · exact evBody_sound hT (h _ _ _ hv)
  · cases hv
noncomputable def S5 : Tab := ((S4).addLoop 65 26 l65_26).addCall 76 c76
theorem nf65 (pl : List Int) (n : Int) (ws : Ws) : evBody S5 65 [aH n ws, lI pl] [] = (bif !Brn.inR n 1 9 then some (.tuple [.sc (.pointer none), vi 1], []) else bif decide ((↑(List.length ws) : Int) > 12) then some (.tuple [.sc (.pointer none), vi 3], []) else bif sm ws && decide (1 ≤ n) && decide (n ≤ 9) && decide (9 = 9) && decide ((↑(List.length ws) : Int) = (↑(List.length ws) : Int)) then bif (Brn.waysP n ws 0 (List.replicate 9 0)).fst == 0 then bif decide (1 ≤ n) && decide (n ≤ 9) && decide (n = n) && decide (9 = 9) then bif (decide (1 ≤ n) && decide (n ≤ 9) && decide ((Brn.initN n.toNat (List.replicate 9 0)).length = 9) && decide ((Brn.waysP n ws 0 (List.replicate 9 0)).snd.snd.length = 9) && (Brn.waysP n ws 0 (List.replicate 9 0)).snd.snd.all fun x => decide (0 ≤ x) && decide (x < 512)) && decide (81 = 81) then bif decide ((Brn.rounds n.toNat (Brn.waysP n ws 0 (List.replicate 9 0)).snd.snd 9 0 (List.replicate 81 0) (Brn.initN n.toNat (List.replicate 9 0))).snd.snd < 9) then oM (Brn.rounds n.toNat (Brn.waysP n ws 0 (List.replicate 9 0)).snd.snd 9 0 (List.replicate 81 0) (Brn.initN n.toNat (List.replicate 9 0))).fst[8]? fun x => bif decide (0 ≤ n) && decide (n ≤ 9) then bif x != Brn.allN n then some (.tuple [.sc (.pointer none), vi 5], []) else bif sm pl && decide (1 ≤ n) && decide (n ≤ 9) && decide ((↑pl.length : Int) = (↑pl.length : Int)) then bif pl.all fun p => Brn.inR p 0 (n - 1) then some (.tuple [.ps 0 0 0 0, vi 0], [some ⟨[vi n, .run (.int .u64) (Brn.rounds n.toNat (Brn.waysP n ws 0 (List.replicate 9 0)).snd.snd 9 0 (List.replicate 81 0) (Brn.initN n.toNat (List.replicate 9 0))).fst], true, 111, false, false, none⟩]) else some (.tuple [.sc (.pointer none), vi 2], []) else none else none else oM (Brn.rounds n.toNat (Brn.waysP n ws 0 (List.replicate 9 0)).snd.snd 9 0 (List.replicate 81 0) (Brn.initN n.toNat (List.replicate 9 0))).fst[8]? fun x => bif decide (0 ≤ n) && decide (n ≤ 9) then bif x != Brn.allN n then some (.tuple [.sc (.pointer none), vi 5], []) else bif sm pl && decide (1 ≤ n) && decide (n ≤ 9) && decide ((↑pl.length : Int) = (↑pl.length : Int)) then bif pl.all fun p => Brn.inR p 0 (n - 1) then some (.tuple [.ps 0 0 0 0, vi 0], [some ⟨[vi n, .run (.int .u64) (Brn.rounds n.toNat (Brn.waysP n ws 0 (List.replicate 9 0)).snd.snd 9 0 (List.replicate 81 0) (Brn.initN n.toNat (List.replicate 9 0))).fst], true, 111, false, false, none⟩]) else some (.tuple [.sc (.pointer none), vi 2], []) else none else none else none else none else some (.tuple [.sc (.pointer none), .sc (.int .i64 (Brn.waysP n ws 0 (List.replicate 9 0)).fst)], []) else none) := by kernel_rfl
end Go.Ev.Burn
namespace Go.Ev.Burn
open Go Go.Ev
set_option maxRecDepth 1000000
set_option linter.unusedVariables false
noncomputable def okx (x : Nat) : Bool := match evBody T12 100 [vint .u64 x] [] with
  | some (.sc (.int .i64 k), []) => decide (k = (Brn.tz x : Int))
  | _ => false
theorem okx_all : ((List.range 512).all fun x => x == 0 || okx x) = true := by kernel_rfl
theorem okx_spec {x : Nat} (h : okx x = true) : evBody T12 100 [vint .u64 x] [] = some (vi (Brn.tz x), []) := by
  unfold okx at h
  split at h
  · rename_i k hk
    rw [hk, of_decide_eq_true h]
  · cases h
theorem c100_run : ∀ args H v H', (c100 args H).val = some (v, H') → CallOK T12 100 args H v H' := c100_ok T12_ok (by
  intro x r hv
  obtain ⟨hl, hv⟩ := guard_val hv
  simp only [Bool.and_eq_true, decide_eq_true_eq] at hl
  obtain ⟨k, rfl⟩ := Int.eq_ofNat_of_zero_le (Int.le_of_lt hl.1)
  rw [leaf_val hv, toNat_cast]
  have h := List.all_eq_true.1 okx_all k (List.mem_range.2 (by omega))
  rw [Bool.or_eq_true] at h
  rcases h with h | h
  · have : k = 0 := by simpa using h
    omega
  · exact okx_spec h)
theorem S1_ok : TabOK S1 := by
  have h := T12_ok
  have h := h.addCall (g := 100) (r := c100) fun a H v H' hv => by refine CallOK.tab ?_ ?_ (c100_run a H v H' hv) <;> rfl
  exact h
theorem c82_run : ∀ args H v H', (c82 args H).val = some (v, H') → CallOK S1 82 args H v H' := c82_ok S1_ok (by
  intro x r hv
  obtain ⟨hl, hv⟩ := guard_val hv
  rw [leaf_val hv, nf82, cond_t hl])
theorem S2_ok : TabOK S2 := by
  have h := S1_ok
  have h := h.addCall (g := 82) (r := c82) fun a H v H' hv => by refine CallOK.tab ?_ ?_ (c82_run a H v H' hv) <;> rfl
  exact h
theorem get9 {l : List Int} {m i : Nat} (h : l.length = m) (hi : i < m) : l[i]? = some (l.getD i 0) := by
  rw [List.getD_eq_getElem?_getD, List.getElem?_eq_getElem (by omega)]; rfl
theorem wrap_pred {x : Nat} (h0 : x ≠ 0) (h : x < 512) : IntKind.u64.wrap ((x : Int) - 1) = ((x - 1 : Nat) : Int) := by
  rw [wrapu (by omega) (by omega)]; omega
theorem drop_bit {x : Nat} (h0 : x ≠ 0) (h : x < 512) : IntKind.u64.wrap ((BitVec.ofInt 64 (x : Int) &&& BitVec.ofInt 64 (IntKind.u64.wrap ((x : Int) - 1))).toNat : Int) = ((x &&& (x - 1) : Nat) : Int) := by
  rw [wrap_pred h0 h]
  exact Brn.andU_nat (by omega) (by omega)
theorem l65_38_run : ∀ base kv H o kv' H', (l65_38 base kv H).val = some (o, kv', H') → LoopOK S2 65 38 base kv H o kv' H' := l65_38_ok S2_ok (by kernel_rfl) (by
  intro pl n q ws g l now before far p x m k i r hv
  obtain ⟨hl, hv⟩ := guard_val hv
  simp only [Bool.and_eq_true, decide_eq_true_eq, l9] at hl
  obtain ⟨⟨⟨⟨⟨hx0, hx⟩, hp0⟩, hp⟩, hnow⟩, hbef⟩ := hl
  obtain ⟨x, rfl⟩ := Int.eq_ofNat_of_zero_le hx0
  obtain ⟨p, rfl⟩ := Int.eq_ofNat_of_zero_le hp0
  simp only [toNat_cast] at hv
  obtain ⟨mm, hm⟩ := lpRun_of (T := S2) (fid := 65) (lid := 38) (base := 0) (c := lpc S2 65 38) (fun a : Nat × Int => a.1 < 512 ∧ Brn.gather before a.1 a.2 = Brn.gather before x (now.getD p 0))
    (fun a => [lI pl, ps 0, ps 1, ps 2, ps 3, vi far, ps 4, vi p, vint .u64 a.1, vi m, vi k, vi i]) (fun a => [some (rH n ws 24), some (rG q g), some (rN l 107), some (rN (now.set p a.2) 108), some (rN before 108)]) (fun _ => r) (fun a => a.1)
    (fun a ha again => by
      obtain ⟨y, v⟩ := a
      obtain ⟨hy, hgv⟩ := ha
      dsimp only at hy hgv ⊢
      by_cases h0 : y = 0
      · subst h0
        left
        rw [nl65_38, leaf_val hv, ← hgv]
        rfl
      · right
        obtain ⟨b1, b2, b3⟩ := Brn.bits_step y hy h0
        refine ⟨(y &&& (y - 1), Brn.orU v (before.getD (Brn.tz y) 0)), ⟨by dsimp only; omega, ?_⟩, b3, rfl, ?_⟩
        · rw [← hgv]; simp only [Brn.gather, b1, List.foldl_cons]
        · rw [nl65_38]
          have e0 : ((y : Int) != 0) = true := by simpa using h0
          have e1 : decide (0 < (y : Int)) = true := decide_eq_true (by omega)
          have e2 : decide ((y : Int) < 512) = true := decide_eq_true (by omega)
          have e3 : decide ((Brn.tz y : Int) < (9 : Int)) = true := decide_eq_true (by omega)
          have e4 : decide ((p : Int) < (9 : Int)) = true := decide_eq_true (by omega)
          have s1 : (now.set p v)[p]? = some v := by rw [List.getElem?_set_self (by omega)]
          simp only [e0, e1, e2, e3, e4, dec_ge, Bool.and_self, cond_true, toNat_cast, s1, oM, get9 hbef b2, drop_bit h0 hy, List.set_set]
          rfl) (x, now.getD p 0) ⟨by omega, rfl⟩
  refine ⟨mm, Eq.trans ?_ hm⟩
  have : now.set p (now.getD p 0) = now := by
    apply List.ext_getElem?
    intro j
    by_cases hj : j = p
    · subst hj
      rw [List.getElem?_set_self (by omega), get9 hnow (by omega)]
    · rw [List.getElem?_set_ne (Ne.symm hj)]
  dsimp only
  rw [this])
theorem range_get {n i x : Nat} (h : (List.range n)[i]? = some x) : x = i ∧ i < n := by
  rcases Nat.lt_or_ge i n with hi | hi
  · rw [List.getElem?_range hi] at h; cases h; exact ⟨rfl, hi⟩
  · rw [List.getElem?_eq_none (by simpa using hi)] at h; cases h
theorem l65_21_run : ∀ base kv H o kv' H', (l65_21 base kv H).val = some (o, kv', H') → LoopOK S2 65 21 base kv H o kv' H' := l65_21_ok S2_ok (by kernel_rfl) (by
  intro pl n q ws g l now k r hv
  obtain ⟨hl, hv⟩ := guard_val hv
  simp only [Bool.and_eq_true, decide_eq_true_eq, l9] at hl
  obtain ⟨⟨⟨h1, h9⟩, rfl⟩, hnow⟩ := hl
  obtain ⟨n, rfl⟩ := Int.eq_ofNat_of_zero_le (show 0 ≤ k by omega)
  rw [leaf_val hv]
  have := fold_of (T := S2) (fid := 65) (lid := 21) (base := 0) (c := lpc S2 65 21) (List.range n) (fun i (s : List Int) => s.length = 9) (fun (s : List Int) p => s.set p (Brn.shlU 1 p))
    (fun p s => [lI pl, ps 0, ps 1, ps 2, ps 3, vi n, vi p]) (fun s => [some (rH n ws 24), some (rG q g), some (rN l 107), some (rN s 108)])
    (fun s => (.ext 4, [lI pl, ps 0, ps 1, ps 2, ps 3, vi n, vi n], [some (rH n ws 24), some (rG q g), some (rN l 107), some (rN s 108)]))
    (fun i x s hx hlt hI again => by
      obtain ⟨rfl, hi⟩ := range_get hx
      rw [nl65_21]
      have e4 : decide ((x : Int) < (9 : Int)) = true := decide_eq_true (by omega)
      simp only [dec_lt hi, dec_ge, e4, cond_true, toNat_cast, get9 hI (show x < 9 by omega), oM]
      rw [wrap_succ (by omega)]
      simp only [Brn.shlU, toNat_cast])
    (fun i x s hx hlt hI => by simpa using hI)
    (fun s hI again => by
      rw [nl65_21, List.length_range]
      simp only [dec_ll, cond_false]) now hnow
  simpa only [List.length_range, toNat_cast, Brn.initN] using this)
theorem l65_29_run : ∀ base kv H o kv' H', (l65_29 base kv H).val = some (o, kv', H') → LoopOK S2 65 29 base kv H o kv' H' := l65_29_ok S2_ok (by kernel_rfl) (by
  intro pl n q ws g l now far m k r hv
  obtain ⟨hl, hv⟩ := guard_val hv
  simp only [Bool.and_eq_true, decide_eq_true_eq, l9] at hl
  obtain ⟨⟨⟨⟨⟨⟨h1, h9⟩, rfl⟩, hnow⟩, hf0⟩, hf⟩, hg⟩ := hl
  obtain ⟨n, rfl⟩ := Int.eq_ofNat_of_zero_le (show 0 ≤ k by omega)
  obtain ⟨far, rfl⟩ := Int.eq_ofNat_of_zero_le hf0
  rw [leaf_val hv]
  have := fold_of (T := S2) (fid := 65) (lid := 29) (base := 0) (c := lpc S2 65 29) (List.range n) (fun i (s : List Int) => s.length = 81) (fun (s : List Int) p => s.set (far + p * 9) (now.getD p 0))
    (fun p s => [lI pl, ps 0, ps 1, ps 2, ps 3, vi far, vi m, vi n, vi p]) (fun s => [some (rH n ws 24), some (rG q s), some (rN l 107), some (rN now 108)])
    (fun s => (.ext 8, [lI pl, ps 0, ps 1, ps 2, ps 3, vi far, vi m, vi n, vi n], [some (rH n ws 24), some (rG q s), some (rN l 107), some (rN now 108)]))
    (fun i x s hx hlt hI again => by
      obtain ⟨rfl, hi⟩ := range_get hx
      rw [nl65_29]
      have e4 : decide ((x : Int) < (9 : Int)) = true := decide_eq_true (by omega)
      have e5 : decide ((far : Int) < (9 : Int)) = true := decide_eq_true (by omega)
      simp only [dec_lt hi, dec_ge, e4, e5, cond_true, toNat_cast, get9 hnow (show x < 9 by omega), get9 hI (show far + x * 9 < 81 by omega), oM]
      rw [wrap_succ (by omega)])
    (fun i x s hx hlt hI => by simpa using hI)
    (fun s hI again => by
      rw [nl65_29, List.length_range]
      simp only [dec_ll, cond_false]) g hg
  simpa only [List.length_range, toNat_cast, Brn.putN] using this)
theorem l65_47_run : ∀ base kv H o kv' H', (l65_47 base kv H).val = some (o, kv', H') → LoopOK S2 65 47 base kv H o kv' H' := l65_47_ok S2_ok (by kernel_rfl) (by
  intro pl n q ws g now far p k m i r hv
  obtain ⟨hl, hv⟩ := guard_val hv
  simp only [Bool.and_eq_true, decide_eq_true_eq, l9] at hl
  obtain ⟨⟨⟨⟨⟨hp0, hp⟩, hnow⟩, hk0⟩, hk⟩, hg⟩ := hl
  obtain ⟨p, rfl⟩ := Int.eq_ofNat_of_zero_le hp0
  obtain ⟨k, rfl⟩ := Int.eq_ofNat_of_zero_le hk0
  rw [leaf_val hv]
  have := fold_of (T := S2) (fid := 65) (lid := 47) (base := 0) (c := lpc S2 65 47) (List.range (9 - k)) (fun i (s : List Int) => s.length = 81) (fun (s : List Int) j => s.set ((k + j) + p * 9) (now.getD p 0))
    (fun j s => [lI pl, ps 0, ps 1, ps 2, vi far, vi p, vi ((k : Int) + j), vi m, vi i]) (fun s => [some (rH n ws 24), some (rG q s), some (rN now 108)])
    (fun s => (.ext 16, [lI pl, ps 0, ps 1, ps 2, vi far, vi p, vi 9, vi m, vi i], [some (rH n ws 24), some (rG q s), some (rN now 108)]))
    (fun j x s hx hlt hI again => by
      obtain ⟨rfl, hi⟩ := range_get hx
      show lpStep S2 65 47 0 (lpc S2 65 47) again [lI pl, ps 0, ps 1, ps 2, vi far, vi p, vi ((k : Int) + x), vi m, vi i] _ = _
      rw [nl65_47]
      have e0 : decide ((k : Int) + x < 9) = true := decide_eq_true (by omega)
      have e1 : decide (0 ≤ (k : Int) + x) = true := decide_eq_true (by omega)
      have e4 : decide ((p : Int) < (9 : Int)) = true := decide_eq_true (by omega)
      have e5 : ((k : Int) + x).toNat = k + x := by omega
      simp only [e0, e1, dec_ge, e4, e5, cond_true, toNat_cast, get9 hnow (show p < 9 by omega), get9 hI (show k + x + p * 9 < 81 by omega), oM]
      rw [wrapi (by omega) (by omega)]
      rw [show (k : Int) + x + 1 = (k : Int) + ((x + 1 : Nat) : Int) by omega])
    (fun i x s hx hlt hI => by simpa using hI)
    (fun s hI again => by
      rw [List.length_range]
      show lpStep S2 65 47 0 (lpc S2 65 47) again [lI pl, ps 0, ps 1, ps 2, vi far, vi p, vi ((k : Int) + ((9 - k : Nat) : Int)), vi m, vi i] _ = _
      rw [nl65_47, show (k : Int) + ((9 - k : Nat) : Int) = 9 by omega]
      rfl) g hg
  simpa only [toNat_cast, Int.add_zero, Brn.fill1] using this)
end Go.Ev.Burn
namespace Go.Ev.Burn
open Go Go.Ev
set_option maxRecDepth 1000000
set_option linter.unusedVariables false
set_option linter.unusedSimpArgs false
theorem l65_55_run : ∀ base kv H o kv' H', (l65_55 base kv H).val = some (o, kv', H') → LoopOK S2 65 55 base kv H o kv' H' := l65_55_ok S2_ok (by kernel_rfl) (by
  intro pl n q ws g m r hv
  obtain ⟨hl, hv⟩ := guard_val hv
  simp only [Bool.and_eq_true, decide_eq_true_eq] at hl
  obtain ⟨⟨⟨hp, h1⟩, h9⟩, rfl⟩ := hl
  have hpl := sm_le hp
  obtain ⟨mm, hm⟩ := scan_of (T := S2) (fid := 65) (lid := 55) (base := 0) (c := lpc S2 65 55) pl (fun x => !Brn.inR x 0 (n - 1)) (fun i => [ps 0, .dead, .dead, ps 1, lI pl, vi pl.length, vi i])
    [some (rH n ws 24), some (rG q g)] (fun i => (.ret, [ps 0, nilP, vi 2, ps 1, lI pl, vi pl.length, vi i], [some (rH n ws 24), some (rG q g)])) (.ext 18, [ps 0, .dead, .dead, ps 1, lI pl, vi pl.length, vi pl.length], [some (rH n ws 24), some (rG q g)])
    (fun i x hx hlt again => by
      rw [nl65_55]
      simp only [dec_lt hlt, dec_ge, cond_true, toNat_cast, hx, oM]
      rw [wrapi (x := n - 1) (by omega) (by omega), wrap_succ (by omega)])
    (fun again => by
      rw [nl65_55]
      simp only [dec_ll, cond_false])
  refine ⟨mm, hm.trans ?_⟩
  have e : pl.any (fun x => !Brn.inR x 0 (n - 1)) = !pl.all fun p => Brn.inR p 0 (n - 1) := by
    rw [List.all_eq_not_any_not]; simp
  rw [e]
  rcases br_val hv with ⟨h, hv⟩ | ⟨h, hv⟩ <;> rw [leaf_val hv, h] <;> rfl)
theorem nextW_len (l : List Int) (w : Int × Int) : (Brn.nextW l w).length = l.length := by simp [Brn.nextW]
theorem l65_8_run : ∀ base kv H o kv' H', (l65_8 base kv H).val = some (o, kv', H') → LoopOK S2 65 8 base kv H o kv' H' := l65_8_ok S2_ok (by kernel_rfl) (by
  intro pl n q ws wl g l k r hv
  obtain ⟨hl, hv⟩ := guard_val hv
  simp only [Bool.and_eq_true, decide_eq_true_eq, l9] at hl
  obtain ⟨⟨⟨⟨hw, h1⟩, h9⟩, hl9⟩, rfl⟩ := hl
  have hwl := sm_le hw
  obtain ⟨mm, hm⟩ := each_of (T := S2) (fid := 65) (lid := 8) (base := 0) (c := lpc S2 65 8) wl (fun i (s : List Int) => s.length = 9)
    (fun i (s : List Int) w => bif !Brn.inR w.1 0 (n - 1) || !Brn.inR w.2 0 (n - 1) then .inl (.ret, [lI pl, ps 0, nilP, vi 2, ps 1, ps 2, lW wl, vi wl.length, vi i], [some (rH n ws 24), some (rG q g), some (rN s 107)])
      else bif decide (w.2 ≤ w.1) then .inl (.ret, [lI pl, ps 0, nilP, vi 7, ps 1, ps 2, lW wl, vi wl.length, vi i], [some (rH n ws 24), some (rG q g), some (rN s 107)])
      else bif Brn.bitU (s.getD w.1.toNat 0) w.2 then .inl (.ret, [lI pl, ps 0, nilP, vi 6, ps 1, ps 2, lW wl, vi wl.length, vi i], [some (rH n ws 24), some (rG q g), some (rN s 107)])
      else .inr (Brn.nextW s w))
    (fun i _ => [lI pl, ps 0, nilP, vi 0, ps 1, ps 2, lW wl, vi wl.length, vi i]) (fun s => [some (rH n ws 24), some (rG q g), some (rN s 107)])
    (fun s => (.ext 1, [lI pl, ps 0, nilP, vi 0, ps 1, ps 2, lW wl, vi wl.length, vi wl.length], [some (rH n ws 24), some (rG q g), some (rN s 107)]))
    (fun i x s hx hlt hI again => by
      rw [nl65_8]
      simp only [dec_lt hlt, dec_ge, cond_true, toNat_cast, hx, oM]
      rw [wrapi (x := n - 1) (by omega) (by omega), wrap_succ (by omega)]
      cases a1 : Brn.inR x.1 0 (n - 1) with
      | false => rfl
      | true =>
        cases a2 : Brn.inR x.2 0 (n - 1) with
        | false => rfl
        | true =>
          simp only [Bool.not_true, Bool.or_self, cond_false, ge_iff_le]
          by_cases h3 : x.2 ≤ x.1
          · simp only [decide_eq_true h3, cond_true]
          · simp only [decide_eq_false h3, cond_false]
            simp only [Brn.inR, Bool.and_eq_true, decide_eq_true_eq] at a1 a2
            have b1 : decide (0 ≤ x.1) = true := decide_eq_true (by omega)
            have b2 : decide (0 ≤ x.2) = true := decide_eq_true (by omega)
            have b3 : decide (x.1 < 9) = true := decide_eq_true (by omega)
            have b4 : decide (x.2 < 9) = true := decide_eq_true (by omega)
            have g1 := get9 hI (show x.1.toNat < 9 by omega)
            have g2 : ∀ v, (s.set x.1.toNat v)[x.2.toNat]? = some ((s.set x.1.toNat v).getD x.2.toNat 0) := fun v => get9 (m := 9) (by simpa using hI) (by omega)
            simp only [b1, b2, b3, b4, cond_true, g1, oM, g2]
            show (bif Brn.bitU (s.getD x.1.toNat 0) x.2 then _ else _) = _
            cases Brn.bitU (s.getD x.1.toNat 0) x.2 <;> rfl)
    (fun i x s s' hx hlt hI hf => by
      revert hf
      cases (!Brn.inR x.1 0 (n - 1) || !Brn.inR x.2 0 (n - 1)) <;> simp only [cond_true, cond_false]
      · cases decide (x.2 ≤ x.1) <;> simp only [cond_true, cond_false]
        · cases Brn.bitU (s.getD x.1.toNat 0) x.2 <;> simp only [cond_true, cond_false]
          · intro hf; cases hf; rw [nextW_len]; exact hI
          · intro hf; cases hf
        · intro hf; cases hf
      · intro hf; cases hf)
    (fun s hI again => by
      rw [nl65_8]
      simp only [dec_ll, cond_false]) l hl9
  refine ⟨mm, hm.trans ?_⟩
  have key : ∀ (w : Ws) (i : Nat) (s : List Int), i + w.length = wl.length → (endX (fun s => ((.ext 1, [lI pl, ps 0, nilP, vi 0, ps 1, ps 2, lW wl, vi wl.length, vi wl.length], [some (rH n ws 24), some (rG q g), some (rN s 107)]) : Out × List AV × Hp)) (foldX (fun i (s : List Int) w => bif !Brn.inR w.1 0 (n - 1) || !Brn.inR w.2 0 (n - 1) then .inl (.ret, [lI pl, ps 0, nilP, vi 2, ps 1, ps 2, lW wl, vi wl.length, vi i], [some (rH n ws 24), some (rG q g), some (rN s 107)])
      else bif decide (w.2 ≤ w.1) then .inl (.ret, [lI pl, ps 0, nilP, vi 7, ps 1, ps 2, lW wl, vi wl.length, vi i], [some (rH n ws 24), some (rG q g), some (rN s 107)])
      else bif Brn.bitU (s.getD w.1.toNat 0) w.2 then .inl (.ret, [lI pl, ps 0, nilP, vi 6, ps 1, ps 2, lW wl, vi wl.length, vi i], [some (rH n ws 24), some (rG q g), some (rN s 107)])
      else .inr (Brn.nextW s w)) i w s)) =
      bif (Brn.waysP n w i s).1 == 0 then (.ext 1, [lI pl, ps 0, nilP, vi 0, ps 1, ps 2, lW wl, vi wl.length, vi wl.length], [some (rH n ws 24), some (rG q g), some (rN (Brn.waysP n w i s).2.2 107)])
      else (.ret, [lI pl, ps 0, nilP, vi (Brn.waysP n w i s).1, ps 1, ps 2, lW wl, vi wl.length, vi (Brn.waysP n w i s).2.1], [some (rH n ws 24), some (rG q g), some (rN (Brn.waysP n w i s).2.2 107)]) := by
    intro w
    induction w with
    | nil => intro i s h; rfl
    | cons x w ih =>
      intro i s h
      simp only [foldX, Brn.waysP]
      cases (!Brn.inR x.1 0 (n - 1) || !Brn.inR x.2 0 (n - 1)) <;> simp only [cond_true, cond_false]
      · cases decide (x.2 ≤ x.1) <;> simp only [cond_true, cond_false]
        · cases Brn.bitU (s.getD x.1.toNat 0) x.2 <;> simp only [cond_true, cond_false]
          · exact ih _ _ (by simp only [List.length_cons] at h; omega)
          · rfl
        · rfl
      · rfl
  rw [key wl 0 l (by omega)]
  rcases br_val hv with ⟨h, hv⟩ | ⟨h, hv⟩ <;> rw [leaf_val hv, h] <;> rfl)
theorem S3_ok : TabOK S3 := by
  have h := S2_ok
  have h := h.addLoop (g := 65) (lid := 8) (r := l65_8) fun b k H o k' H' hv => by refine LoopOK.tab ?_ ?_ ?_ ?_ (l65_8_run b k H o k' H' hv) <;> rfl
  have h := h.addLoop (g := 65) (lid := 21) (r := l65_21) fun b k H o k' H' hv => by refine LoopOK.tab ?_ ?_ ?_ ?_ (l65_21_run b k H o k' H' hv) <;> rfl
  have h := h.addLoop (g := 65) (lid := 29) (r := l65_29) fun b k H o k' H' hv => by refine LoopOK.tab ?_ ?_ ?_ ?_ (l65_29_run b k H o k' H' hv) <;> rfl
  have h := h.addLoop (g := 65) (lid := 38) (r := l65_38) fun b k H o k' H' hv => by refine LoopOK.tab ?_ ?_ ?_ ?_ (l65_38_run b k H o k' H' hv) <;> rfl
  have h := h.addLoop (g := 65) (lid := 47) (r := l65_47) fun b k H o k' H' hv => by refine LoopOK.tab ?_ ?_ ?_ ?_ (l65_47_run b k H o k' H' hv) <;> rfl
  have h := h.addLoop (g := 65) (lid := 55) (r := l65_55) fun b k H o k' H' hv => by refine LoopOK.tab ?_ ?_ ?_ ?_ (l65_55_run b k H o k' H' hv) <;> rfl
  exact h
theorem l65_35_run : ∀ base kv H o kv' H', (l65_35 base kv H).val = some (o, kv', H') → LoopOK S3 65 35 base kv H o kv' H' := l65_35_ok S3_ok (by kernel_rfl) (by
  intro pl n q ws g l now before far m k r hv
  obtain ⟨hl, hv⟩ := guard_val hv
  simp only [Bool.and_eq_true, decide_eq_true_eq, l9] at hl
  obtain ⟨⟨⟨⟨⟨⟨h1, h9⟩, rfl⟩, hnow⟩, hbef⟩, hl9⟩, hall⟩ := hl
  obtain ⟨n, rfl⟩ := Int.eq_ofNat_of_zero_le (show 0 ≤ k by omega)
  rw [leaf_val hv]
  have := fold_of (T := S3) (fid := 65) (lid := 35) (base := 0) (c := lpc S3 65 35) (List.range n) (fun i (s : List Int) => s.length = 9) (fun (s : List Int) p => s.set p (Brn.gather before (l.getD p 0).toNat (s.getD p 0)))
    (fun p s => [lI pl, ps 0, ps 1, ps 2, ps 3, vi far, ps 4, vi m, vi n, vi p]) (fun s => [some (rH n ws 24), some (rG q g), some (rN l 107), some (rN s 108), some (rN before 108)])
    (fun s => (.ext 10, [lI pl, ps 0, ps 1, ps 2, ps 3, vi far, ps 4, vi m, vi n, vi n], [some (rH n ws 24), some (rG q g), some (rN l 107), some (rN s 108), some (rN before 108)]))
    (fun i x s hx hlt hI again => by
      obtain ⟨rfl, hi⟩ := range_get hx
      rw [nl65_35]
      have e4 : decide ((x : Int) < (9 : Int)) = true := decide_eq_true (by omega)
      have hm := List.all_eq_true.1 hall (l.getD x 0) (by
        rw [List.getD_eq_getElem?_getD, List.getElem?_eq_getElem (by omega)]; exact List.getElem_mem _)
      simp only [Bool.and_eq_true] at hm
      simp only [dec_lt hi, dec_ge, e4, cond_true, toNat_cast, get9 hl9 (show x < 9 by omega), oM, hm.1, hm.2, Bool.and_self, decide_eq_true hI, decide_eq_true hbef, l9]
      rw [wrap_succ (by omega)])
    (fun i x s hx hlt hI => by simpa using hI)
    (fun s hI again => by
      rw [nl65_35, List.length_range]
      simp only [dec_ll, cond_false]) now hnow
  simpa only [List.length_range, toNat_cast, Brn.stepN] using this)
theorem fill1_len (far p : Nat) (v : Int) (g : List Int) : (Brn.fill1 far p v g).length = g.length := by
  unfold Brn.fill1
  generalize List.range (9 - far) = l
  induction l generalizing g with
  | nil => rfl
  | cons x l ih => simp only [List.foldl_cons, ih, List.length_set]
theorem l65_44_run : ∀ base kv H o kv' H', (l65_44 base kv H).val = some (o, kv', H') → LoopOK S3 65 44 base kv H o kv' H' := l65_44_ok S3_ok (by kernel_rfl) (by
  intro pl n q ws g now far m r hv
  obtain ⟨hl, hv⟩ := guard_val hv
  simp only [Bool.and_eq_true, decide_eq_true_eq, l9] at hl
  obtain ⟨⟨⟨⟨⟨⟨h1, h9⟩, rfl⟩, hnow⟩, hf0⟩, hf⟩, hg⟩ := hl
  obtain ⟨n, rfl⟩ := Int.eq_ofNat_of_zero_le (show 0 ≤ m by omega)
  obtain ⟨far, rfl⟩ := Int.eq_ofNat_of_zero_le hf0
  rw [leaf_val hv]
  have := fold_of (T := S3) (fid := 65) (lid := 44) (base := 0) (c := lpc S3 65 44) (List.range n) (fun i (s : List Int) => s.length = 81) (fun (s : List Int) p => Brn.fill1 far p (now.getD p 0) s)
    (fun p s => [lI pl, ps 0, ps 1, ps 2, vi far, vi n, vi p]) (fun s => [some (rH n ws 24), some (rG q s), some (rN now 108)])
    (fun s => (.ext 14, [lI pl, ps 0, ps 1, ps 2, vi far, vi n, vi n], [some (rH n ws 24), some (rG q s), some (rN now 108)]))
    (fun i x s hx hlt hI again => by
      obtain ⟨rfl, hi⟩ := range_get hx
      rw [nl65_44]
      have e4 : decide ((x : Int) < (9 : Int)) = true := decide_eq_true (by omega)
      simp only [dec_lt hi, dec_ge, e4, cond_true, toNat_cast, decide_eq_true hnow, decide_eq_true hf, decide_eq_true hI, Bool.and_self, l9]
      rw [wrap_succ (by omega)])
    (fun i x s hx hlt hI => by rw [fill1_len]; exact hI)
    (fun s hI again => by
      rw [nl65_44, List.length_range]
      simp only [dec_ll, cond_false]) g hg
  simpa only [List.length_range, toNat_cast, Brn.fillN] using this)
theorem S4_ok : TabOK S4 := by
  have h := S3_ok
  have h := h.addLoop (g := 65) (lid := 35) (r := l65_35) fun b k H o k' H' hv => by refine LoopOK.tab ?_ ?_ ?_ ?_ (l65_35_run b k H o k' H' hv) <;> rfl
  have h := h.addLoop (g := 65) (lid := 44) (r := l65_44) fun b k H o k' H' hv => by refine LoopOK.tab ?_ ?_ ?_ ?_ (l65_44_run b k H o k' H' hv) <;> rfl
  exact h
end Go.Ev.Burn
namespace Go.Ev.Burn
open Go Go.Ev
set_option maxRecDepth 1000000
set_option linter.unusedVariables false
set_option linter.unusedSimpArgs false
theorem stepN_len (n : Nat) (next before now : List Int) : (Brn.stepN n next before now).length = now.length := by
  unfold Brn.stepN
  generalize List.range n = l
  induction l generalizing now with
  | nil => rfl
  | cons x l ih => simp only [List.foldl_cons, ih, List.length_set]
theorem putN_len (n far : Nat) (now g : List Int) : (Brn.putN n far now g).length = g.length := by
  unfold Brn.putN
  generalize List.range n = l
  induction l generalizing g with
  | nil => rfl
  | cons x l ih => simp only [List.foldl_cons, ih, List.length_set]
theorem l65_26_run : ∀ base kv H o kv' H', (l65_26 base kv H).val = some (o, kv', H') → LoopOK S4 65 26 base kv H o kv' H' := l65_26_ok S4_ok (by kernel_rfl) (by
  intro pl n q ws g l now r hv
  obtain ⟨hl, hv⟩ := guard_val hv
  simp only [Bool.and_eq_true, decide_eq_true_eq, l9] at hl
  obtain ⟨⟨⟨⟨⟨h1, h9⟩, hnow⟩, hl9⟩, hall⟩, hg⟩ := hl
  generalize hR : Brn.rounds n.toNat l 9 0 g now = R at hv
  obtain ⟨mm, hm⟩ := lpRun_of (T := S4) (fid := 65) (lid := 26) (base := 0) (c := lpc S4 65 26)
    (fun a : List Int × List Int × Nat => a.1.length = 81 ∧ a.2.1.length = 9 ∧ a.2.2 ≤ 9 ∧ Brn.rounds n.toNat l (9 - a.2.2) a.2.2 a.1 a.2.1 = R)
    (fun a => [lI pl, ps 0, ps 1, ps 2, ps 3, vi a.2.2]) (fun a => [some (rH n ws 24), some (rG q a.1), some (rN l 107), some (rN a.2.1 108)]) (fun _ => r) (fun a => 9 - a.2.2)
    (fun a ha again => by
      obtain ⟨g', now', far⟩ := a
      obtain ⟨q1, q2, q3, q4⟩ := ha
      dsimp only at q1 q2 q3 q4 ⊢
      by_cases hf : far < 9
      · have e1 : decide ((far : Int) < 9) = true := decide_eq_true (by omega)
        have s1 := stepN_len n.toNat l now' now'
        have s2 := putN_len n.toNat far now' g'
        have n1 : decide (1 ≤ n) = true := decide_eq_true h1
        have n2 : decide (n ≤ 9) = true := decide_eq_true h9
        rw [show 9 - far = (8 - far) + 1 by omega] at q4
        simp only [Brn.rounds] at q4
        rw [nl65_26]
        simp only [e1, n1, n2, decide_true, dec_ge, cond_true, decide_eq_true q2, decide_eq_true q1, Bool.and_self, toNat_cast, s1, s2, decide_eq_true hl9, hall]
        have key : ∀ X : Option (Out × List AV × Hp), (bif Brn.stepN n.toNat l now' now' == now' then some (.ext 6, [lI pl, ps 0, ps 1, .dead, ps 2, .dead], [some (rH n ws 24), some (rG q (Brn.fillN n.toNat far (Brn.stepN n.toNat l now' now') (Brn.putN n.toNat far now' g'))), some (rN (Brn.stepN n.toNat l now' now') 108)]) else again [lI pl, ps 0, ps 1, ps 2, ps 3, vi (IntKind.i64.wrap ((far : Int) + 1))] [some (rH n ws 24), some (rG q (Brn.putN n.toNat far now' g')), some (rN l 107), some (rN (Brn.stepN n.toNat l now' now') 108)]) = X → (X = some r ∨
            ∃ a' : List Int × List Int × Nat, (a'.1.length = 81 ∧ a'.2.1.length = 9 ∧ a'.2.2 ≤ 9 ∧ Brn.rounds n.toNat l (9 - a'.2.2) a'.2.2 a'.1 a'.2.1 = R) ∧ 9 - a'.2.2 < 9 - far ∧ r = r ∧ X = again [lI pl, ps 0, ps 1, ps 2, ps 3, vi a'.2.2] [some (rH n ws 24), some (rG q a'.1), some (rN l 107), some (rN a'.2.1 108)]) := by
          intro X hX
          cases hc : Brn.stepN n.toNat l now' now' == now' with
          | true =>
            rw [hc] at hX q4
            simp only [cond_true] at hX q4
            left
            rw [← q4] at hv
            rw [cond_t' (decide_eq_true hf)] at hv
            rw [leaf_val hv, ← hX]
          | false =>
            rw [hc] at hX q4
            simp only [cond_false] at hX q4
            right
            refine ⟨(Brn.putN n.toNat far now' g', Brn.stepN n.toNat l now' now', far + 1), ⟨by rw [s2]; exact q1, by rw [s1]; exact q2, by dsimp only; omega, ?_⟩, by dsimp only; omega, rfl, ?_⟩
            · dsimp only
              rw [show 9 - (far + 1) = 8 - far by omega]; exact q4
            · rw [← hX, wrap_succ (by omega)]
        refine Or.imp id (fun ⟨a', h1, h2, _, h4⟩ => ⟨a', h1, h2, by first | rfl | trivial, h4⟩) (key _ ?_)
        symm
        refine (cond_t ?_).trans ?_
        · simp [q2, ET.size]
        · cases Brn.stepN n.toNat l now' now' == now' <;> rfl
      · obtain rfl : far = 9 := by omega
        left
        rw [nl65_26]
        simp only [Nat.sub_self, Brn.rounds] at q4
        rw [← q4] at hv
        rw [leaf_val (show (Tree.leaf _).val = some r from hv)]
        rfl) (g, now, 0) ⟨hg, hnow, Nat.zero_le _, hR⟩
  exact ⟨mm, hm⟩)
theorem c76_run : ∀ args H v H', (c76 args H).val = some (v, H') → CallOK S2 76 args H v H' := c76_ok S2_ok (by
  intro n l r hv
  obtain ⟨hl, hv⟩ := guard_val hv
  simp only [Bool.and_eq_true, decide_eq_true_eq] at hl
  obtain ⟨n, rfl⟩ := Int.eq_ofNat_of_zero_le hl.1
  have h : 2 ^ n ≤ 2 ^ 9 := Nat.pow_le_pow_right (by decide) (by omega)
  have h' := Nat.two_pow_pos n
  have e := Brn.shlU_nat (b := n) (by omega)
  unfold Brn.shlU at e
  rw [leaf_val hv]
  rw [nf76]
  simp only [dec_ge, cond_true]
  rw [e]
  unfold Brn.allN
  rw [toNat_cast]
  generalize 2 ^ n = c at h h' ⊢
  rw [wrapu (by omega) (by omega), show ((c : Int) - 1) = ((c - 1 : Nat) : Int) by omega])
theorem S5_ok : TabOK S5 := by
  have h := S4_ok
  have h := h.addLoop (g := 65) (lid := 26) (r := l65_26) fun b k H o k' H' hv => by refine LoopOK.tab ?_ ?_ ?_ ?_ (l65_26_run b k H o k' H' hv) <;> rfl
  have h := h.addCall (g := 76) (r := c76) fun a H v H' hv => by refine CallOK.tab ?_ ?_ (c76_run a H v H' hv) <;> rfl
  exact h
end Go.Ev.Burn
