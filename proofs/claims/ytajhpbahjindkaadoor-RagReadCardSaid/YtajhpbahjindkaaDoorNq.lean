/- The law RagRead: tables and normal forms. -/
import Derived.Test.YtajhpbahjindkaaDoorNc
import Derived.Test.YtajhpbahjindkaaDoorRk
import Derived.Test.YtajhpbahjindkaaDoorRf
import Derived.Test.YtajhpbahjindkaaDoorNp
import Derived.Test.YtajhpbahjindkaaDoorRh
import Derived.Test.YtajhpbahjindkaaDoorRi
set_option linter.unusedVariables false
set_option linter.unusedSimpArgs false
namespace Rgg
open Go
def kX (x : Int) : Nat := bif decide (x > 250) then 9 else (x % 6).toNat
def rdW (n : Int) (s : ByteArray × Int × Int) (x : Int) : ByteArray × Int × Int := (s.1 ++ ⟨#[UInt8.ofNat (97 + kX x)]⟩, bif s.2.1 != 0 then s.2.1 else bif decide ((kX x : Int) ≥ n) then 2 else bif decide ((kX x : Int) ≤ s.2.2) then 7 else 0, bif s.2.1 != 0 then s.2.2 else (kX x : Int))
def rdY (n : Int) (l : List Int) : ByteArray × Int × Int := l.foldl (rdW n) (⟨#[]⟩, 0, -1)
def y8 (l : List Int) : Bool := l.all fun x => decide (0 ≤ x) && decide (x < 256)
end Rgg
namespace Go.Ev.Rag
open Go Go.Ev
set_option maxRecDepth 1000000
set_option maxHeartbeats 0
set_option linter.unusedVariables false
abbrev rY4 (l : List Int) : Row := ⟨[.run (.int .u8) l], true, 64, false, false, none⟩
abbrev osP (k : Nat) : AV := .os 0 0 0 k false false false
theorem nf50 (l : List ByteArray) : evBody T0 50 [lS l] [] = (some (.sl .str l false, [])) := by kernel_rfl
def c50t (l : List ByteArray) : Tree (AV × Hp) := .leaf (lS l, [])
def c50 (args : List AV) (H : Hp) : Tree (AV × Hp) := match args, H with
  | [(.sl .str l false)], [] => c50t l
  | _, _ => .fail
theorem c50_ok {T : Tab} (hT : TabOK T) (h : ∀ (l : List ByteArray) (r : AV × Hp), (c50t l).val = some r → evBody T 50 [lS l] [] = some r) : ∀ args H v H', (c50 args H).val = some (v, H') → CallOK T 50 args H v H' := by
  intro args H v H' hv
  unfold c50 at hv
  split at hv
  · exact evBody_sound hT (h _ _ hv)
  · cases hv
noncomputable def Rd1 : Tab := (((((T0).addCall 37 c37).addCall 24 c24).addCall 45 c45).addCall 50 c50).addCall 58 c58
noncomputable def Rd2 : Tab := Rd1.addCall 16 c16t
theorem nl14 (again : Ag) (n w d q i : Int) (bag : ByteArray) (b : Nat) (y : List Int) : lpStep Rd2 14 6 0 (lpc Rd2 14 6) again [vi n, vS bag, vi w, vi d, osP b, vi q, vi i] [some (rY4 y)] = (bif decide (i < q) then bif decide (0 ≤ i) then bif decide (i < (↑b : Int)) then oM y[i.toNat]? fun x => bif decide (x > 250) then bif room (bag.size + 1) 1 then bif w != 0 then again [vi n, .sc (.string (bag ++ { data := #[97, 98, 99, 100, 101, 102, 103, 104, 105, 106] : ByteArray }.extract 9 10)), vi w, vi d, .os 0 0 0 b false false false, vi q, vi (IntKind.i64.wrap (i + 1))] [some ⟨[.run (.int .u8) y], true, 64, false, false, none⟩] else bif decide (9 ≥ n) then again [vi n, .sc (.string (bag ++ { data := #[97, 98, 99, 100, 101, 102, 103, 104, 105, 106] : ByteArray }.extract 9 10)), vi 2, vi 9, .os 0 0 0 b false false false, vi q, vi (IntKind.i64.wrap (i + 1))] [some ⟨[.run (.int .u8) y], true, 64, false, false, none⟩] else bif decide (9 ≤ d) then again [vi n, .sc (.string (bag ++ { data := #[97, 98, 99, 100, 101, 102, 103, 104, 105, 106] : ByteArray }.extract 9 10)), vi 7, vi 9, .os 0 0 0 b false false false, vi q, vi (IntKind.i64.wrap (i + 1))] [some ⟨[.run (.int .u8) y], true, 64, false, false, none⟩] else again [vi n, .sc (.string (bag ++ { data := #[97, 98, 99, 100, 101, 102, 103, 104, 105, 106] : ByteArray }.extract 9 10)), vi w, vi 9, .os 0 0 0 b false false false, vi q, vi (IntKind.i64.wrap (i + 1))] [some ⟨[.run (.int .u8) y], true, 64, false, false, none⟩] else none else bif decide (0 ≤ (IntKind.i64.wrap x).tmod 6) then bif decide ((IntKind.i64.wrap x).tmod 6 ≤ IntKind.i64.wrap ((IntKind.i64.wrap x).tmod 6 + 1)) then bif decide (IntKind.i64.wrap ((IntKind.i64.wrap x).tmod 6 + 1) ≤ (↑10 : Int)) then bif room (bag.size + ({ data := #[97, 98, 99, 100, 101, 102, 103, 104, 105, 106] : ByteArray }.extract ((some ((IntKind.i64.wrap x).tmod 6).toNat).getD 0) ((some (IntKind.i64.wrap ((IntKind.i64.wrap x).tmod 6 + 1)).toNat).getD 10)).size) 1 then bif w != 0 then again [vi n, .sc (.string (bag ++ { data := #[97, 98, 99, 100, 101, 102, 103, 104, 105, 106] : ByteArray }.extract ((some ((IntKind.i64.wrap x).tmod 6).toNat).getD 0) ((some (IntKind.i64.wrap ((IntKind.i64.wrap x).tmod 6 + 1)).toNat).getD 10))), vi w, vi d, .os 0 0 0 b false false false, vi q, vi (IntKind.i64.wrap (i + 1))] [some ⟨[.run (.int .u8) y], true, 64, false, false, none⟩] else bif decide ((IntKind.i64.wrap x).tmod 6 ≥ n) then again [vi n, .sc (.string (bag ++ { data := #[97, 98, 99, 100, 101, 102, 103, 104, 105, 106] : ByteArray }.extract ((some ((IntKind.i64.wrap x).tmod 6).toNat).getD 0) ((some (IntKind.i64.wrap ((IntKind.i64.wrap x).tmod 6 + 1)).toNat).getD 10))), vi 2, vi ((IntKind.i64.wrap x).tmod 6), .os 0 0 0 b false false false, vi q, vi (IntKind.i64.wrap (i + 1))] [some ⟨[.run (.int .u8) y], true, 64, false, false, none⟩] else bif decide ((IntKind.i64.wrap x).tmod 6 ≤ d) then again [vi n, .sc (.string (bag ++ { data := #[97, 98, 99, 100, 101, 102, 103, 104, 105, 106] : ByteArray }.extract ((some ((IntKind.i64.wrap x).tmod 6).toNat).getD 0) ((some (IntKind.i64.wrap ((IntKind.i64.wrap x).tmod 6 + 1)).toNat).getD 10))), vi 7, vi ((IntKind.i64.wrap x).tmod 6), .os 0 0 0 b false false false, vi q, vi (IntKind.i64.wrap (i + 1))] [some ⟨[.run (.int .u8) y], true, 64, false, false, none⟩] else again [vi n, .sc (.string (bag ++ { data := #[97, 98, 99, 100, 101, 102, 103, 104, 105, 106] : ByteArray }.extract ((some ((IntKind.i64.wrap x).tmod 6).toNat).getD 0) ((some (IntKind.i64.wrap ((IntKind.i64.wrap x).tmod 6 + 1)).toNat).getD 10))), vi w, vi ((IntKind.i64.wrap x).tmod 6), .os 0 0 0 b false false false, vi q, vi (IntKind.i64.wrap (i + 1))] [some ⟨[.run (.int .u8) y], true, 64, false, false, none⟩] else none else none else none else none else none else none else some (.ext 0, [vi n, .sc (.string bag), vi w, vi d, .os 0 0 0 b false false false, vi q, vi i], [some ⟨[.run (.int .u8) y], true, 64, false, false, none⟩])) := by kernel_rfl
def l14_6t (n w d q : Int) (bag : ByteArray) (b : Nat) (y : List Int) : Tree (Out × List AV × Hp) := .br (decide (1 ≤ n) && decide (n ≤ 5) && decide (bag.size = 0) && decide (w = 0) && decide (d = -1) && decide (q = (b : Int)) && decide (b ≤ 4) && decide (y.length = 4) && Rgg.y8 y) (.leaf (.ext 0, [vi n, vS (Rgg.rdY n (y.take b)).1, vi (Rgg.rdY n (y.take b)).2.1, vi (Rgg.rdY n (y.take b)).2.2, osP b, vi b, vi b], [some (rY4 y)])) .fail
def l14_6 (base : Nat) (kv : List AV) (H : Hp) : Tree (Out × List AV × Hp) := match Nat.beq base 0, kv, H with
  | true, [(.sc (.int .i64 n)), (.sc (.string bag)), (.sc (.int .i64 w)), (.sc (.int .i64 d)), (.os 0 0 0 b false false false), (.sc (.int .i64 q)), (.sc (.int .i64 0))], [some ⟨[.run (.int .u8) y], true, 64, false, false, none⟩] => l14_6t n w d q bag b y
  | _, _, _ => .fail
theorem l14_6_ok {T : Tab} (hT : TabOK T) (hlo : loopOf T.fn 14 6 = some (lpc T 14 6)) (h : ∀ (n w d q : Int) (bag : ByteArray) (b : Nat) (y : List Int) (r : Out × List AV × Hp), (l14_6t n w d q bag b y).val = some r → ∃ mm, lpRun T 14 6 0 (lpc T 14 6) mm [vi n, vS bag, vi w, vi d, osP b, vi q, vi 0] [some (rY4 y)] = some r) : ∀ base kv H o kv' H', (l14_6 base kv H).val = some (o, kv', H') → LoopOK T 14 6 base kv H o kv' H' := by
  intro base kv H o kv' H' hv
  unfold l14_6 at hv
  split at hv
  · rename_i hb
    obtain rfl := Nat.eq_of_beq_eq_true hb
    exact loop_ok hT hlo (h _ _ _ _ _ _ _ _ hv)
  · cases hv
noncomputable def Rd3 : Tab := (Rd2).addLoop 14 6 l14_6
theorem nf14 (k m : Int) (y : List Int) : evBody Rd3 14 [.sc (.int .u8 k), .agg [.run (.int .u8) y] false, .sc (.int .u8 m)] [] = (bif decide (List.map (fun (x : AV) => match x with | .run e l => l.length * e.size | _ => 1) [.run (.int .u8) y] = List.map (fun (x : AV) => match x with | .run e l => l.length * e.size | _ => 1) ((some [.run (.int .u8) (List.replicate 4 0)]).getD [])) then bif decide (0 ≤ (IntKind.i64.wrap m).tmod 5) then bif decide ((IntKind.i64.wrap m).tmod 5 ≤ (↑4 : Int)) then bif decide (4 ≤ y.length) then bif decide (1 ≤ IntKind.i64.wrap (1 + (IntKind.i64.wrap k).tmod 5)) && decide (IntKind.i64.wrap (1 + (IntKind.i64.wrap k).tmod 5) ≤ 5) && decide (0 = 0) && decide (0 = 0) && decide (-1 = -1) && decide ((↑((IntKind.i64.wrap m).tmod 5).toNat : Int) = (↑((IntKind.i64.wrap m).tmod 5).toNat : Int)) && decide (((IntKind.i64.wrap m).tmod 5).toNat ≤ 4) && decide (y.length = 4) && Rgg.y8 y then bif (Rgg.rdY (IntKind.i64.wrap (1 + (IntKind.i64.wrap k).tmod 5)) (List.take ((IntKind.i64.wrap m).tmod 5).toNat y)).snd.fst == 0 then bif (Rgg.rdY (IntKind.i64.wrap (1 + (IntKind.i64.wrap k).tmod 5)) (List.take ((IntKind.i64.wrap m).tmod 5).toNat y)).snd.fst == 0 then bif Rgg.pvE (IntKind.i64.wrap (1 + (IntKind.i64.wrap k).tmod 5)) [] { data := #[] : ByteArray } (Rgg.rdY (IntKind.i64.wrap (1 + (IntKind.i64.wrap k).tmod 5)) (List.take ((IntKind.i64.wrap m).tmod 5).toNat y)).fst == 14 then bif !(Rgg.rdY (IntKind.i64.wrap (1 + (IntKind.i64.wrap k).tmod 5)) (List.take ((IntKind.i64.wrap m).tmod 5).toNat y)).fst == { data := #[] : ByteArray } then bif Rgg.opE (IntKind.i64.wrap (1 + (IntKind.i64.wrap k).tmod 5)) [(Rgg.rdY (IntKind.i64.wrap (1 + (IntKind.i64.wrap k).tmod 5)) (List.take ((IntKind.i64.wrap m).tmod 5).toNat y)).fst] == (Rgg.rdY (IntKind.i64.wrap (1 + (IntKind.i64.wrap k).tmod 5)) (List.take ((IntKind.i64.wrap m).tmod 5).toNat y)).snd.fst then bif Rgg.opE (IntKind.i64.wrap (1 + (IntKind.i64.wrap k).tmod 5)) [(Rgg.rdY (IntKind.i64.wrap (1 + (IntKind.i64.wrap k).tmod 5)) (List.take ((IntKind.i64.wrap m).tmod 5).toNat y)).fst, (Rgg.rdY (IntKind.i64.wrap (1 + (IntKind.i64.wrap k).tmod 5)) (List.take ((IntKind.i64.wrap m).tmod 5).toNat y)).fst] == 6 then bif Rgg.meE (IntKind.i64.wrap (1 + (IntKind.i64.wrap k).tmod 5)) [] (Rgg.rdY (IntKind.i64.wrap (1 + (IntKind.i64.wrap k).tmod 5)) (List.take ((IntKind.i64.wrap m).tmod 5).toNat y)).fst == (Rgg.rdY (IntKind.i64.wrap (1 + (IntKind.i64.wrap k).tmod 5)) (List.take ((IntKind.i64.wrap m).tmod 5).toNat y)).snd.fst then bif 0 == (Rgg.rdY (IntKind.i64.wrap (1 + (IntKind.i64.wrap k).tmod 5)) (List.take ((IntKind.i64.wrap m).tmod 5).toNat y)).snd.fst then bif Rgg.opE (IntKind.i64.wrap (1 + (IntKind.i64.wrap k).tmod 5)) [{ data := #[65] : ByteArray }, (Rgg.rdY (IntKind.i64.wrap (1 + (IntKind.i64.wrap k).tmod 5)) (List.take ((IntKind.i64.wrap m).tmod 5).toNat y)).fst] == 2 then some (vb true, []) else some (vb false, []) else some (vb false, []) else some (vb false, []) else some (vb false, []) else some (vb false, []) else bif Rgg.opE (IntKind.i64.wrap (1 + (IntKind.i64.wrap k).tmod 5)) [(Rgg.rdY (IntKind.i64.wrap (1 + (IntKind.i64.wrap k).tmod 5)) (List.take ((IntKind.i64.wrap m).tmod 5).toNat y)).fst] == (Rgg.rdY (IntKind.i64.wrap (1 + (IntKind.i64.wrap k).tmod 5)) (List.take ((IntKind.i64.wrap m).tmod 5).toNat y)).snd.fst then bif Rgg.opE (IntKind.i64.wrap (1 + (IntKind.i64.wrap k).tmod 5)) [(Rgg.rdY (IntKind.i64.wrap (1 + (IntKind.i64.wrap k).tmod 5)) (List.take ((IntKind.i64.wrap m).tmod 5).toNat y)).fst, (Rgg.rdY (IntKind.i64.wrap (1 + (IntKind.i64.wrap k).tmod 5)) (List.take ((IntKind.i64.wrap m).tmod 5).toNat y)).fst] == 6 then bif Rgg.meE (IntKind.i64.wrap (1 + (IntKind.i64.wrap k).tmod 5)) [] (Rgg.rdY (IntKind.i64.wrap (1 + (IntKind.i64.wrap k).tmod 5)) (List.take ((IntKind.i64.wrap m).tmod 5).toNat y)).fst == (Rgg.rdY (IntKind.i64.wrap (1 + (IntKind.i64.wrap k).tmod 5)) (List.take ((IntKind.i64.wrap m).tmod 5).toNat y)).snd.fst then bif Rgg.pvE (IntKind.i64.wrap (1 + (IntKind.i64.wrap k).tmod 5)) [] { data := #[] : ByteArray } (Rgg.rdY (IntKind.i64.wrap (1 + (IntKind.i64.wrap k).tmod 5)) (List.take ((IntKind.i64.wrap m).tmod 5).toNat y)).fst == (Rgg.rdY (IntKind.i64.wrap (1 + (IntKind.i64.wrap k).tmod 5)) (List.take ((IntKind.i64.wrap m).tmod 5).toNat y)).snd.fst then bif Rgg.opE (IntKind.i64.wrap (1 + (IntKind.i64.wrap k).tmod 5)) [{ data := #[65] : ByteArray }, (Rgg.rdY (IntKind.i64.wrap (1 + (IntKind.i64.wrap k).tmod 5)) (List.take ((IntKind.i64.wrap m).tmod 5).toNat y)).fst] == 2 then some (vb true, []) else some (vb false, []) else some (vb false, []) else some (vb false, []) else some (vb false, []) else some (vb false, []) else bif Rgg.opE (IntKind.i64.wrap (1 + (IntKind.i64.wrap k).tmod 5)) [(Rgg.rdY (IntKind.i64.wrap (1 + (IntKind.i64.wrap k).tmod 5)) (List.take ((IntKind.i64.wrap m).tmod 5).toNat y)).fst] == (Rgg.rdY (IntKind.i64.wrap (1 + (IntKind.i64.wrap k).tmod 5)) (List.take ((IntKind.i64.wrap m).tmod 5).toNat y)).snd.fst then bif Rgg.opE (IntKind.i64.wrap (1 + (IntKind.i64.wrap k).tmod 5)) [(Rgg.rdY (IntKind.i64.wrap (1 + (IntKind.i64.wrap k).tmod 5)) (List.take ((IntKind.i64.wrap m).tmod 5).toNat y)).fst, (Rgg.rdY (IntKind.i64.wrap (1 + (IntKind.i64.wrap k).tmod 5)) (List.take ((IntKind.i64.wrap m).tmod 5).toNat y)).fst] == 6 then bif Rgg.meE (IntKind.i64.wrap (1 + (IntKind.i64.wrap k).tmod 5)) [] (Rgg.rdY (IntKind.i64.wrap (1 + (IntKind.i64.wrap k).tmod 5)) (List.take ((IntKind.i64.wrap m).tmod 5).toNat y)).fst == (Rgg.rdY (IntKind.i64.wrap (1 + (IntKind.i64.wrap k).tmod 5)) (List.take ((IntKind.i64.wrap m).tmod 5).toNat y)).snd.fst then bif Rgg.pvE (IntKind.i64.wrap (1 + (IntKind.i64.wrap k).tmod 5)) [] { data := #[] : ByteArray } (Rgg.rdY (IntKind.i64.wrap (1 + (IntKind.i64.wrap k).tmod 5)) (List.take ((IntKind.i64.wrap m).tmod 5).toNat y)).fst == (Rgg.rdY (IntKind.i64.wrap (1 + (IntKind.i64.wrap k).tmod 5)) (List.take ((IntKind.i64.wrap m).tmod 5).toNat y)).snd.fst then bif Rgg.opE (IntKind.i64.wrap (1 + (IntKind.i64.wrap k).tmod 5)) [{ data := #[65] : ByteArray }, (Rgg.rdY (IntKind.i64.wrap (1 + (IntKind.i64.wrap k).tmod 5)) (List.take ((IntKind.i64.wrap m).tmod 5).toNat y)).fst] == 2 then some (vb true, []) else some (vb false, []) else some (vb false, []) else some (vb false, []) else some (vb false, []) else some (vb false, []) else bif Rgg.opE (IntKind.i64.wrap (1 + (IntKind.i64.wrap k).tmod 5)) [(Rgg.rdY (IntKind.i64.wrap (1 + (IntKind.i64.wrap k).tmod 5)) (List.take ((IntKind.i64.wrap m).tmod 5).toNat y)).fst] == (Rgg.rdY (IntKind.i64.wrap (1 + (IntKind.i64.wrap k).tmod 5)) (List.take ((IntKind.i64.wrap m).tmod 5).toNat y)).snd.fst then bif Rgg.opE (IntKind.i64.wrap (1 + (IntKind.i64.wrap k).tmod 5)) [(Rgg.rdY (IntKind.i64.wrap (1 + (IntKind.i64.wrap k).tmod 5)) (List.take ((IntKind.i64.wrap m).tmod 5).toNat y)).fst, (Rgg.rdY (IntKind.i64.wrap (1 + (IntKind.i64.wrap k).tmod 5)) (List.take ((IntKind.i64.wrap m).tmod 5).toNat y)).fst] == 6 then bif Rgg.meE (IntKind.i64.wrap (1 + (IntKind.i64.wrap k).tmod 5)) [] (Rgg.rdY (IntKind.i64.wrap (1 + (IntKind.i64.wrap k).tmod 5)) (List.take ((IntKind.i64.wrap m).tmod 5).toNat y)).fst == (Rgg.rdY (IntKind.i64.wrap (1 + (IntKind.i64.wrap k).tmod 5)) (List.take ((IntKind.i64.wrap m).tmod 5).toNat y)).snd.fst then bif Rgg.pvE (IntKind.i64.wrap (1 + (IntKind.i64.wrap k).tmod 5)) [] { data := #[] : ByteArray } (Rgg.rdY (IntKind.i64.wrap (1 + (IntKind.i64.wrap k).tmod 5)) (List.take ((IntKind.i64.wrap m).tmod 5).toNat y)).fst == (Rgg.rdY (IntKind.i64.wrap (1 + (IntKind.i64.wrap k).tmod 5)) (List.take ((IntKind.i64.wrap m).tmod 5).toNat y)).snd.fst then bif Rgg.opE (IntKind.i64.wrap (1 + (IntKind.i64.wrap k).tmod 5)) [{ data := #[65] : ByteArray }, (Rgg.rdY (IntKind.i64.wrap (1 + (IntKind.i64.wrap k).tmod 5)) (List.take ((IntKind.i64.wrap m).tmod 5).toNat y)).fst] == 2 then some (vb true, []) else some (vb false, []) else some (vb false, []) else some (vb false, []) else some (vb false, []) else some (vb false, []) else bif (Rgg.rdY (IntKind.i64.wrap (1 + (IntKind.i64.wrap k).tmod 5)) (List.take ((IntKind.i64.wrap m).tmod 5).toNat y)).snd.fst == 0 then bif Rgg.pvE (IntKind.i64.wrap (1 + (IntKind.i64.wrap k).tmod 5)) [] { data := #[] : ByteArray } (Rgg.rdY (IntKind.i64.wrap (1 + (IntKind.i64.wrap k).tmod 5)) (List.take ((IntKind.i64.wrap m).tmod 5).toNat y)).fst == 14 then bif !(Rgg.rdY (IntKind.i64.wrap (1 + (IntKind.i64.wrap k).tmod 5)) (List.take ((IntKind.i64.wrap m).tmod 5).toNat y)).fst == { data := #[] : ByteArray } then bif Rgg.opE (IntKind.i64.wrap (1 + (IntKind.i64.wrap k).tmod 5)) [(Rgg.rdY (IntKind.i64.wrap (1 + (IntKind.i64.wrap k).tmod 5)) (List.take ((IntKind.i64.wrap m).tmod 5).toNat y)).fst] == (Rgg.rdY (IntKind.i64.wrap (1 + (IntKind.i64.wrap k).tmod 5)) (List.take ((IntKind.i64.wrap m).tmod 5).toNat y)).snd.fst then bif Rgg.opE (IntKind.i64.wrap (1 + (IntKind.i64.wrap k).tmod 5)) [(Rgg.rdY (IntKind.i64.wrap (1 + (IntKind.i64.wrap k).tmod 5)) (List.take ((IntKind.i64.wrap m).tmod 5).toNat y)).fst, (Rgg.rdY (IntKind.i64.wrap (1 + (IntKind.i64.wrap k).tmod 5)) (List.take ((IntKind.i64.wrap m).tmod 5).toNat y)).fst] == (Rgg.rdY (IntKind.i64.wrap (1 + (IntKind.i64.wrap k).tmod 5)) (List.take ((IntKind.i64.wrap m).tmod 5).toNat y)).snd.fst then bif Rgg.meE (IntKind.i64.wrap (1 + (IntKind.i64.wrap k).tmod 5)) [] (Rgg.rdY (IntKind.i64.wrap (1 + (IntKind.i64.wrap k).tmod 5)) (List.take ((IntKind.i64.wrap m).tmod 5).toNat y)).fst == (Rgg.rdY (IntKind.i64.wrap (1 + (IntKind.i64.wrap k).tmod 5)) (List.take ((IntKind.i64.wrap m).tmod 5).toNat y)).snd.fst then bif 0 == (Rgg.rdY (IntKind.i64.wrap (1 + (IntKind.i64.wrap k).tmod 5)) (List.take ((IntKind.i64.wrap m).tmod 5).toNat y)).snd.fst then bif Rgg.opE (IntKind.i64.wrap (1 + (IntKind.i64.wrap k).tmod 5)) [{ data := #[65] : ByteArray }, (Rgg.rdY (IntKind.i64.wrap (1 + (IntKind.i64.wrap k).tmod 5)) (List.take ((IntKind.i64.wrap m).tmod 5).toNat y)).fst] == 2 then some (vb true, []) else some (vb false, []) else some (vb false, []) else some (vb false, []) else some (vb false, []) else some (vb false, []) else bif Rgg.opE (IntKind.i64.wrap (1 + (IntKind.i64.wrap k).tmod 5)) [(Rgg.rdY (IntKind.i64.wrap (1 + (IntKind.i64.wrap k).tmod 5)) (List.take ((IntKind.i64.wrap m).tmod 5).toNat y)).fst] == (Rgg.rdY (IntKind.i64.wrap (1 + (IntKind.i64.wrap k).tmod 5)) (List.take ((IntKind.i64.wrap m).tmod 5).toNat y)).snd.fst then bif Rgg.opE (IntKind.i64.wrap (1 + (IntKind.i64.wrap k).tmod 5)) [(Rgg.rdY (IntKind.i64.wrap (1 + (IntKind.i64.wrap k).tmod 5)) (List.take ((IntKind.i64.wrap m).tmod 5).toNat y)).fst, (Rgg.rdY (IntKind.i64.wrap (1 + (IntKind.i64.wrap k).tmod 5)) (List.take ((IntKind.i64.wrap m).tmod 5).toNat y)).fst] == (Rgg.rdY (IntKind.i64.wrap (1 + (IntKind.i64.wrap k).tmod 5)) (List.take ((IntKind.i64.wrap m).tmod 5).toNat y)).snd.fst then bif Rgg.meE (IntKind.i64.wrap (1 + (IntKind.i64.wrap k).tmod 5)) [] (Rgg.rdY (IntKind.i64.wrap (1 + (IntKind.i64.wrap k).tmod 5)) (List.take ((IntKind.i64.wrap m).tmod 5).toNat y)).fst == (Rgg.rdY (IntKind.i64.wrap (1 + (IntKind.i64.wrap k).tmod 5)) (List.take ((IntKind.i64.wrap m).tmod 5).toNat y)).snd.fst then bif Rgg.pvE (IntKind.i64.wrap (1 + (IntKind.i64.wrap k).tmod 5)) [] { data := #[] : ByteArray } (Rgg.rdY (IntKind.i64.wrap (1 + (IntKind.i64.wrap k).tmod 5)) (List.take ((IntKind.i64.wrap m).tmod 5).toNat y)).fst == (Rgg.rdY (IntKind.i64.wrap (1 + (IntKind.i64.wrap k).tmod 5)) (List.take ((IntKind.i64.wrap m).tmod 5).toNat y)).snd.fst then bif Rgg.opE (IntKind.i64.wrap (1 + (IntKind.i64.wrap k).tmod 5)) [{ data := #[65] : ByteArray }, (Rgg.rdY (IntKind.i64.wrap (1 + (IntKind.i64.wrap k).tmod 5)) (List.take ((IntKind.i64.wrap m).tmod 5).toNat y)).fst] == 2 then some (vb true, []) else some (vb false, []) else some (vb false, []) else some (vb false, []) else some (vb false, []) else some (vb false, []) else bif Rgg.opE (IntKind.i64.wrap (1 + (IntKind.i64.wrap k).tmod 5)) [(Rgg.rdY (IntKind.i64.wrap (1 + (IntKind.i64.wrap k).tmod 5)) (List.take ((IntKind.i64.wrap m).tmod 5).toNat y)).fst] == (Rgg.rdY (IntKind.i64.wrap (1 + (IntKind.i64.wrap k).tmod 5)) (List.take ((IntKind.i64.wrap m).tmod 5).toNat y)).snd.fst then bif Rgg.opE (IntKind.i64.wrap (1 + (IntKind.i64.wrap k).tmod 5)) [(Rgg.rdY (IntKind.i64.wrap (1 + (IntKind.i64.wrap k).tmod 5)) (List.take ((IntKind.i64.wrap m).tmod 5).toNat y)).fst, (Rgg.rdY (IntKind.i64.wrap (1 + (IntKind.i64.wrap k).tmod 5)) (List.take ((IntKind.i64.wrap m).tmod 5).toNat y)).fst] == (Rgg.rdY (IntKind.i64.wrap (1 + (IntKind.i64.wrap k).tmod 5)) (List.take ((IntKind.i64.wrap m).tmod 5).toNat y)).snd.fst then bif Rgg.meE (IntKind.i64.wrap (1 + (IntKind.i64.wrap k).tmod 5)) [] (Rgg.rdY (IntKind.i64.wrap (1 + (IntKind.i64.wrap k).tmod 5)) (List.take ((IntKind.i64.wrap m).tmod 5).toNat y)).fst == (Rgg.rdY (IntKind.i64.wrap (1 + (IntKind.i64.wrap k).tmod 5)) (List.take ((IntKind.i64.wrap m).tmod 5).toNat y)).snd.fst then bif Rgg.pvE (IntKind.i64.wrap (1 + (IntKind.i64.wrap k).tmod 5)) [] { data := #[] : ByteArray } (Rgg.rdY (IntKind.i64.wrap (1 + (IntKind.i64.wrap k).tmod 5)) (List.take ((IntKind.i64.wrap m).tmod 5).toNat y)).fst == (Rgg.rdY (IntKind.i64.wrap (1 + (IntKind.i64.wrap k).tmod 5)) (List.take ((IntKind.i64.wrap m).tmod 5).toNat y)).snd.fst then bif Rgg.opE (IntKind.i64.wrap (1 + (IntKind.i64.wrap k).tmod 5)) [{ data := #[65] : ByteArray }, (Rgg.rdY (IntKind.i64.wrap (1 + (IntKind.i64.wrap k).tmod 5)) (List.take ((IntKind.i64.wrap m).tmod 5).toNat y)).fst] == 2 then some (vb true, []) else some (vb false, []) else some (vb false, []) else some (vb false, []) else some (vb false, []) else some (vb false, []) else bif Rgg.opE (IntKind.i64.wrap (1 + (IntKind.i64.wrap k).tmod 5)) [(Rgg.rdY (IntKind.i64.wrap (1 + (IntKind.i64.wrap k).tmod 5)) (List.take ((IntKind.i64.wrap m).tmod 5).toNat y)).fst] == (Rgg.rdY (IntKind.i64.wrap (1 + (IntKind.i64.wrap k).tmod 5)) (List.take ((IntKind.i64.wrap m).tmod 5).toNat y)).snd.fst then bif Rgg.opE (IntKind.i64.wrap (1 + (IntKind.i64.wrap k).tmod 5)) [(Rgg.rdY (IntKind.i64.wrap (1 + (IntKind.i64.wrap k).tmod 5)) (List.take ((IntKind.i64.wrap m).tmod 5).toNat y)).fst, (Rgg.rdY (IntKind.i64.wrap (1 + (IntKind.i64.wrap k).tmod 5)) (List.take ((IntKind.i64.wrap m).tmod 5).toNat y)).fst] == (Rgg.rdY (IntKind.i64.wrap (1 + (IntKind.i64.wrap k).tmod 5)) (List.take ((IntKind.i64.wrap m).tmod 5).toNat y)).snd.fst then bif Rgg.meE (IntKind.i64.wrap (1 + (IntKind.i64.wrap k).tmod 5)) [] (Rgg.rdY (IntKind.i64.wrap (1 + (IntKind.i64.wrap k).tmod 5)) (List.take ((IntKind.i64.wrap m).tmod 5).toNat y)).fst == (Rgg.rdY (IntKind.i64.wrap (1 + (IntKind.i64.wrap k).tmod 5)) (List.take ((IntKind.i64.wrap m).tmod 5).toNat y)).snd.fst then bif Rgg.pvE (IntKind.i64.wrap (1 + (IntKind.i64.wrap k).tmod 5)) [] { data := #[] : ByteArray } (Rgg.rdY (IntKind.i64.wrap (1 + (IntKind.i64.wrap k).tmod 5)) (List.take ((IntKind.i64.wrap m).tmod 5).toNat y)).fst == (Rgg.rdY (IntKind.i64.wrap (1 + (IntKind.i64.wrap k).tmod 5)) (List.take ((IntKind.i64.wrap m).tmod 5).toNat y)).snd.fst then bif Rgg.opE (IntKind.i64.wrap (1 + (IntKind.i64.wrap k).tmod 5)) [{ data := #[65] : ByteArray }, (Rgg.rdY (IntKind.i64.wrap (1 + (IntKind.i64.wrap k).tmod 5)) (List.take ((IntKind.i64.wrap m).tmod 5).toNat y)).fst] == 2 then some (vb true, []) else some (vb false, []) else some (vb false, []) else some (vb false, []) else some (vb false, []) else some (vb false, []) else none else none else none else none else none) := by kernel_rfl
end Go.Ev.Rag
namespace Rgg
open Go
theorem k_lt (x : Int) : kX x < 10 := by
  unfold kX
  cases decide (x > 250)
  · show (x % 6).toNat < 10
    omega
  · show (9 : Nat) < 10
    decide
def ltL (l : List Int) : List UInt8 := l.map fun x => UInt8.ofNat (97 + kX x)
theorem rdS_cons (n : Int) (c : UInt8) (l : List UInt8) (last : Int) (out : Nat) : rdS n (c :: l) last out = bif decide ((c.toNat : Int) - 97 < 0) || decide (n ≤ (c.toNat : Int) - 97) then .inl 2 else bif decide ((c.toNat : Int) - 97 ≤ last) then .inl 7 else rdS n l ((c.toNat : Int) - 97) (out ||| 2 ^ (c.toNat - 97)) := rfl
theorem let_num : ∀ k, k < 10 → (UInt8.ofNat (97 + k)).toNat = 97 + k := by decide
theorem rdY_bag (n : Int) : ∀ (l : List Int) (s : ByteArray × Int × Int), (l.foldl (rdW n) s).1 = s.1 ++ ⟨(ltL l).toArray⟩
  | [], s => by
    apply ByteArray.ext
    show s.1.data = _
    rw [ByteArray.data_append]
    exact (Array.append_empty ..).symm
  | x :: l, s => by
    rw [List.foldl_cons, rdY_bag n l]
    apply ByteArray.ext
    show ((s.1 ++ ⟨#[UInt8.ofNat (97 + kX x)]⟩ : ByteArray) ++ ⟨(ltL l).toArray⟩ : ByteArray).data = (s.1 ++ ⟨(ltL (x :: l)).toArray⟩ : ByteArray).data
    rw [ByteArray.data_append, ByteArray.data_append, ByteArray.data_append, Array.append_assoc]
    congr 1
    show #[UInt8.ofNat (97 + kX x)] ++ (ltL l).toArray = (ltL (x :: l)).toArray
    simp [ltL]
theorem rdY_stop (n : Int) : ∀ (l : List Int) (s : ByteArray × Int × Int), s.2.1 ≠ 0 → (l.foldl (rdW n) s).2.1 = s.2.1
  | [], _, _ => rfl
  | x :: l, s, h => by
    have hb : (s.2.1 != 0) = true := by rw [bne_iff_ne]; exact h
    have e : (rdW n s x).2.1 = s.2.1 := by unfold rdW; rw [hb]; rfl
    rw [List.foldl_cons, rdY_stop n l _ (by rw [e]; exact h), e]
theorem rdY_want (n : Int) : ∀ (l : List Int), (∀ x ∈ l, 0 ≤ x) → ∀ (s : ByteArray × Int × Int) (out : Nat), s.2.1 = 0 → (l.foldl (rdW n) s).2.1 = rdE (rdS n (ltL l) s.2.2 out)
  | [], _, s, out, h => h
  | x :: l, hx, s, out, h => by
    have hk := k_lt x
    have hl := let_num (kX x) hk
    show (l.foldl (rdW n) (rdW n s x)).2.1 = rdE (rdS n (UInt8.ofNat (97 + kX x) :: ltL l) s.2.2 out)
    rw [rdS_cons, hl, show (((97 + kX x : Nat) : Int)) - 97 = (kX x : Int) by omega, decide_eq_false (show ¬ (kX x : Int) < 0 by omega), Bool.false_or]
    have hb : (s.2.1 != 0) = false := by rw [h]; rfl
    by_cases h1 : n ≤ (kX x : Int)
    · have e : (rdW n s x).2.1 = 2 := by unfold rdW; rw [hb, decide_eq_true (show (kX x : Int) ≥ n from h1)]; rfl
      rw [rdY_stop n l _ (by rw [e]; decide), e, decide_eq_true h1]; rfl
    · rw [decide_eq_false h1, cond_false]
      by_cases h2 : (kX x : Int) ≤ s.2.2
      · have e : (rdW n s x).2.1 = 7 := by unfold rdW; rw [hb, decide_eq_false (show ¬ (kX x : Int) ≥ n from h1), decide_eq_true h2]; rfl
        rw [rdY_stop n l _ (by rw [e]; decide), e, decide_eq_true h2]; rfl
      · have e : (rdW n s x).2.1 = 0 := by unfold rdW; rw [hb, decide_eq_false (show ¬ (kX x : Int) ≥ n from h1), decide_eq_false h2]; rfl
        have e2 : (rdW n s x).2.2 = (kX x : Int) := by unfold rdW; rw [hb]; rfl
        rw [decide_eq_false h2, cond_false, rdY_want n l (fun y hy => hx y (List.mem_cons_of_mem _ hy)) (rdW n s x) (out ||| 2 ^ (97 + kX x - 97)) e, e2]
theorem rdY_rd (n : Int) {l : List Int} (h : ∀ x ∈ l, 0 ≤ x) : rdE (rd n (rdY n l).1) = (rdY n l).2.1 := by
  have hb : bts (rdY n l).1 = ltL l := by
    unfold rdY
    rw [rdY_bag]
    show (((⟨#[]⟩ : ByteArray) ++ ⟨(ltL l).toArray⟩ : ByteArray).data).toList = _
    rw [ByteArray.data_append]
    simp
  unfold rd
  rw [hb]
  exact (rdY_want n l h (⟨#[]⟩, 0, -1) 0 rfl).symm
theorem rep_at (n : Nat) : at_ (List.replicate 32 false) n = false := by
  unfold at_
  rw [List.getD_eq_getElem?_getD, List.getElem?_replicate]
  by_cases h : n < 32
  · rw [if_pos h]; rfl
  · rw [if_neg h]; rfl
theorem op_nil {K : Int} (h1 : 1 ≤ K) (h5 : K ≤ 5) : opE K [] = 0 ∧ opF K [] = List.replicate 32 false := by
  unfold opE
  rw [decide_eq_false (show ¬ K < 1 by omega), decide_eq_false (show ¬ 5 < K by omega)]
  exact ⟨rfl, rfl⟩
theorem op_one {K : Int} (h1 : 1 ≤ K) (h5 : K ≤ 5) (b : ByteArray) : opE K [b] = rdE (rd K b) := by
  unfold opE
  rw [decide_eq_false (show ¬ K < 1 by omega), decide_eq_false (show ¬ 5 < K by omega)]
  show Erx.errE (opX K [b]) = _
  unfold opX Erx.errX
  simp only [Ev.foldX]
  unfold opErr
  rw [rep_at]
  cases h : rdE (rd K b) != 0 with
  | true =>
    have h' : (rdE (rd K b) == 0) = false := by rw [bne, Bool.not_eq_true'] at h; exact h
    simp only [cond_true, h', cond_false]; rfl
  | false =>
    rw [bne, Bool.not_eq_false', beq_iff_eq] at h
    rw [h]; rfl
theorem op_two {K : Int} (h1 : 1 ≤ K) (h5 : K ≤ 5) (b : ByteArray) : opE K [b, b] = bif rdE (rd K b) == 0 then 6 else rdE (rd K b) := by
  unfold opE
  rw [decide_eq_false (show ¬ K < 1 by omega), decide_eq_false (show ¬ 5 < K by omega)]
  show Erx.errE (opX K [b, b]) = _
  unfold opX Erx.errX
  simp only [Ev.foldX]
  unfold opErr opSt
  rw [rep_at]
  cases h : rdE (rd K b) != 0 with
  | true =>
    have h' : (rdE (rd K b) == 0) = false := by rw [bne, Bool.not_eq_true'] at h; exact h
    simp only [cond_true, h', cond_false]; rfl
  | false =>
    rw [bne, Bool.not_eq_false', beq_iff_eq] at h
    have hv : rdV (rd K b) < 32 := by
      rcases rd_cases h1 h5 b with e | ⟨_, e, _⟩
      · exact absurd h e
      · exact e
    have ha : at_ ((List.replicate 32 false).set (rdV (rd K b)) true) (rdV (rd K b)) = true := by
      rw [at_set' (by rw [List.length_replicate]; exact hv), if_pos rfl]
    rw [h]
    simp only [cond_false, beq_self_eq_true, cond_true, ha]
    rfl
theorem op_up {K : Int} (h1 : 1 ≤ K) (h5 : K ≤ 5) (b : ByteArray) : opE K [⟨#[65]⟩, b] = 2 := by
  unfold opE
  rw [decide_eq_false (show ¬ K < 1 by omega), decide_eq_false (show ¬ 5 < K by omega)]
  rfl
theorem me_nil {K : Int} (h1 : 1 ≤ K) (h5 : K ≤ 5) (b : ByteArray) : meE K [] b = rdE (rd K b) := by
  unfold meE
  rw [(op_nil h1 h5).1]; rfl
theorem dif_zero : ∀ v, v < 32 → dif v 0 = v := by decide
theorem word0 : word 0 = ⟨#[]⟩ := by decide
theorem pv_nil {K : Int} (h1 : 1 ≤ K) (h5 : K ≤ 5) (b : ByteArray) : pvE K [] ⟨#[]⟩ b = bif rdE (rd K b) == 0 then (bif b == ⟨#[]⟩ then 0 else 14) else rdE (rd K b) := by
  unfold pvE
  rw [me_nil h1 h5, show rdE (rd K ⟨#[]⟩) = 0 from rfl, show rdV (rd K ⟨#[]⟩) = 0 from rfl, (op_nil h1 h5).2]
  cases h : rdE (rd K b) == 0 with
  | false => rfl
  | true =>
    rcases rd_cases h1 h5 b with e | ⟨_, e, _, hw⟩
    · exact absurd (eq_of_beq h) e
    · have ht : at_ (tr (List.replicate 32 false) 0) (rdV (rd K b)) = false := by
        unfold tr
        rw [at_trF (by decide) 32 (Nat.le_refl _) _ e, List.any_eq_false]
        intro c _ hc
        rw [rep_at] at hc; cases hc
      have hq : (b == ⟨#[]⟩) = decide (rdV (rd K b) = 0) := by
        have := word_inj _ e 0 (by decide)
        rw [word0, ← hw] at this
        exact this
      rw [dif_zero _ e, ht, hq, Bool.or_false, beq_self_eq_true, cond_true, cond_true]
      by_cases h0 : rdV (rd K b) = 0
      · rw [h0]; rfl
      · rw [decide_eq_false h0, show (rdV (rd K b) != 0) = true from bne_iff_ne.2 h0]; rfl
theorem abc : ∀ k, k < 10 → ((⟨#[97, 98, 99, 100, 101, 102, 103, 104, 105, 106]⟩ : ByteArray).extract k (k + 1)) = ⟨#[UInt8.ofNat (97 + k)]⟩ := by decide
end Rgg
namespace Go.Ev.Rag
open Go Go.Ev Go.Proofs
set_option maxRecDepth 1000000
set_option linter.unusedVariables false
set_option linter.unusedSimpArgs false
theorem c50_run : ∀ args H v H', (c50 args H).val = some (v, H') → CallOK T0 50 args H v H' := c50_ok T0_ok (by
  intro l r hv
  refine (nf50 ..).trans ?_
  rw [leaf_val hv])
theorem Rd1_ok : TabOK Rd1 := by
  have h := T0_ok
  have h := h.addCall (g := 37) (r := c37) fun a H v H' hv => by refine CallOK.tab ?_ ?_ (c37_run a H v H' hv) <;> rfl
  have h := h.addCall (g := 24) (r := c24) fun a H v H' hv => by refine CallOK.tab ?_ ?_ (c24_run a H v H' hv) <;> rfl
  have h := h.addCall (g := 45) (r := c45) fun a H v H' hv => by refine CallOK.tab ?_ ?_ (c45_run a H v H' hv) <;> rfl
  have h := h.addCall (g := 50) (r := c50) fun a H v H' hv => by refine CallOK.tab ?_ ?_ (c50_run a H v H' hv) <;> rfl
  have h := h.addCall (g := 58) (r := c58) fun a H v H' hv => by refine CallOK.tab ?_ ?_ (c58_run a H v H' hv) <;> rfl
  exact h
theorem Rd2_ok : TabOK Rd2 := Rd1_ok.addCall (g := 16) (r := c16t) fun a H v H' hv => by refine CallOK.tab ?_ ?_ (c16t_run a H v H' hv) <;> rfl
theorem l14_6_run : ∀ base kv H o kv' H', (l14_6 base kv H).val = some (o, kv', H') → LoopOK Rd2 14 6 base kv H o kv' H' := l14_6_ok Rd2_ok (by kernel_rfl) (by
  intro n w d q bag b y r hv
  obtain ⟨hl, hv2⟩ := guard_val hv
  simp only [Bool.and_eq_true, decide_eq_true_eq] at hl
  obtain ⟨⟨⟨⟨⟨⟨⟨⟨n1, n5⟩, hbag⟩, rfl⟩, rfl⟩, rfl⟩, b4⟩, hy⟩, h8⟩ := hl
  have he : bag = ⟨#[]⟩ := by
    apply ByteArray.ext
    exact Array.eq_empty_of_size_eq_zero hbag
  subst he
  unfold Rgg.y8 at h8
  rw [List.all_eq_true] at h8
  obtain ⟨mm, hm⟩ := steps_of (T := Rd2) (fid := 14) (lid := 6) (base := 0) (c := lpc Rd2 14 6) b (fun i => [vi n, .sc (.string (Rgg.rdY n (y.take i)).1), vi (Rgg.rdY n (y.take i)).2.1, vi (Rgg.rdY n (y.take i)).2.2, osP b, vi b, vi (i : Nat)]) (fun _ => [some (rY4 y)])
    (.ext 0, [vi n, .sc (.string (Rgg.rdY n (y.take b)).1), vi (Rgg.rdY n (y.take b)).2.1, vi (Rgg.rdY n (y.take b)).2.2, osP b, vi b, vi b], [some (rY4 y)])
    (fun i hi again => by
      have hx := List.getElem?_eq_getElem (show i < y.length by omega)
      generalize y[i] = x at hx
      have hxx := h8 x (List.mem_of_getElem? hx)
      rw [Bool.and_eq_true, decide_eq_true_eq, decide_eq_true_eq] at hxx
      have hst : Rgg.rdY n (y.take (i + 1)) = Rgg.rdW n (Rgg.rdY n (y.take i)) x := by
        unfold Rgg.rdY
        rw [List.take_add_one, hx, List.foldl_append]; rfl
      have hsz : (Rgg.rdY n (y.take i)).1.size ≤ 5 := by
        unfold Rgg.rdY
        rw [Rgg.rdY_bag]
        show ((⟨#[]⟩ : ByteArray) ++ ⟨(Rgg.ltL (y.take i)).toArray⟩ : ByteArray).data.size ≤ 5
        rw [ByteArray.data_append, Array.size_append]
        show 0 + (Rgg.ltL (y.take i)).toArray.size ≤ 5
        unfold Rgg.ltL
        rw [List.size_toArray, List.length_map, List.length_take]
        omega
      have hk : (IntKind.i64.wrap x).tmod 6 = ((x % 6).toNat : Int) := by
        rw [wrapi (x := x) (by omega) (by omega), Int.tmod_eq_emod_of_nonneg hxx.1]; omega
      have hk6 : (x % 6).toNat < 6 := by omega
      refine (nl14 ..).trans ?_
      simp only [dec_lt hi, dec_ge, cond_true, toNat_cast, hx, oM, Option.getD_some]
      rw [hst, hk, wrap_succ (i := (x % 6).toNat) (by omega), wrap_succ (i := i) (by omega)]
      generalize hs : Rgg.rdY n (y.take i) = s at hsz
      obtain ⟨s1, s2, s3⟩ := s
      simp only [dec_lt hi, dec_ge, cond_true, toNat_cast, hx, oM, Option.getD_some, decide_eq_true (show (((x % 6).toNat : Nat) : Int) ≤ (((x % 6).toNat + 1 : Nat) : Int) by omega), decide_eq_true (show (((x % 6).toNat + 1 : Nat) : Int) ≤ 10 by omega), decide_eq_true (show (((x % 6).toNat + 1 : Nat) : Int) ≤ ((10 : Nat) : Int) by omega), Rgg.abc 9 (by decide), Rgg.abc (x % 6).toNat (by omega)]
      have hsz : s1.size ≤ 5 := hsz
      rw [room_ok (n := s1.size + 1) (b := 1) (by omega) (by omega), room_ok (n := s1.size + (⟨#[UInt8.ofNat (97 + (x % 6).toNat)]⟩ : ByteArray).size) (b := 1) (by show s1.size + 1 ≤ _; omega) (by omega)]
      cases hg : decide (x > 250) with
      | true =>
        have hkx : Rgg.kX x = 9 := by unfold Rgg.kX; rw [hg]; rfl
        unfold Rgg.rdW
        rw [hkx]
        simp only [show ((9 : Nat) : Int) = 9 from rfl, cond_true]
        cases h2 : s2 != 0 with
        | true => rfl
        | false =>
          rw [bne, Bool.not_eq_false', beq_iff_eq] at h2
          subst h2
          cases decide ((9 : Int) ≥ n) <;> cases decide ((9 : Int) ≤ s3) <;> rfl
      | false =>
        have hkx : Rgg.kX x = (x % 6).toNat := by unfold Rgg.kX; rw [hg]; rfl
        unfold Rgg.rdW
        rw [hkx]
        simp only [cond_false]
        cases h2 : s2 != 0 with
        | true => rfl
        | false =>
          rw [bne, Bool.not_eq_false', beq_iff_eq] at h2
          subst h2
          cases decide ((((x % 6).toNat : Nat) : Int) ≥ n) <;> cases decide ((((x % 6).toNat : Nat) : Int) ≤ s3) <;> rfl)
    (fun again => by
      refine (nl14 ..).trans ?_
      simp only [dec_ll, cond_false])
  exact ⟨mm, hm.trans (by rw [leaf_val hv2])⟩)
theorem Rd3_ok : TabOK Rd3 := Rd2_ok.addLoop (g := 14) (lid := 6) (r := l14_6) fun b k H o k' H' hv => by refine LoopOK.tab ?_ ?_ ?_ ?_ (l14_6_run b k H o k' H' hv) <;> rfl
theorem read_body (k : Int) (rk : 0 ≤ k ∧ k < 256) (y : List Int) (ry : y.length = 4 ∧ ∀ x ∈ y, 0 ≤ x ∧ x < 256) (m : Int) (rm : 0 ≤ m ∧ m < 256) : evBody Rd3 14 [.sc (.int .u8 k), .agg [.run (.int .u8) y] false, .sc (.int .u8 m)] [] = some (vb true, []) := by
  refine (nf14 ..).trans ?_
  refine (cond_t (decide_eq_true (show ([y.length * 1] : List Nat) = [4 * 1] by rw [ry.1]))).trans ?_
  have hN : IntKind.i64.wrap (1 + (IntKind.i64.wrap k).tmod 5) = 1 + k % 5 := by
    rw [wrapi (x := k) (by omega) (by omega), Int.tmod_eq_emod_of_nonneg rk.1, wrapi (by omega) (by omega)]
  have hM : (IntKind.i64.wrap m).tmod 5 = m % 5 := by
    rw [wrapi (x := m) (by omega) (by omega), Int.tmod_eq_emod_of_nonneg rm.1]
  rw [hN, hM]
  have n1 : 1 ≤ 1 + k % 5 := by omega
  have n5 : 1 + k % 5 ≤ 5 := by omega
  generalize 1 + k % 5 = n at *
  obtain ⟨b, hb⟩ := Int.eq_ofNat_of_zero_le (show 0 ≤ m % 5 by omega)
  have b4 : b ≤ 4 := by omega
  rw [hb]
  simp only [toNat_cast]
  have hy8 : Rgg.y8 y = true := by
    unfold Rgg.y8
    rw [List.all_eq_true]
    intro x hx
    rw [decide_eq_true (ry.2 x hx).1, decide_eq_true (ry.2 x hx).2]; rfl
  have hrd := Rgg.rdY_rd n (l := y.take b) fun x hx => (ry.2 x (List.mem_of_mem_take hx)).1
  generalize Rgg.rdY n (y.take b) = s at *
  obtain ⟨bag, w, d⟩ := s
  have hrd : Rgg.rdE (Rgg.rd n bag) = w := hrd
  rw [Rgg.op_one n1 n5, Rgg.op_two n1 n5, Rgg.op_up n1 n5, Rgg.me_nil n1 n5, Rgg.pv_nil n1 n5, hrd, hy8]
  simp only [ry.1, dec_ge, decide_eq_true n1, decide_eq_true n5, decide_eq_true b4, decide_eq_true (show ((b : Nat) : Int) ≤ 4 by omega), decide_eq_true (show ((b : Nat) : Int) ≤ ((4 : Nat) : Int) by omega), decide_true, Bool.and_self, cond_true, Nat.le_refl]
  cases hw : w == 0 with
  | false =>
    have h14 : ∀ c : Int, (w == c) = (w == c) := fun _ => rfl
    simp only [cond_false, cond_true, beq_self_eq_true]
  | true =>
    have hw0 := eq_of_beq hw
    subst hw0
    simp only [cond_true, beq_self_eq_true]
    cases bag == ⟨#[]⟩ <;> rfl
end Go.Ev.Rag
