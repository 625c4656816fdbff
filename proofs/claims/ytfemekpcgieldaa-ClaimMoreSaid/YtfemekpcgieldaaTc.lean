/- The claim chapter: levels, and the divisions by rule, gains and losses: tables and normal forms. -/
import Derived.Test.YtfemekpcgieldaaTb
set_option linter.unusedVariables false
set_option linter.unusedSimpArgs false
namespace Go.Ev.Clm
open Go Go.Ev
set_option maxRecDepth 1000000
set_option linter.unusedVariables false
def c81t (l : List Int) (k : Nat) (b : Int) : Tree (AV × Hp) := .br (decide (b = k) && decide (k ≤ 5) && decide (l.length = 5)) (.leaf (.tuple [], [some (rP (Clm.isort k l))])) .fail
def c81 (args : List AV) (H : Hp) : Tree (AV × Hp) := match args, H with
  | [(.os 0 0 0 k false false false), (.sc (.int .i64 0)), (.sc (.int .i64 b))], [some ⟨[.run (.int .i64) l], true, 66, false, false, none⟩] => c81t l k b
  | _, _ => .fail
theorem c81_ok {T : Tab} (hT : TabOK T) (h : ∀ (l : List Int) (k : Nat) (b : Int) (r : AV × Hp), (c81t l k b).val = some r → evBody T 81 [osP 0 k, vi 0, vi b] [some (rP l)] = some r) : ∀ args H v H', (c81 args H).val = some (v, H') → CallOK T 81 args H v H' := by
  intro args H v H' hv
  unfold c81 at hv
  split at hv
  · exact evBody_sound hT (h _ _ _ _ hv)
  · cases hv
def c78t (x : Int) : Tree (AV × Hp) := .br (decide (0 ≤ x) && decide (x ≤ 5)) (.leaf (vi (Clm.len64 x), [])) .fail
def c78 (args : List AV) (H : Hp) : Tree (AV × Hp) := match args, H with
  | [(.sc (.int .u64 x))], [] => c78t x
  | _, _ => .fail
theorem c78_ok {T : Tab} (hT : TabOK T) (h : ∀ (x : Int) (r : AV × Hp), (c78t x).val = some r → evBody T 78 [vint .u64 x] [] = some r) : ∀ args H v H', (c78 args H).val = some (v, H') → CallOK T 78 args H v H' := by
  intro args H v H' hv
  unfold c78 at hv
  split at hv
  · exact evBody_sound hT (h _ _ hv)
  · cases hv
noncomputable def T5 : Tab := (T4).addCall 81 c81
theorem nl77 (again : Ag) (l : List Int) (k : Nat) (b lim : Int) : lpStep T5 77 2 1 (lpc T5 77 2) again [osP 0 k, vi 0, vi b, vi lim, vb true, vb true] [some (rP l)] = (bif decide (IntKind.i64.wrap (b - 0) ≤ 12) then bif decide (b = (↑k : Int)) && decide (k ≤ 5) && decide (l.length = 5) then some (.ret, [.os 0 0 0 k false false false, vi 0, vi b, vi lim, vb true, vb true], [some ⟨[.run (.int .i64) (Clm.isort k l)], true, 66, false, false, none⟩]) else none else bif lim == 0 then bif decide (0 + k ≤ l.length) then none else none else bif decide (0 + k ≤ l.length) then none else none) := by kernel_rfl
def l77_2t (l : List Int) (k : Nat) (b lim : Int) : Tree (Out × List AV × Hp) := .br (decide (b = k) && decide (k ≤ 5) && decide (l.length = 5)) (.leaf (.ret, [osP 0 k, vi 0, vi b, vi lim, vb true, vb true], [some (rP (Clm.isort k l))])) .fail
def l77_2 (base : Nat) (kv : List AV) (H : Hp) : Tree (Out × List AV × Hp) := match Nat.beq base 1, kv, H with
  | true, [(.os 0 0 0 k false false false), (.sc (.int .i64 0)), (.sc (.int .i64 b)), (.sc (.int .i64 lim)), (.sc (.bool true)), (.sc (.bool true))], [some ⟨[.run (.int .i64) l], true, 66, false, false, none⟩] => l77_2t l k b lim
  | _, _, _ => .fail
theorem l77_2_ok {T : Tab} (hT : TabOK T) (hlo : loopOf T.fn 77 2 = some (lpc T 77 2)) (h : ∀ (l : List Int) (k : Nat) (b lim : Int) (r : Out × List AV × Hp), (l77_2t l k b lim).val = some r → ∃ mm, lpRun T 77 2 1 (lpc T 77 2) mm [osP 0 k, vi 0, vi b, vi lim, vb true, vb true] [some (rP l)] = some r) : ∀ base kv H o kv' H', (l77_2 base kv H).val = some (o, kv', H') → LoopOK T 77 2 base kv H o kv' H' := by
  intro base kv H o kv' H' hv
  unfold l77_2 at hv
  split at hv
  · rename_i hb
    obtain rfl := Nat.eq_of_beq_eq_true hb
    exact loop_ok hT hlo (h _ _ _ _ _ hv)
  · cases hv
noncomputable def T6 : Tab := ((T5).addCall 78 c78).addLoop 77 2 l77_2
theorem nf77 (l : List Int) (k : Nat) (b lim : Int) : evBody T6 77 [osP 0 k, vi 0, vi b, vi lim] [some (rP l)] = (bif decide (b = (↑k : Int)) && decide (k ≤ 5) && decide (l.length = 5) then some (.tuple [], [some ⟨[.run (.int .i64) (Clm.isort k l)], true, 66, false, false, none⟩]) else none) := by kernel_rfl
def c77t (l : List Int) (k : Nat) (b lim : Int) : Tree (AV × Hp) := .br (decide (b = k) && decide (k ≤ 5) && decide (l.length = 5)) (.leaf (.tuple [], [some (rP (Clm.isort k l))])) .fail
def c77 (args : List AV) (H : Hp) : Tree (AV × Hp) := match args, H with
  | [(.os 0 0 0 k false false false), (.sc (.int .i64 0)), (.sc (.int .i64 b)), (.sc (.int .i64 lim))], [some ⟨[.run (.int .i64) l], true, 66, false, false, none⟩] => c77t l k b lim
  | _, _ => .fail
theorem c77_ok {T : Tab} (hT : TabOK T) (h : ∀ (l : List Int) (k : Nat) (b lim : Int) (r : AV × Hp), (c77t l k b lim).val = some r → evBody T 77 [osP 0 k, vi 0, vi b, vi lim] [some (rP l)] = some r) : ∀ args H v H', (c77 args H).val = some (v, H') → CallOK T 77 args H v H' := by
  intro args H v H' hv
  unfold c77 at hv
  split at hv
  · exact evBody_sound hT (h _ _ _ _ _ hv)
  · cases hv
noncomputable def T7 : Tab := (T6).addCall 77 c77
theorem nf73 (l : List Int) (k : Nat) : evBody T7 73 [osP 0 k] [some (rP l)] = (bif decide (0 ≤ IntKind.u64.wrap (↑k : Int)) && decide (IntKind.u64.wrap (↑k : Int) ≤ 5) then bif decide ((↑k : Int) = (↑k : Int)) && decide (k ≤ 5) && decide (l.length = 5) then some (.tuple [], [some ⟨[.run (.int .i64) (Clm.isort k l)], true, 66, false, false, none⟩]) else none else none) := by kernel_rfl
def c73t (l : List Int) (k : Nat) : Tree (AV × Hp) := .br (decide (k ≤ 5) && decide (l.length = 5)) (.leaf (.tuple [], [some (rP (Clm.isort k l))])) .fail
def c73 (args : List AV) (H : Hp) : Tree (AV × Hp) := match args, H with
  | [(.os 0 0 0 k false false false)], [some ⟨[.run (.int .i64) l], true, 66, false, false, none⟩] => c73t l k
  | _, _ => .fail
theorem c73_ok {T : Tab} (hT : TabOK T) (h : ∀ (l : List Int) (k : Nat) (r : AV × Hp), (c73t l k).val = some r → evBody T 73 [osP 0 k] [some (rP l)] = some r) : ∀ args H v H', (c73 args H).val = some (v, H') → CallOK T 73 args H v H' := by
  intro args H v H' hv
  unfold c73 at hv
  split at hv
  · exact evBody_sound hT (h _ _ _ hv)
  · cases hv
noncomputable def T8 : Tab := (T7).addCall 73 c73
theorem nl55_5 (again : Ag) (bs z out so : List Int) (t n i : Int) : lpStep T8 55 5 0 (lpc T8 55 5) again [vi t, vi n, ps 0, ps 1, ps 2, ps 3, vi n, vi i] [some (rP bs), some (rP z), some (rP out), some (rP so)] = (bif decide (i < n) then bif !decide (IntKind.i64.wrap (n - i) = 0) then bif decide (0 ≤ i) then bif decide (i < (↑5 : Int)) then oM so[i.toNat]? fun x => bif decide (IntKind.i64.wrap (t.tdiv (IntKind.i64.wrap (n - i))) ≤ x) then bif decide (0 ≤ n) && decide (n ≤ 5) && decide (bs.length = 5) && decide (out.length = 5) then bif decide (List.map (fun (x : AV) => match x with | .run e l => l.length * e.size | _ => 1) (List.take 1 (List.drop 0 [.run (.int .i64) (List.map (fun b => Min.min (IntKind.i64.wrap (t.tdiv (IntKind.i64.wrap (n - i)))) b) (List.take n.toNat bs) ++ List.drop n.toNat out)])) = List.map (fun (x : AV) => match x with | .run e l => l.length * e.size | _ => 1) ((some [.run (.int .i64) (List.replicate 5 0)]).getD [])) then some (.ret, [.dead, .dead, .ps 0 0 0 0, .ps 1 0 0 0, .ps 2 0 0 0, .dead, .dead, .dead], [some ⟨[.run (.int .i64) bs], true, 66, false, false, none⟩, some ⟨[.run (.int .i64) (List.map (fun b => Min.min (IntKind.i64.wrap (t.tdiv (IntKind.i64.wrap (n - i)))) b) (List.take n.toNat bs) ++ List.drop n.toNat out)], true, 66, false, false, none⟩, some ⟨[.run (.int .i64) (List.map (fun b => Min.min (IntKind.i64.wrap (t.tdiv (IntKind.i64.wrap (n - i)))) b) (List.take n.toNat bs) ++ List.drop n.toNat out)], true, 66, false, false, none⟩]) else none else none else bif decide (0 ≤ i) then bif decide (i < (↑5 : Int)) then oM so[i.toNat]? fun x => again [vi (IntKind.i64.wrap (t - x)), vi n, .ps 0 0 0 0, .ps 1 0 0 0, .ps 2 0 0 0, .ps 3 0 0 0, vi n, vi (IntKind.i64.wrap (i + 1))] [some ⟨[.run (.int .i64) bs], true, 66, false, false, none⟩, some ⟨[.run (.int .i64) z], true, 66, false, false, none⟩, some ⟨[.run (.int .i64) out], true, 66, false, false, none⟩, some ⟨[.run (.int .i64) so], true, 66, false, false, none⟩] else none else none else none else none else none else some (.ext 0, [vi t, vi n, .ps 0 0 0 0, .ps 1 0 0 0, .ps 2 0 0 0, .ps 3 0 0 0, vi n, vi i], [some ⟨[.run (.int .i64) bs], true, 66, false, false, none⟩, some ⟨[.run (.int .i64) z], true, 66, false, false, none⟩, some ⟨[.run (.int .i64) out], true, 66, false, false, none⟩, some ⟨[.run (.int .i64) so], true, 66, false, false, none⟩])) := by kernel_rfl
def l55_5t (bs z out so : List Int) (t n n2 : Int) : Tree (Out × List AV × Hp) := .br (decide (n2 = n) && decide (1 ≤ n) && decide (n ≤ 5) && decide (bs.length = 5) && decide (z.length = 5) && decide (out = [0, 0, 0, 0, 0]) && decide (so.length = 5) && Clm.sb so && Clm.sm1 t && Clm.stops (Clm.levX n.toNat so t)) (.leaf (.ret, [.dead, .dead, ps 0, ps 1, ps 2, .dead, .dead, .dead], [some (rP bs), some (rP (Clm.capN n.toNat (Clm.same n.toNat so t) bs)), some (rP (Clm.capN n.toNat (Clm.same n.toNat so t) bs))])) .fail
def l55_5 (base : Nat) (kv : List AV) (H : Hp) : Tree (Out × List AV × Hp) := match Nat.beq base 0, kv, H with
  | true, [(.sc (.int .i64 t)), (.sc (.int .i64 n)), (.ps 0 0 0 0), (.ps 1 0 0 0), (.ps 2 0 0 0), (.ps 3 0 0 0), (.sc (.int .i64 n2)), (.sc (.int .i64 0))], [some ⟨[.run (.int .i64) bs], true, 66, false, false, none⟩, some ⟨[.run (.int .i64) z], true, 66, false, false, none⟩, some ⟨[.run (.int .i64) out], true, 66, false, false, none⟩, some ⟨[.run (.int .i64) so], true, 66, false, false, none⟩] => l55_5t bs z out so t n n2
  | _, _, _ => .fail
theorem l55_5_ok {T : Tab} (hT : TabOK T) (hlo : loopOf T.fn 55 5 = some (lpc T 55 5)) (h : ∀ (bs z out so : List Int) (t n n2 : Int) (r : Out × List AV × Hp), (l55_5t bs z out so t n n2).val = some r → ∃ mm, lpRun T 55 5 0 (lpc T 55 5) mm [vi t, vi n, ps 0, ps 1, ps 2, ps 3, vi n2, vi 0] [some (rP bs), some (rP z), some (rP out), some (rP so)] = some r) : ∀ base kv H o kv' H', (l55_5 base kv H).val = some (o, kv', H') → LoopOK T 55 5 base kv H o kv' H' := by
  intro base kv H o kv' H' hv
  unfold l55_5 at hv
  split at hv
  · rename_i hb
    obtain rfl := Nat.eq_of_beq_eq_true hb
    exact loop_ok hT hlo (h _ _ _ _ _ _ _ _ hv)
  · cases hv
noncomputable def T9 : Tab := (T8).addLoop 55 5 l55_5
theorem nf55 (bs : List Int) (t n : Int) : evBody T9 55 [vi t, aP bs, vi n] [] = (bif decide (List.map (fun (x : AV) => match x with | .run e l => l.length * e.size | _ => 1) [.run (.int .i64) bs] = List.map (fun (x : AV) => match x with | .run e l => l.length * e.size | _ => 1) ((some [.run (.int .i64) (List.replicate 5 0)]).getD [])) then bif decide (List.map (fun (x : AV) => match x with | .run e l => l.length * e.size | _ => 1) (List.take 1 (List.drop 0 [.run (.int .i64) bs])) = List.map (fun (x : AV) => match x with | .run e l => l.length * e.size | _ => 1) ((some [.run (.int .i64) (List.replicate 5 0)]).getD [])) then bif decide (0 ≤ n) then bif decide (n ≤ (↑5 : Int)) then bif decide (5 ≤ bs.length) then bif decide (n.toNat ≤ 5) && decide (bs.length = 5) then bif decide (n = n) && decide (1 ≤ n) && decide (n ≤ 5) && decide (bs.length = 5) && decide (5 = 5) && decide (List.replicate 5 0 = [0, 0, 0, 0, 0]) && decide ((Clm.isort n.toNat bs).length = 5) && Clm.sb (Clm.isort n.toNat bs) && Clm.sm1 t && Clm.stops (Clm.levX n.toNat (Clm.isort n.toNat bs) t) then some (.agg [.run (.int .i64) (Clm.capN n.toNat (Clm.same n.toNat (Clm.isort n.toNat bs) t) bs)] false, []) else none else none else none else none else none else none else none) := by kernel_rfl
def c55t (bs : List Int) (t n : Int) : Tree (AV × Hp) := .br (Clm.levG n bs t) (.leaf (aP (Clm.levA n bs t), [])) .fail
def c55 (args : List AV) (H : Hp) : Tree (AV × Hp) := match args, H with
  | [(.sc (.int .i64 t)), (.agg [.run (.int .i64) bs] false), (.sc (.int .i64 n))], [] => c55t bs t n
  | _, _ => .fail
theorem c55_ok {T : Tab} (hT : TabOK T) (h : ∀ (bs : List Int) (t n : Int) (r : AV × Hp), (c55t bs t n).val = some r → evBody T 55 [vi t, aP bs, vi n] [] = some r) : ∀ args H v H', (c55 args H).val = some (v, H') → CallOK T 55 args H v H' := by
  intro args H v H' hv
  unfold c55 at hv
  split at hv
  · exact evBody_sound hT (h _ _ _ _ hv)
  · cases hv
theorem nf43 (l : List Int) : evBody T9 43 [lI l] [] = (bif decide (0 < l.length) then bif bif decide (0 < l.length) then true else ([] : List Int).isEmpty then bif room (0 + l.length) 8 then some (osW 0 (0 + l.length), [some ⟨[.run (.int .i64) l], false, 3, false, false, none⟩]) else none else none else none) := by kernel_rfl
def c43t (l : List Int) : Tree (AV × Hp) := .br (sm l && decide (0 < l.length)) (.leaf (osW 0 l.length, [some (rowI l 3)])) .fail
def c43 (args : List AV) (H : Hp) : Tree (AV × Hp) := match args, H with
  | [(.sl (.int .i64) l false)], [] => c43t l
  | _, _ => .fail
theorem c43_ok {T : Tab} (hT : TabOK T) (h : ∀ (l : List Int) (r : AV × Hp), (c43t l).val = some r → evBody T 43 [lI l] [] = some r) : ∀ args H v H', (c43 args H).val = some (v, H') → CallOK T 43 args H v H' := by
  intro args H v H' hv
  unfold c43 at hv
  split at hv
  · exact evBody_sound hT (h _ _ hv)
  · cases hv
noncomputable def T10 : Tab := ((T9).addCall 55 c55).addCall 43 c43
theorem nf17 (l : List Int) (w : Int) : evBody T10 17 [vi w, lI l] [] = (bif Clm.chk w l != 0 then some (.tuple [osW 0 0, vi (Clm.chk w l)], [some ⟨[.run (.int .i64) []], false, 0, false, false, none⟩]) else bif decide (l.length ≤ 5) && Clm.sb l && decide (0 ≤ 120) && decide (120 ≤ 120) then bif decide (List.map (fun (x : AV) => match x with | .run e l => l.length * e.size | _ => 1) [.run (.int .i64) (Clm.pad5 (Clm.times 120 l))] = List.map (fun (x : AV) => match x with | .run e l => l.length * e.size | _ => 1) ((some [.run (.int .i64) (List.replicate 5 0)]).getD [])) then bif decide (l.length ≤ 5) && Clm.sb l && decide (0 ≤ 60) && decide (60 ≤ 120) then bif decide (List.map (fun (x : AV) => match x with | .run e l => l.length * e.size | _ => 1) [.run (.int .i64) (Clm.pad5 (Clm.times 60 l))] = List.map (fun (x : AV) => match x with | .run e l => l.length * e.size | _ => 1) ((some [.run (.int .i64) (List.replicate 5 0)]).getD [])) then bif decide (IntKind.i64.wrap (2 * IntKind.i64.wrap (120 * w)) ≤ Clm.sumI (Clm.times 120 l)) then bif Clm.levG (↑l.length : Int) (Clm.pad5 (Clm.times 60 l)) (IntKind.i64.wrap (120 * w)) then bif decide (List.map (fun (x : AV) => match x with | .run e l => l.length * e.size | _ => 1) [.run (.int .i64) (Clm.levA (↑l.length : Int) (Clm.pad5 (Clm.times 60 l)) (IntKind.i64.wrap (120 * w)))] = List.map (fun (x : AV) => match x with | .run e l => l.length * e.size | _ => 1) ((some [.run (.int .i64) (List.replicate 5 0)]).getD [])) then bif decide ((↑l.length : Int) ≤ (↑5 : Int)) then bif decide (5 ≤ (Clm.levA (↑l.length : Int) (Clm.pad5 (Clm.times 60 l)) (IntKind.i64.wrap (120 * w))).length) then bif decide (0 + (↑l.length : Int).toNat ≤ (Clm.levA (↑l.length : Int) (Clm.pad5 (Clm.times 60 l)) (IntKind.i64.wrap (120 * w))).length) then bif sm (List.take (↑l.length : Int).toNat (Clm.levA (↑l.length : Int) (Clm.pad5 (Clm.times 60 l)) (IntKind.i64.wrap (120 * w)))) && decide (0 < (List.take (↑l.length : Int).toNat (Clm.levA (↑l.length : Int) (Clm.pad5 (Clm.times 60 l)) (IntKind.i64.wrap (120 * w)))).length) then some (.tuple [.os 0 0 0 (List.take (↑l.length : Int).toNat (Clm.levA (↑l.length : Int) (Clm.pad5 (Clm.times 60 l)) (IntKind.i64.wrap (120 * w)))).length true false true, vi 0], [some ⟨[.run (.int .i64) (List.take (↑l.length : Int).toNat (Clm.levA (↑l.length : Int) (Clm.pad5 (Clm.times 60 l)) (IntKind.i64.wrap (120 * w))))], false, 3, false, false, none⟩]) else none else none else none else none else none else none else bif Clm.levG (↑l.length : Int) (Clm.pad5 (Clm.times 60 l)) (IntKind.i64.wrap (Clm.sumI (Clm.times 120 l) - IntKind.i64.wrap (120 * w))) then bif decide (0 ≤ (↑l.length : Int)) && decide ((↑l.length : Int) ≤ 5) && decide ((Clm.levA (↑l.length : Int) (Clm.pad5 (Clm.times 60 l)) (IntKind.i64.wrap (Clm.sumI (Clm.times 120 l) - IntKind.i64.wrap (120 * w)))).length = 5) && decide ((Clm.pad5 (Clm.times 120 l)).length = 5) && Clm.sb (Clm.levA (↑l.length : Int) (Clm.pad5 (Clm.times 60 l)) (IntKind.i64.wrap (Clm.sumI (Clm.times 120 l) - IntKind.i64.wrap (120 * w)))) && Clm.sb (Clm.pad5 (Clm.times 120 l)) then some (.tuple [.os 0 0 0 (↑l.length : Int).toNat true true true, vi 0], [some ⟨[.run (.int .i64) (List.take (↑l.length : Int).toNat (Clm.lessL (Clm.pad5 (Clm.times 120 l)) (Clm.levA (↑l.length : Int) (Clm.pad5 (Clm.times 60 l)) (IntKind.i64.wrap (Clm.sumI (Clm.times 120 l) - IntKind.i64.wrap (120 * w))))))], false, 3, false, false, none⟩]) else none else none else none else none else none else none) := by kernel_rfl
theorem nf19 (l : List Int) (w : Int) : evBody T10 19 [vi w, lI l] [] = (bif Clm.chk w l != 0 then some (.tuple [osW 0 0, vi (Clm.chk w l)], [some ⟨[.run (.int .i64) []], false, 0, false, false, none⟩]) else bif decide (l.length ≤ 5) && Clm.sb l && decide (0 ≤ 120) && decide (120 ≤ 120) then bif decide (List.map (fun (x : AV) => match x with | .run e l => l.length * e.size | _ => 1) [.run (.int .i64) (Clm.pad5 (Clm.times 120 l))] = List.map (fun (x : AV) => match x with | .run e l => l.length * e.size | _ => 1) ((some [.run (.int .i64) (List.replicate 5 0)]).getD [])) then bif Clm.levG (↑l.length : Int) (Clm.pad5 (Clm.times 120 l)) (IntKind.i64.wrap (120 * w)) then bif decide (List.map (fun (x : AV) => match x with | .run e l => l.length * e.size | _ => 1) [.run (.int .i64) (Clm.levA (↑l.length : Int) (Clm.pad5 (Clm.times 120 l)) (IntKind.i64.wrap (120 * w)))] = List.map (fun (x : AV) => match x with | .run e l => l.length * e.size | _ => 1) ((some [.run (.int .i64) (List.replicate 5 0)]).getD [])) then bif decide ((↑l.length : Int) ≤ (↑5 : Int)) then bif decide (5 ≤ (Clm.levA (↑l.length : Int) (Clm.pad5 (Clm.times 120 l)) (IntKind.i64.wrap (120 * w))).length) then bif decide (0 + (↑l.length : Int).toNat ≤ (Clm.levA (↑l.length : Int) (Clm.pad5 (Clm.times 120 l)) (IntKind.i64.wrap (120 * w))).length) then bif sm (List.take (↑l.length : Int).toNat (Clm.levA (↑l.length : Int) (Clm.pad5 (Clm.times 120 l)) (IntKind.i64.wrap (120 * w)))) && decide (0 < (List.take (↑l.length : Int).toNat (Clm.levA (↑l.length : Int) (Clm.pad5 (Clm.times 120 l)) (IntKind.i64.wrap (120 * w)))).length) then some (.tuple [.os 0 0 0 (List.take (↑l.length : Int).toNat (Clm.levA (↑l.length : Int) (Clm.pad5 (Clm.times 120 l)) (IntKind.i64.wrap (120 * w)))).length true false true, vi 0], [some ⟨[.run (.int .i64) (List.take (↑l.length : Int).toNat (Clm.levA (↑l.length : Int) (Clm.pad5 (Clm.times 120 l)) (IntKind.i64.wrap (120 * w))))], false, 3, false, false, none⟩]) else none else none else none else none else none else none else none else none) := by kernel_rfl
theorem nf21 (l : List Int) (w : Int) : evBody T10 21 [vi w, lI l] [] = (bif Clm.chk w l != 0 then some (.tuple [osW 0 0, vi (Clm.chk w l)], [some ⟨[.run (.int .i64) []], false, 0, false, false, none⟩]) else bif decide (l.length ≤ 5) && Clm.sb l && decide (0 ≤ 120) && decide (120 ≤ 120) then bif decide (List.map (fun (x : AV) => match x with | .run e l => l.length * e.size | _ => 1) [.run (.int .i64) (Clm.pad5 (Clm.times 120 l))] = List.map (fun (x : AV) => match x with | .run e l => l.length * e.size | _ => 1) ((some [.run (.int .i64) (List.replicate 5 0)]).getD [])) then bif Clm.levG (↑l.length : Int) (Clm.pad5 (Clm.times 120 l)) (IntKind.i64.wrap (Clm.sumI (Clm.times 120 l) - IntKind.i64.wrap (120 * w))) then bif decide (0 ≤ (↑l.length : Int)) && decide ((↑l.length : Int) ≤ 5) && decide ((Clm.levA (↑l.length : Int) (Clm.pad5 (Clm.times 120 l)) (IntKind.i64.wrap (Clm.sumI (Clm.times 120 l) - IntKind.i64.wrap (120 * w)))).length = 5) && decide ((Clm.pad5 (Clm.times 120 l)).length = 5) && Clm.sb (Clm.levA (↑l.length : Int) (Clm.pad5 (Clm.times 120 l)) (IntKind.i64.wrap (Clm.sumI (Clm.times 120 l) - IntKind.i64.wrap (120 * w)))) && Clm.sb (Clm.pad5 (Clm.times 120 l)) then some (.tuple [.os 0 0 0 (↑l.length : Int).toNat true true true, vi 0], [some ⟨[.run (.int .i64) (List.take (↑l.length : Int).toNat (Clm.lessL (Clm.pad5 (Clm.times 120 l)) (Clm.levA (↑l.length : Int) (Clm.pad5 (Clm.times 120 l)) (IntKind.i64.wrap (Clm.sumI (Clm.times 120 l) - IntKind.i64.wrap (120 * w))))))], false, 3, false, false, none⟩]) else none else none else none else none) := by kernel_rfl
theorem nf18 (l : List Int) (w : Int) : evBody T10 18 [vi w, lI l] [] = (bif Clm.chk w l != 0 then some (.tuple [osW 0 0, vi (Clm.chk w l)], [some ⟨[.run (.int .i64) []], false, 0, false, false, none⟩]) else bif sm l && Clm.sb l && decide (0 ≤ 60) && decide (60 ≤ 120) then bif sm l && Clm.sb l then bif decide (IntKind.i64.wrap (2 * w) ≤ Clm.sumI l) then bif sm (Clm.times 60 l) && Clm.sb (Clm.times 60 l) && decide (IntKind.i64.wrap (120 * w) ≤ Clm.reach 200000 (Clm.times 60 l)) then some (.tuple [.os 0 0 0 (Clm.times 60 l).length true false true, vi 0], [some ⟨[.run (.int .i64) (Clm.capped (IntKind.i64.wrap (120 * w)) (Clm.times 60 l))], false, Clm.tyI (Clm.capped (IntKind.i64.wrap (120 * w)) (Clm.times 60 l)), false, false, none⟩]) else none else bif sm l && Clm.sb l && decide (0 ≤ 120) && decide (120 ≤ 120) then bif sm l && Clm.sb l then bif sm (Clm.times 60 l) && Clm.sb (Clm.times 60 l) && decide (IntKind.i64.wrap (120 * IntKind.i64.wrap (Clm.sumI l - w)) ≤ Clm.reach 200000 (Clm.times 60 l)) then bif sm (Clm.times 120 l) && Clm.sb (Clm.times 120 l) && Clm.sb (Clm.capped (IntKind.i64.wrap (120 * IntKind.i64.wrap (Clm.sumI l - w))) (Clm.times 60 l)) && decide ((Clm.capped (IntKind.i64.wrap (120 * IntKind.i64.wrap (Clm.sumI l - w))) (Clm.times 60 l)).length = (Clm.times 120 l).length) then some (.tuple [.os 0 0 0 (Clm.times 120 l).length true false true, vi 0], [some ⟨[.run (.int .i64) (Clm.lessL (Clm.times 120 l) (Clm.capped (IntKind.i64.wrap (120 * IntKind.i64.wrap (Clm.sumI l - w))) (Clm.times 60 l)))], false, Clm.tyI (Clm.lessL (Clm.times 120 l) (Clm.capped (IntKind.i64.wrap (120 * IntKind.i64.wrap (Clm.sumI l - w))) (Clm.times 60 l))), false, false, none⟩]) else none else none else none else none else none else none) := by kernel_rfl
theorem nf20 (l : List Int) (w : Int) : evBody T10 20 [vi w, lI l] [] = (bif Clm.chk w l != 0 then some (.tuple [osW 0 0, vi (Clm.chk w l)], [some ⟨[.run (.int .i64) []], false, 0, false, false, none⟩]) else bif sm l && Clm.sb l && decide (0 ≤ 120) && decide (120 ≤ 120) then bif sm (Clm.times 120 l) && Clm.sb (Clm.times 120 l) && decide (IntKind.i64.wrap (120 * w) ≤ Clm.reach 200000 (Clm.times 120 l)) then some (.tuple [.os 0 0 0 (Clm.times 120 l).length true false true, vi 0], [some ⟨[.run (.int .i64) (Clm.capped (IntKind.i64.wrap (120 * w)) (Clm.times 120 l))], false, Clm.tyI (Clm.capped (IntKind.i64.wrap (120 * w)) (Clm.times 120 l)), false, false, none⟩]) else none else none) := by kernel_rfl
theorem nf22 (l : List Int) (w : Int) : evBody T10 22 [vi w, lI l] [] = (bif Clm.chk w l != 0 then some (.tuple [osW 0 0, vi (Clm.chk w l)], [some ⟨[.run (.int .i64) []], false, 0, false, false, none⟩]) else bif sm l && Clm.sb l && decide (0 ≤ 120) && decide (120 ≤ 120) then bif sm l && Clm.sb l then bif sm (Clm.times 120 l) && Clm.sb (Clm.times 120 l) && decide (IntKind.i64.wrap (120 * IntKind.i64.wrap (Clm.sumI l - w)) ≤ Clm.reach 200000 (Clm.times 120 l)) then bif sm (Clm.times 120 l) && Clm.sb (Clm.times 120 l) && Clm.sb (Clm.capped (IntKind.i64.wrap (120 * IntKind.i64.wrap (Clm.sumI l - w))) (Clm.times 120 l)) && decide ((Clm.capped (IntKind.i64.wrap (120 * IntKind.i64.wrap (Clm.sumI l - w))) (Clm.times 120 l)).length = (Clm.times 120 l).length) then some (.tuple [.os 0 0 0 (Clm.times 120 l).length true false true, vi 0], [some ⟨[.run (.int .i64) (Clm.lessL (Clm.times 120 l) (Clm.capped (IntKind.i64.wrap (120 * IntKind.i64.wrap (Clm.sumI l - w))) (Clm.times 120 l)))], false, Clm.tyI (Clm.lessL (Clm.times 120 l) (Clm.capped (IntKind.i64.wrap (120 * IntKind.i64.wrap (Clm.sumI l - w))) (Clm.times 120 l))), false, false, none⟩]) else none else none else none else none) := by kernel_rfl
def c17t (l : List Int) (w : Int) : Tree (AV × Hp) := .br (Clm.chk w l == 0) (.br (decide (2 * w ≤ Clm.sumI l)) (.leaf (.tuple [osW 0 l.length, vi 0], [some (rowI (Clm.divV w l) 3)])) (.leaf (.tuple [osT 0 l.length, vi 0], [some (rowI (Clm.divV w l) 3)]))) (.leaf (.tuple [osW 0 0, vi (Clm.chk w l)], [some (rowI [] 0)]))
def c17 (args : List AV) (H : Hp) : Tree (AV × Hp) := match args, H with
  | [(.sc (.int .i64 w)), (.sl (.int .i64) l false)], [] => c17t l w
  | _, _ => .fail
theorem c17_ok {T : Tab} (hT : TabOK T) (h : ∀ (l : List Int) (w : Int) (r : AV × Hp), (c17t l w).val = some r → evBody T 17 [vi w, lI l] [] = some r) : ∀ args H v H', (c17 args H).val = some (v, H') → CallOK T 17 args H v H' := by
  intro args H v H' hv
  unfold c17 at hv
  split at hv
  · exact evBody_sound hT (h _ _ _ hv)
  · cases hv
def c19t (l : List Int) (w : Int) : Tree (AV × Hp) := .br (Clm.chk w l == 0) (.leaf (.tuple [osW 0 l.length, vi 0], [some (rowI (Clm.gainV w l) 3)])) (.leaf (.tuple [osW 0 0, vi (Clm.chk w l)], [some (rowI [] 0)]))
def c19 (args : List AV) (H : Hp) : Tree (AV × Hp) := match args, H with
  | [(.sc (.int .i64 w)), (.sl (.int .i64) l false)], [] => c19t l w
  | _, _ => .fail
theorem c19_ok {T : Tab} (hT : TabOK T) (h : ∀ (l : List Int) (w : Int) (r : AV × Hp), (c19t l w).val = some r → evBody T 19 [vi w, lI l] [] = some r) : ∀ args H v H', (c19 args H).val = some (v, H') → CallOK T 19 args H v H' := by
  intro args H v H' hv
  unfold c19 at hv
  split at hv
  · exact evBody_sound hT (h _ _ _ hv)
  · cases hv
def c21t (l : List Int) (w : Int) : Tree (AV × Hp) := .br (Clm.chk w l == 0) (.leaf (.tuple [osT 0 l.length, vi 0], [some (rowI (Clm.lossV w l) 3)])) (.leaf (.tuple [osW 0 0, vi (Clm.chk w l)], [some (rowI [] 0)]))
def c21 (args : List AV) (H : Hp) : Tree (AV × Hp) := match args, H with
  | [(.sc (.int .i64 w)), (.sl (.int .i64) l false)], [] => c21t l w
  | _, _ => .fail
theorem c21_ok {T : Tab} (hT : TabOK T) (h : ∀ (l : List Int) (w : Int) (r : AV × Hp), (c21t l w).val = some r → evBody T 21 [vi w, lI l] [] = some r) : ∀ args H v H', (c21 args H).val = some (v, H') → CallOK T 21 args H v H' := by
  intro args H v H' hv
  unfold c21 at hv
  split at hv
  · exact evBody_sound hT (h _ _ _ hv)
  · cases hv
def c18t (l : List Int) (w : Int) : Tree (AV × Hp) := .leaf (.tuple [osW 0 (Clm.divV w l).length, vi (Clm.chk w l)], [some (rI (Clm.divV w l))])
def c18 (args : List AV) (H : Hp) : Tree (AV × Hp) := match args, H with
  | [(.sc (.int .i64 w)), (.sl (.int .i64) l false)], [] => c18t l w
  | _, _ => .fail
theorem c18_ok {T : Tab} (hT : TabOK T) (h : ∀ (l : List Int) (w : Int) (r : AV × Hp), (c18t l w).val = some r → evBody T 18 [vi w, lI l] [] = some r) : ∀ args H v H', (c18 args H).val = some (v, H') → CallOK T 18 args H v H' := by
  intro args H v H' hv
  unfold c18 at hv
  split at hv
  · exact evBody_sound hT (h _ _ _ hv)
  · cases hv
def c20t (l : List Int) (w : Int) : Tree (AV × Hp) := .leaf (.tuple [osW 0 (Clm.gainV w l).length, vi (Clm.chk w l)], [some (rI (Clm.gainV w l))])
def c20 (args : List AV) (H : Hp) : Tree (AV × Hp) := match args, H with
  | [(.sc (.int .i64 w)), (.sl (.int .i64) l false)], [] => c20t l w
  | _, _ => .fail
theorem c20_ok {T : Tab} (hT : TabOK T) (h : ∀ (l : List Int) (w : Int) (r : AV × Hp), (c20t l w).val = some r → evBody T 20 [vi w, lI l] [] = some r) : ∀ args H v H', (c20 args H).val = some (v, H') → CallOK T 20 args H v H' := by
  intro args H v H' hv
  unfold c20 at hv
  split at hv
  · exact evBody_sound hT (h _ _ _ hv)
  · cases hv
def c22t (l : List Int) (w : Int) : Tree (AV × Hp) := .leaf (.tuple [osW 0 (Clm.lossV w l).length, vi (Clm.chk w l)], [some (rI (Clm.lossV w l))])
def c22 (args : List AV) (H : Hp) : Tree (AV × Hp) := match args, H with
  | [(.sc (.int .i64 w)), (.sl (.int .i64) l false)], [] => c22t l w
  | _, _ => .fail
theorem c22_ok {T : Tab} (hT : TabOK T) (h : ∀ (l : List Int) (w : Int) (r : AV × Hp), (c22t l w).val = some r → evBody T 22 [vi w, lI l] [] = some r) : ∀ args H v H', (c22 args H).val = some (v, H') → CallOK T 22 args H v H' := by
  intro args H v H' hv
  unfold c22 at hv
  split at hv
  · exact evBody_sound hT (h _ _ _ hv)
  · cases hv
noncomputable def T11 : Tab := ((((((T10).addCall 17 c17).addCall 19 c19).addCall 21 c21).addCall 18 c18).addCall 20 c20).addCall 22 c22
end Go.Ev.Clm
