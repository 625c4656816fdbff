/- The search of the burn chapter: what is asked. -/
import Derived.Test.YtpieoljeikpemaaDoorSf
import Derived.Test.YtpieoljeikpemaaDoorSp
set_option linter.unusedVariables false
set_option linter.unusedSimpArgs false
namespace Go.Ev.Burn
open Go Go.Ev
set_option maxRecDepth 1000000
set_option linter.unusedVariables false
theorem nf97 (size kind n : Int) (g : List Int) : evBody (S17 10) 97 [ps 0, vi size, vi kind] [some (rG n g)] = (bif decide (1 ≤ size) && decide (size < (↑10 : Int)) && decide (size ≤ 9) && decide (1 ≤ n) && decide (n ≤ 9) && decide (g.length = 81) && Brn.capOK 0 size then bif (Brn.putS n.toNat g (Brn.allN n) (kind == 2) size.toNat [] 0 0 []).snd.snd.isEmpty then some (.tuple [osW 1 0, .sc (.int .i64 (Brn.putS n.toNat g (Brn.allN n) (kind == 2) size.toNat [] 0 0 []).snd.fst)], [some ⟨[vi n, .run (.int .u64) g], true, 111, false, false, none⟩, some ⟨[.run (.int .i64) []], false, 0, false, false, none⟩]) else some (.tuple [.os 1 0 0 (Brn.putS n.toNat g (Brn.allN n) (kind == 2) size.toNat [] 0 0 []).snd.snd.length true false true, .sc (.int .i64 (Brn.putS n.toNat g (Brn.allN n) (kind == 2) size.toNat [] 0 0 []).snd.fst)], [some ⟨[vi n, .run (.int .u64) g], true, 111, false, false, none⟩, some ⟨[.run (.int .i64) (Brn.putS n.toNat g (Brn.allN n) (kind == 2) size.toNat [] 0 0 []).snd.snd], false, 3, false, false, none⟩]) else none) := by kernel_rfl
def c97t (size kind n : Int) (g : List Int) : Tree (AV × Hp) := .br (decide (1 ≤ size) && decide (size ≤ 9) && decide (1 ≤ n) && decide (n ≤ 9) && decide (g.length = 81)) (.leaf (.tuple [osW 1 (Brn.srch n g (kind == 2) size).2.length, vi (Brn.srch n g (kind == 2) size).1], [some (rG n g), some (rI (Brn.srch n g (kind == 2) size).2)])) .fail
def c97 (args : List AV) (H : Hp) : Tree (AV × Hp) := match args, H with
  | [(.ps 0 0 0 0), (.sc (.int .i64 size)), (.sc (.int .i64 kind))], [some ⟨[.sc (.int .i64 n), .run (.int .u64) g], true, 111, false, false, none⟩] => c97t size kind n g
  | _, _ => .fail
theorem c97_ok {T : Tab} (hT : TabOK T) (h : ∀ (size kind n : Int) (g : List Int) (r : AV × Hp), (c97t size kind n g).val = some r → evBody T 97 [ps 0, vi size, vi kind] [some (rG n g)] = some r) : ∀ args H v H', (c97 args H).val = some (v, H') → CallOK T 97 args H v H' := by
  intro args H v H' hv
  unfold c97 at hv
  split at hv
  · exact evBody_sound hT (h _ _ _ _ _ hv)
  · cases hv
noncomputable def S19 : Tab := (S17 10).addCall 97 c97
theorem nl78 (again : Ag) (kind size n : Int) (g : List Int) : lpStep S19 78 6 0 (lpc S19 78 6) again [vi kind, osW 0 0, vi 0, vi 0, ps 1, vi size] [some (rowI [] 0), some (rG n g)] = (bif decide (1 ≤ size) && decide (size ≤ 9) && decide (1 ≤ n) && decide (n ≤ 9) && decide (g.length = 81) then bif decide ((Brn.srch n g (kind == 2) size).fst > 0) then bif kind == 0 then some (.ret, [vi kind, .os 0 0 0 (Brn.srch n g (kind == 2) size).snd.length true false true, vi size, vi 0, .ps 1 0 0 0, vi size], [some { c := [.run (.int .i64) (Brn.srch n g (kind == 2) size).snd], vr := false, ty := Burn.tyI (Brn.srch n g (kind == 2) size).snd, fz := false, loose := false : Row }, some ⟨[vi n, .run (.int .u64) g], true, 111, false, false, none⟩]) else some (.ret, [vi kind, .os 0 0 0 (Brn.srch n g (kind == 2) size).snd.length true false true, .sc (.int .i64 (Brn.srch n g (kind == 2) size).fst), vi 0, .ps 1 0 0 0, vi size], [some { c := [.run (.int .i64) (Brn.srch n g (kind == 2) size).snd], vr := false, ty := Burn.tyI (Brn.srch n g (kind == 2) size).snd, fz := false, loose := false : Row }, some ⟨[vi n, .run (.int .u64) g], true, 111, false, false, none⟩]) else again [vi kind, osW 0 0, vi 0, vi 0, .ps 1 0 0 0, vi (IntKind.i64.wrap (size + 1))] [some ⟨[.run (.int .i64) []], false, 0, false, false, none⟩, some ⟨[vi n, .run (.int .u64) g], true, 111, false, false, none⟩] else none) := by kernel_rfl
def l78_6t (kind n : Int) (g : List Int) : Tree (Out × List AV × Hp) := .br (decide (1 ≤ n) && decide (n ≤ 9) && decide (g.length = 81) && decide (Brn.dayN n g (kind == 2) < 9)) (.leaf (.ret, [vi kind, osW 0 (Brn.srch n g (kind == 2) (Brn.dayP n g (kind == 2))).2.length, vi (Brn.askC n g kind), vi 0, ps 1, vi (Brn.dayP n g (kind == 2))], [some (rI (Brn.srch n g (kind == 2) (Brn.dayP n g (kind == 2))).2), some (rG n g)])) .fail
def l78_6 (base : Nat) (kv : List AV) (H : Hp) : Tree (Out × List AV × Hp) := match Nat.beq base 0, kv, H with
  | true, [(.sc (.int .i64 kind)), (.os 0 0 0 0 true false true), (.sc (.int .i64 0)), (.sc (.int .i64 0)), (.ps 1 0 0 0), (.sc (.int .i64 1))], [some ⟨[.run (.int .i64) []], false, 0, false, false, none⟩, some ⟨[.sc (.int .i64 n), .run (.int .u64) g], true, 111, false, false, none⟩] => l78_6t kind n g
  | _, _, _ => .fail
theorem l78_6_ok {T : Tab} (hT : TabOK T) (hlo : loopOf T.fn 78 6 = some (lpc T 78 6)) (h : ∀ (kind n : Int) (g : List Int) (r : Out × List AV × Hp), (l78_6t kind n g).val = some r → ∃ mm, lpRun T 78 6 0 (lpc T 78 6) mm [vi kind, osW 0 0, vi 0, vi 0, ps 1, vi 1] [some (rowI [] 0), some (rG n g)] = some r) : ∀ base kv H o kv' H', (l78_6 base kv H).val = some (o, kv', H') → LoopOK T 78 6 base kv H o kv' H' := by
  intro base kv H o kv' H' hv
  unfold l78_6 at hv
  split at hv
  · rename_i hb
    obtain rfl := Nat.eq_of_beq_eq_true hb
    exact loop_ok hT hlo (h _ _ _ _ hv)
  · cases hv
noncomputable def R0x : Tab := S19
noncomputable def S20 : Tab := (R0x).addLoop 78 6 l78_6
theorem nf78 (n : Int) (ws : Ws) (kind : Int) : evBody S20 78 [aH n ws, vi kind] [] = (bif sm ws && sm ([] : List Int) then bif Brn.openErr n ws [] == 0 then bif decide (1 ≤ n) && decide (n ≤ 9) && decide ((Brn.ground n ws).length = 81) && decide (Brn.dayN n (Brn.ground n ws) (kind == 2) < 9) then some (.tuple [.os 0 0 0 (Brn.srch n (Brn.ground n ws) (kind == 2) (Brn.dayP n (Brn.ground n ws) (kind == 2))).snd.length true false true, vi (Brn.askC n (Brn.ground n ws) kind), vi 0], [some ⟨[.run (.int .i64) (Brn.srch n (Brn.ground n ws) (kind == 2) (Brn.dayP n (Brn.ground n ws) (kind == 2))).snd], false, Burn.tyI (Brn.srch n (Brn.ground n ws) (kind == 2) (Brn.dayP n (Brn.ground n ws) (kind == 2))).snd, false, false, none⟩]) else none else bif Brn.openErr n ws [] != 0 then some (.tuple [osW 0 0, vi 0, vi (Brn.openErr n ws [])], [some ⟨[.run (.int .i64) []], false, 0, false, false, none⟩]) else none else none) := by kernel_rfl
def c78t (n kind : Int) (ws : Ws) : Tree (AV × Hp) := .br (sm ws) (.leaf (.tuple [osW 0 (Brn.fewV n ws).length, vi (Brn.askV n ws kind), vi (Brn.chk n ws)], [some (rI (Brn.fewV n ws))])) .fail
def c78 (args : List AV) (H : Hp) : Tree (AV × Hp) := match args, H with
  | [(.agg [.sc (.int .i64 n), .sl (.pair .i64) ws false] false), (.sc (.int .i64 kind))], [] => c78t n kind ws
  | _, _ => .fail
theorem c78_ok {T : Tab} (hT : TabOK T) (h : ∀ (n kind : Int) (ws : Ws) (r : AV × Hp), (c78t n kind ws).val = some r → evBody T 78 [aH n ws, vi kind] [] = some r) : ∀ args H v H', (c78 args H).val = some (v, H') → CallOK T 78 args H v H' := by
  intro args H v H' hv
  unfold c78 at hv
  split at hv
  · exact evBody_sound hT (h _ _ _ _ hv)
  · cases hv
noncomputable def S21 : Tab := (S20).addCall 78 c78
theorem nf29 (n : Int) (ws : Ws) : evBody S21 29 [aH n ws] [] = (bif sm ws then some (.tuple [vi (Brn.askV n ws 0), vi (Brn.chk n ws)], []) else none) := by kernel_rfl
def c29t (n : Int) (ws : Ws) : Tree (AV × Hp) := .br (sm ws) (.leaf (.tuple [vi (Brn.dayV n ws), vi (Brn.chk n ws)], [])) .fail
def c29 (args : List AV) (H : Hp) : Tree (AV × Hp) := match args, H with
  | [(.agg [.sc (.int .i64 n), .sl (.pair .i64) ws false] false)], [] => c29t n ws
  | _, _ => .fail
theorem c29_ok {T : Tab} (hT : TabOK T) (h : ∀ (n : Int) (ws : Ws) (r : AV × Hp), (c29t n ws).val = some r → evBody T 29 [aH n ws] [] = some r) : ∀ args H v H', (c29 args H).val = some (v, H') → CallOK T 29 args H v H' := by
  intro args H v H' hv
  unfold c29 at hv
  split at hv
  · exact evBody_sound hT (h _ _ _ hv)
  · cases hv
noncomputable def S22 : Tab := (S21).addCall 29 c29
end Go.Ev.Burn
namespace Go.Ev.Burn
open Go Go.Ev
set_option maxRecDepth 1000000
set_option linter.unusedVariables false
set_option linter.unusedSimpArgs false
theorem pow9_le {l : Nat} (h : l ≤ 9) : 9 ^ l ≤ 387420489 := Nat.le_trans (Nat.pow_le_pow_right (by omega) h) (by decide)
theorem capS {size : Int} (h1 : 1 ≤ size) (h9 : size ≤ 9) : Brn.capOK 0 size = true := by
  unfold Brn.capOK
  have := pow9_le (l := size.toNat) (by omega)
  rw [decide_eq_true (by omega), decide_eq_true (by omega)]
  rfl
theorem c97_run : ∀ args H v H', (c97 args H).val = some (v, H') → CallOK (S17 10) 97 args H v H' := c97_ok (S17_ok 10) (by
  intro size kind n g r hv
  obtain ⟨hl, hv⟩ := guard_val hv
  simp only [Bool.and_eq_true, decide_eq_true_eq] at hl
  obtain ⟨⟨⟨⟨a1, a2⟩, a3⟩, a4⟩, a5⟩ := hl
  rw [leaf_val hv, nf97]
  simp only [decide_eq_true a1, decide_eq_true a2, decide_eq_true a3, decide_eq_true a4, decide_eq_true a5, decide_eq_true (show size < 10 by omega), capS a1 a2, Bool.and_self, cond_true]
  unfold Brn.srch
  generalize (Brn.putS n.toNat g (Brn.allN n) (kind == 2) size.toNat [] 0 0 []).2 = s
  obtain ⟨c, f⟩ := s
  cases f <;> rfl)
theorem S19_ok : TabOK S19 := (S17_ok 10).addCall fun a H v H' hv => by refine CallOK.tab ?_ ?_ (c97_run a H v H' hv) <;> rfl
end Go.Ev.Burn
namespace Go.Ev.Burn
open Go Go.Ev
set_option maxRecDepth 1000000
set_option linter.unusedVariables false
set_option linter.unusedSimpArgs false
theorem R0x_ok : TabOK R0x := S19_ok
theorem l78_6_run : ∀ base kv H o kv' H', (l78_6 base kv H).val = some (o, kv', H') → LoopOK R0x 78 6 base kv H o kv' H' := by
  have h : ∀ base kv H o kv' H', (l78_6 base kv H).val = some (o, kv', H') → LoopOK S19 78 6 base kv H o kv' H' := l78_6_ok S19_ok (by kernel_rfl) (by
    intro kind n g r hv
    obtain ⟨hl, hv⟩ := guard_val hv
    simp only [Bool.and_eq_true, decide_eq_true_eq] at hl
    obtain ⟨⟨⟨a1, a2⟩, a3⟩, a4⟩ := hl
    obtain ⟨m, hm⟩ := lpRun_of (T := S19) (fid := 78) (lid := 6) (base := 0) (c := lpc S19 78 6) (fun k : Nat => k ≤ Brn.dayN n g (kind == 2))
      (fun k => [vi kind, osW 0 0, vi 0, vi 0, ps 1, vi ((k + 1 : Nat) : Int)]) (fun _ => [some (rowI [] 0), some (rG n g)])
      (fun _ => (.ret, [vi kind, osW 0 (Brn.srch n g (kind == 2) (Brn.dayP n g (kind == 2))).2.length, vi (Brn.askC n g kind), vi 0, ps 1, vi (Brn.dayP n g (kind == 2))], [some (rI (Brn.srch n g (kind == 2) (Brn.dayP n g (kind == 2))).2), some (rG n g)]))
      (fun k => 10 - k)
      (fun k hk again => by
        have step : lpStep S19 78 6 0 (lpc S19 78 6) again [vi kind, osW 0 0, vi 0, vi 0, ps 1, vi ((k + 1 : Nat) : Int)] [some (rowI [] 0), some (rG n g)] =
            bif decide ((Brn.srch n g (kind == 2) ((k + 1 : Nat) : Int)).1 > 0) then some (.ret, [vi kind, osW 0 (Brn.srch n g (kind == 2) ((k + 1 : Nat) : Int)).2.length, .sc (.int .i64 (bif kind == 0 then ((k + 1 : Nat) : Int) else (Brn.srch n g (kind == 2) ((k + 1 : Nat) : Int)).1)), vi 0, ps 1, vi ((k + 1 : Nat) : Int)], [some (rI (Brn.srch n g (kind == 2) ((k + 1 : Nat) : Int)).2), some (rG n g)])
            else again [vi kind, osW 0 0, vi 0, vi 0, ps 1, vi ((k + 1 + 1 : Nat) : Int)] [some (rowI [] 0), some (rG n g)] := by
          rw [nl78]
          simp only [decide_eq_true a1, decide_eq_true a2, decide_eq_true a3, decide_eq_true (show 1 ≤ ((k + 1 : Nat) : Int) by omega), decide_eq_true (show ((k + 1 : Nat) : Int) ≤ 9 by omega), Bool.and_self, cond_true]
          rw [wrap_succ (by omega)]
          cases kind == 0 <;> rfl
        rw [step]
        by_cases he : k = Brn.dayN n g (kind == 2)
        · have := List.findIdx_getElem (xs := List.range 9) (p := fun (k : Nat) => decide ((Brn.srch n g (kind == 2) ((k + 1 : Nat) : Int)).1 > 0)) (w := by rw [List.length_range]; exact a4)
          simp only [List.getElem_range] at this
          have ek : ((k + 1 : Nat) : Int) = Brn.dayP n g (kind == 2) := by rw [he]; rfl
          have hd : decide ((Brn.srch n g (kind == 2) (Brn.dayP n g (kind == 2))).1 > 0) = true := this
          left
          rw [ek, hd]
          rfl
        · refine .inr ⟨k + 1, by omega, by omega, rfl, ?_⟩
          have := List.not_of_lt_findIdx (xs := List.range 9) (p := fun (k : Nat) => decide ((Brn.srch n g (kind == 2) ((k + 1 : Nat) : Int)).1 > 0)) (i := k) (show k < Brn.dayN n g (kind == 2) by omega)
          simp only [List.getElem_range] at this
          rw [this]
          rfl) 0 (Nat.zero_le _)
    refine ⟨m, hm.trans ?_⟩
    rw [leaf_val hv])
  exact fun b k H o k' H' hv => by refine LoopOK.tab ?_ ?_ ?_ ?_ (h b k H o k' H' hv) <;> rfl
theorem S20_ok : TabOK S20 := by
  have h := R0x_ok
  have h := h.addLoop (g := 78) (lid := 6) (r := l78_6) fun b k H o k' H' hv => by refine LoopOK.tab ?_ ?_ ?_ ?_ (l78_6_run b k H o k' H' hv) <;> rfl
  exact h
theorem place_nil (n : Int) (ws : Ws) : Brn.openErr n ws [] = Brn.chk n ws := by
  rw [Brn.openErr_eq]
  unfold Brn.placeErr
  cases h : Brn.chk n ws == 0 with
  | true => simp at h; simp [h]
  | false => rfl
theorem c78_run : ∀ args H v H', (c78 args H).val = some (v, H') → CallOK S20 78 args H v H' := c78_ok S20_ok (by
  intro n kind ws r hv
  obtain ⟨hws, hv⟩ := guard_val hv
  rw [leaf_val hv, nf78, place_nil, hws, show sm ([] : List Int) = true from rfl]
  unfold Brn.fewV Brn.askV
  cases hc : Brn.chk n ws == 0 with
  | false =>
    rw [show (Brn.chk n ws != 0) = true by simp [bne, hc]]
    rfl
  | true =>
    have h0 : Brn.chk n ws = 0 := by simpa using hc
    have hOk := Brn.ok_of h0
    have h1 := hOk.lo
    have h9 := hOk.hi
    obtain ⟨d1, d2, d3, _⟩ := Brn.dd_spec hOk
    obtain ⟨e1, e2⟩ := Brn.asked_eq hOk kind
    have e3 := (Brn.dayN_eq hOk (kind == 2)).1
    rw [e3, e1, e2, h0]
    simp only [decide_eq_true h1, decide_eq_true h9, decide_eq_true (Brn.ground_len n ws), decide_eq_true (show Brn.dd n ws - 1 < 9 by omega), Bool.and_self, cond_true])
theorem S21_ok : TabOK S21 := by
  have h := S20_ok
  have h := h.addCall (g := 78) (r := c78) fun a H v H' hv => by refine CallOK.tab ?_ ?_ (c78_run a H v H' hv) <;> rfl
  exact h
theorem c29_run : ∀ args H v H', (c29 args H).val = some (v, H') → CallOK S21 29 args H v H' := c29_ok S21_ok (by
  intro n ws r hv
  obtain ⟨hws, hv⟩ := guard_val hv
  rw [leaf_val hv, nf29, hws]
  rfl)
theorem S22_ok : TabOK S22 := by
  have h := S21_ok
  have h := h.addCall (g := 29) (r := c29) fun a H v H' hv => by refine CallOK.tab ?_ ?_ (c29_run a H v H' hv) <;> rfl
  exact h
end Go.Ev.Burn
