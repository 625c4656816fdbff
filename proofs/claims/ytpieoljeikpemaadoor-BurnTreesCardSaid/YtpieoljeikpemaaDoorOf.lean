/- Fires that are enough, by distances: tables and normal forms. -/
import Derived.Test.YtpieoljeikpemaaDoorOc
import Derived.Test.YtpieoljeikpemaaDoorOd
import Derived.Test.YtpieoljeikpemaaDoorRs
set_option linter.unusedVariables false
set_option linter.unusedSimpArgs false
namespace Go.Ev.Burn
open Go Go.Ev
set_option maxRecDepth 1000000
set_option linter.unusedVariables false
theorem nl51_6 (again : Ag) (n p u k i m : Int) (is : Bool) (fs d : List Int) : lpStep N0 51 6 0 (lpc N0 51 6) again [lI fs, ps 0, vi p, vb is, vi n, vi u, lI fs, vi k, vi i] [some (rD d)] = (bif decide (i < k) then bif decide (0 ≤ i) then bif decide (i < (↑fs.length : Int)) then oM fs[i.toNat]? fun x => bif is then again [.sl (.int .i64) fs false, .ps 0 0 0 0, vi p, vb true, vi n, vi u, .sl (.int .i64) fs false, vi k, vi (IntKind.i64.wrap (i + 1))] [some ⟨[.run (.int .i64) d], true, 74, false, false, none⟩] else bif decide (0 ≤ p) then bif decide (p < (↑9 : Int)) then bif decide (0 ≤ x) then bif decide (x < (↑9 : Int)) then oM d[Int.toNat x + p.toNat * 9]? fun x => again [.sl (.int .i64) fs false, .ps 0 0 0 0, vi p, .sc (.bool (decide (x ≤ IntKind.i64.wrap (IntKind.i64.wrap ((↑fs.length : Int) - 1) - i)))), vi n, vi u, .sl (.int .i64) fs false, vi k, vi (IntKind.i64.wrap (i + 1))] [some ⟨[.run (.int .i64) d], true, 74, false, false, none⟩] else none else none else none else none else none else none else some (.ext 2, [.sl (.int .i64) fs false, .ps 0 0 0 0, vi p, vb is, vi n, vi u, .sl (.int .i64) fs false, vi k, vi i], [some ⟨[.run (.int .i64) d], true, 74, false, false, none⟩])) := by kernel_rfl
def l51_6t (n p u k : Int) (fs f2 d : List Int) : Tree (Out × List AV × Hp) := .br (decide (f2 = fs) && decide (k = fs.length) && sm fs && Brn.in9 fs && decide (d.length = 81) && decide (0 ≤ p) && decide (p < 9)) (.leaf (.ext 2, [lI fs, ps 0, vi p, vb (Brn.enD d fs p.toNat), vi n, vi u, lI f2, vi k, vi k], [some (rD d)])) .fail
def l51_6 (base : Nat) (kv : List AV) (H : Hp) : Tree (Out × List AV × Hp) := match Nat.beq base 0, kv, H with
  | true, [(.sl (.int .i64) fs false), (.ps 0 0 0 0), (.sc (.int .i64 p)), (.sc (.bool false)), (.sc (.int .i64 n)), (.sc (.int .i64 u)), (.sl (.int .i64) f2 false), (.sc (.int .i64 k)), (.sc (.int .i64 0))], [some ⟨[.run (.int .i64) d], true, 74, false, false, none⟩] => l51_6t n p u k fs f2 d
  | _, _, _ => .fail
theorem l51_6_ok {T : Tab} (hT : TabOK T) (hlo : loopOf T.fn 51 6 = some (lpc T 51 6)) (h : ∀ (n p u k : Int) (fs f2 d : List Int) (r : Out × List AV × Hp), (l51_6t n p u k fs f2 d).val = some r → ∃ mm, lpRun T 51 6 0 (lpc T 51 6) mm [lI fs, ps 0, vi p, vb false, vi n, vi u, lI f2, vi k, vi 0] [some (rD d)] = some r) : ∀ base kv H o kv' H', (l51_6 base kv H).val = some (o, kv', H') → LoopOK T 51 6 base kv H o kv' H' := by
  intro base kv H o kv' H' hv
  unfold l51_6 at hv
  split at hv
  · rename_i hb
    obtain rfl := Nat.eq_of_beq_eq_true hb
    exact loop_ok hT hlo (h _ _ _ _ _ _ _ _ hv)
  · cases hv
noncomputable def E1 : Tab := (N0).addLoop 51 6 l51_6
theorem nl51_2 (again : Ag) (n p : Int) (fs d : List Int) : lpStep E1 51 2 0 (lpc E1 51 2) again [lI fs, ps 0, vb false, vi n, vi p] [some (rD d)] = (bif decide (p < n) then bif decide (fs = fs) && decide ((↑fs.length : Int) = (↑fs.length : Int)) && sm fs && Brn.in9 fs && decide (d.length = 81) && decide (0 ≤ p) && decide (p < 9) then bif !Brn.enD d fs p.toNat then some (.ret, [.sl (.int .i64) fs false, .ps 0 0 0 0, vb false, vi n, vi p], [some ⟨[.run (.int .i64) d], true, 74, false, false, none⟩]) else again [.sl (.int .i64) fs false, .ps 0 0 0 0, .dead, vi n, vi (IntKind.i64.wrap (p + 1))] [some ⟨[.run (.int .i64) d], true, 74, false, false, none⟩] else none else some (.ext 0, [.sl (.int .i64) fs false, .ps 0 0 0 0, vb false, vi n, vi p], [some ⟨[.run (.int .i64) d], true, 74, false, false, none⟩])) := by kernel_rfl
theorem nl51_2d (again : Ag) (n p : Int) (fs d : List Int) : lpStep E1 51 2 0 (lpc E1 51 2) again [lI fs, ps 0, .dead, vi n, vi p] [some (rD d)] = (bif decide (p < n) then bif decide (fs = fs) && decide ((↑fs.length : Int) = (↑fs.length : Int)) && sm fs && Brn.in9 fs && decide (d.length = 81) && decide (0 ≤ p) && decide (p < 9) then bif !Brn.enD d fs p.toNat then some (.ret, [.sl (.int .i64) fs false, .ps 0 0 0 0, vb false, vi n, vi p], [some ⟨[.run (.int .i64) d], true, 74, false, false, none⟩]) else again [.sl (.int .i64) fs false, .ps 0 0 0 0, .dead, vi n, vi (IntKind.i64.wrap (p + 1))] [some ⟨[.run (.int .i64) d], true, 74, false, false, none⟩] else none else some (.ext 0, [.sl (.int .i64) fs false, .ps 0 0 0 0, .dead, vi n, vi p], [some ⟨[.run (.int .i64) d], true, 74, false, false, none⟩])) := by kernel_rfl
def l51_2t (n : Int) (fs d : List Int) : Tree (Out × List AV × Hp) := .br (sm fs && Brn.in9 fs && decide (d.length = 81) && decide (1 ≤ n) && decide (n ≤ 9)) (.br (Brn.enoughD n d fs) (.leaf (.ext 0, [lI fs, ps 0, .dead, vi n, vi n], [some (rD d)])) (.leaf (.ret, [lI fs, ps 0, vb false, vi n, vi ((List.range n.toNat).findIdx fun p => !Brn.enD d fs p)], [some (rD d)]))) .fail
def l51_2 (base : Nat) (kv : List AV) (H : Hp) : Tree (Out × List AV × Hp) := match Nat.beq base 0, kv, H with
  | true, [(.sl (.int .i64) fs false), (.ps 0 0 0 0), (.sc (.bool false)), (.sc (.int .i64 n)), (.sc (.int .i64 0))], [some ⟨[.run (.int .i64) d], true, 74, false, false, none⟩] => l51_2t n fs d
  | _, _, _ => .fail
theorem l51_2_ok {T : Tab} (hT : TabOK T) (hlo : loopOf T.fn 51 2 = some (lpc T 51 2)) (h : ∀ (n : Int) (fs d : List Int) (r : Out × List AV × Hp), (l51_2t n fs d).val = some r → ∃ mm, lpRun T 51 2 0 (lpc T 51 2) mm [lI fs, ps 0, vb false, vi n, vi 0] [some (rD d)] = some r) : ∀ base kv H o kv' H', (l51_2 base kv H).val = some (o, kv', H') → LoopOK T 51 2 base kv H o kv' H' := by
  intro base kv H o kv' H' hv
  unfold l51_2 at hv
  split at hv
  · rename_i hb
    obtain rfl := Nat.eq_of_beq_eq_true hb
    exact loop_ok hT hlo (h _ _ _ _ hv)
  · cases hv
noncomputable def E2 : Tab := (E1).addLoop 51 2 l51_2
theorem nf51 (n : Int) (fs d : List Int) : evBody E2 51 [vi n, .agg [.run (.int .i64) d] false, lI fs] [] = (bif decide (List.map (fun (x : AV) => match x with | .run e l => l.length * e.size | _ => 1) [.run (.int .i64) d] = List.map (fun (x : AV) => match x with | .run e l => l.length * e.size | _ => 1) ((some [.run (.int .i64) (List.replicate 81 0)]).getD [])) then bif sm fs && Brn.in9 fs && decide (d.length = 81) && decide (1 ≤ n) && decide (n ≤ 9) then bif Brn.enoughD n d fs then some (vb true, []) else some (vb false, []) else none else none) := by kernel_rfl
def c51t (n : Int) (fs d : List Int) : Tree (AV × Hp) := .br (sm fs && Brn.in9 fs && decide (d.length = 81) && decide (1 ≤ n) && decide (n ≤ 9)) (.leaf (vb (Brn.enoughD n d fs), [])) .fail
def c51 (args : List AV) (H : Hp) : Tree (AV × Hp) := match args, H with
  | [(.sc (.int .i64 n)), .agg [.run (.int .i64) d] false, (.sl (.int .i64) fs false)], [] => c51t n fs d
  | _, _ => .fail
theorem c51_ok {T : Tab} (hT : TabOK T) (h : ∀ (n : Int) (fs d : List Int) (r : AV × Hp), (c51t n fs d).val = some r → evBody T 51 [vi n, .agg [.run (.int .i64) d] false, lI fs] [] = some r) : ∀ args H v H', (c51 args H).val = some (v, H') → CallOK T 51 args H v H' := by
  intro args H v H' hv
  unfold c51 at hv
  split at hv
  · exact evBody_sound hT (h _ _ _ _ hv)
  · cases hv
end Go.Ev.Burn
namespace Go.Ev.Burn
open Go Go.Ev
set_option maxRecDepth 1000000
set_option linter.unusedVariables false
set_option linter.unusedSimpArgs false
theorem in9_get {fs : List Int} (h : Brn.in9 fs = true) : ∀ x ∈ fs, 0 ≤ x ∧ x < 9 := by
  unfold Brn.in9 at h
  simpa only [List.all_eq_true, Bool.and_eq_true, decide_eq_true_eq] using h
theorem any_snoc (p : Nat → Bool) (i : Nat) : (List.range (i + 1)).any p = ((List.range i).any p || p i) := by
  rw [List.range_succ, List.any_append]; simp
theorem l51_6_run : ∀ base kv H o kv' H', (l51_6 base kv H).val = some (o, kv', H') → LoopOK N0 51 6 base kv H o kv' H' := l51_6_ok N0_ok (by kernel_rfl) (by
  intro n p u k fs f2 d r hv
  obtain ⟨hl, hv2⟩ := guard_val hv
  simp only [Bool.and_eq_true, decide_eq_true_eq] at hl
  obtain ⟨⟨⟨⟨⟨⟨rfl, rfl⟩, hs⟩, hin⟩, hd⟩, hp0⟩, hp9⟩ := hl
  have hs := sm_le hs
  have hin := in9_get hin
  obtain ⟨p, rfl⟩ := Int.eq_ofNat_of_zero_le hp0
  rw [toNat_cast] at hv2
  obtain ⟨mm, hm⟩ := steps_of (T := N0) (fid := 51) (lid := 6) (base := 0) (c := lpc N0 51 6) f2.length (fun i => [lI f2, ps 0, vi p, vb ((List.range i).any fun (i : Nat) => decide (Brn.at9 d p (f2.getD i 0).toNat ≤ (f2.length : Int) - 1 - i)), vi n, vi u, lI f2, vi f2.length, vi (i : Nat)]) (fun _ => [some (rD d)])
    (.ext 2, [lI f2, ps 0, vi p, vb (Brn.enD d f2 p), vi n, vi u, lI f2, vi f2.length, vi f2.length], [some (rD d)])
    (fun i hi again => by
      obtain ⟨x, hx, hxm⟩ : ∃ x, f2[i]? = some x ∧ x ∈ f2 := ⟨f2[i], List.getElem?_eq_getElem hi, List.getElem_mem hi⟩
      obtain ⟨x0, x9⟩ := hin x hxm
      obtain ⟨x, rfl⟩ := Int.eq_ofNat_of_zero_le x0
      have hgd : f2.getD i 0 = (x : Int) := by rw [List.getD_eq_getElem?_getD, hx]; rfl
      have hat : d[x + p * 9]? = some (Brn.at9 d p x) := by
        unfold Brn.at9
        rw [List.getD_eq_getElem?_getD, List.getElem?_eq_getElem (by omega)]; rfl
      rw [nl51_6 (m := 0), any_snoc]
      generalize (List.range i).any (fun (i : Nat) => decide (Brn.at9 d p (f2.getD i 0).toNat ≤ (f2.length : Int) - 1 - i)) = is
      simp only [dec_lt hi, dec_ge, cond_true, toNat_cast, hx, oM, hgd, hat, decide_eq_true (show (p : Int) < ((9 : Nat) : Int) by omega), decide_eq_true (show (p : Int) < 9 by omega), decide_eq_true (show (x : Int) < ((9 : Nat) : Int) by omega), decide_eq_true (show (x : Int) < 9 by omega)]
      rw [wrapi (x := (f2.length : Int) - 1) (by omega) (by omega), wrapi (x := (f2.length : Int) - 1 - i) (by omega) (by omega), wrap_succ (by omega)]
      cases is with
      | true => simp only [cond_true, Bool.true_or]
      | false => simp only [cond_false, Bool.false_or])
    (fun again => by
      rw [nl51_6 (m := 0)]
      simp only [dec_ll, cond_false]
      rfl)
  exact ⟨mm, hm.trans (by rw [leaf_val hv2])⟩)
theorem E1_ok : TabOK E1 := N0_ok.addLoop fun b k H o k' H' hv => by refine LoopOK.tab ?_ ?_ ?_ ?_ (l51_6_run b k H o k' H' hv) <;> rfl
def dzE (i : Nat) : AV := match i with
  | 0 => vb false
  | _ => .dead
theorem nl51_2z (again : Ag) (n p : Int) (fs d : List Int) (j : Nat) (hp : p < n) : lpStep E1 51 2 0 (lpc E1 51 2) again [lI fs, ps 0, dzE j, vi n, vi p] [some (rD d)] = lpStep E1 51 2 0 (lpc E1 51 2) again [lI fs, ps 0, .dead, vi n, vi p] [some (rD d)] := by
  cases j with
  | succ j => rfl
  | zero =>
    show lpStep E1 51 2 0 (lpc E1 51 2) again [lI fs, ps 0, vb false, vi n, vi p] [some (rD d)] = _
    rw [nl51_2, nl51_2d, decide_eq_true hp]
    rfl
theorem l51_2_run : ∀ base kv H o kv' H', (l51_2 base kv H).val = some (o, kv', H') → LoopOK E1 51 2 base kv H o kv' H' := l51_2_ok E1_ok (by kernel_rfl) (by
  intro n fs d r hv
  obtain ⟨hl, hv2⟩ := guard_val hv
  simp only [Bool.and_eq_true, decide_eq_true_eq] at hl
  obtain ⟨⟨⟨⟨hs, hin⟩, hd⟩, h1⟩, h9⟩ := hl
  obtain ⟨n, rfl⟩ := Int.eq_ofNat_of_zero_le (show 0 ≤ n by omega)
  unfold Brn.enoughD at hv2
  rw [toNat_cast] at hv2
  -- the first place that is not near enough
  have step : ∀ (i : Nat) (again : Ag), i < n → lpStep E1 51 2 0 (lpc E1 51 2) again [lI fs, ps 0, dzE i, vi n, vi (i : Nat)] [some (rD d)] = bif !Brn.enD d fs i then some (.ret, [lI fs, ps 0, vb false, vi n, vi (i : Nat)], [some (rD d)]) else again [lI fs, ps 0, dzE (i + 1), vi n, vi ((i + 1 : Nat) : Int)] [some (rD d)] := fun i again hi => by
    rw [nl51_2z again n (i : Nat) fs d i (by omega), nl51_2d]
    simp only [dec_lt hi, dec_ge, cond_true, toNat_cast, hs, hin, decide_eq_true hd, decide_eq_true (show (i : Int) < 9 by omega), decide_true, Bool.and_self]
    rw [wrap_succ (by omega)]
    rfl
  have last : ∀ again : Ag, lpStep E1 51 2 0 (lpc E1 51 2) again [lI fs, ps 0, .dead, vi n, vi n] [some (rD d)] = some (.ext 0, [lI fs, ps 0, .dead, vi n, vi n], [some (rD d)]) := fun again => by
    rw [nl51_2d]
    simp only [dec_ll, cond_false]
  have main : ∀ (k i : Nat), i + k = n → ∃ m, lpRun E1 51 2 0 (lpc E1 51 2) m [lI fs, ps 0, dzE i, vi n, vi (i : Nat)] [some (rD d)] = some (bif (List.range' i k).all (Brn.enD d fs) then (.ext 0, [lI fs, ps 0, dzE n, vi n, vi n], [some (rD d)]) else (.ret, [lI fs, ps 0, vb false, vi n, vi ((i + (List.range' i k).findIdx fun p => !Brn.enD d fs p : Nat) : Int)], [some (rD d)])) := by
    intro k
    induction k with
    | zero =>
      intro i hk
      obtain rfl : i = n := by omega
      have hz : dzE i = .dead := by cases i with
        | zero => omega
        | succ i => rfl
      exact ⟨1, by rw [hz]; exact last _⟩
    | succ k ih =>
      intro i hk
      obtain ⟨m, hm⟩ := ih (i + 1) (by omega)
      refine ⟨m + 1, ?_⟩
      show lpStep E1 51 2 0 (lpc E1 51 2) (lpRun E1 51 2 0 (lpc E1 51 2) m) _ _ = _
      rw [step i _ (by omega), hm, List.range'_succ, List.all_cons, List.findIdx_cons]
      cases he : Brn.enD d fs i with
      | true =>
        simp only [Bool.not_true, cond_false, Bool.true_and]
        rw [show i + 1 + (List.range' (i + 1) k).findIdx (fun p => !Brn.enD d fs p) = i + ((List.range' (i + 1) k).findIdx (fun p => !Brn.enD d fs p) + 1) by omega]
      | false => rfl
  obtain ⟨m, hm⟩ := main n 0 (by omega)
  rw [← List.range_eq_range'] at hm
  refine ⟨m, hm.trans ?_⟩
  have hz : dzE n = .dead := by cases n with
    | zero => omega
    | succ i => rfl
  rcases br_val hv2 with ⟨h, hv⟩ | ⟨h, hv⟩
  · rw [h, leaf_val hv, hz]; rfl
  · rw [h, leaf_val hv, Nat.zero_add]; rfl)
theorem E2_ok : TabOK E2 := E1_ok.addLoop fun b k H o k' H' hv => by refine LoopOK.tab ?_ ?_ ?_ ?_ (l51_2_run b k H o k' H' hv) <;> rfl
theorem c51_run : ∀ args H v H', (c51 args H).val = some (v, H') → CallOK E2 51 args H v H' := c51_ok E2_ok (by
  intro n fs d r hv
  obtain ⟨hl, hv2⟩ := guard_val hv
  rw [nf51, hl]
  refine (cond_t ?_).trans ?_
  · refine decide_eq_true ?_
    simp only [Bool.and_eq_true, decide_eq_true_eq] at hl
    show ([d.length * 1] : List Nat) = _
    rw [hl.1.1.2]
    kernel_rfl
  · rw [leaf_val hv2]
    cases Brn.enoughD n d fs <;> rfl)
end Go.Ev.Burn
