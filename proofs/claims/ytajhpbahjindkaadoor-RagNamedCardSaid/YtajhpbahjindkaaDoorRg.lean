/- The reference's bags: walked. -/
import Derived.Test.YtajhpbahjindkaaDoorRe
import Derived.Test.YtajhpbahjindkaaDoorRf
set_option linter.unusedVariables false
set_option linter.unusedSimpArgs false
namespace Rgg
open Go
instance : LawfulBEq ByteArray where
  eq_of_beq {a b} h := by
    apply ByteArray.ext
    cases a; cases b
    exact eq_of_beq h
  rfl {a} := by
    cases a with
    | mk d => exact beq_self_eq_true d
theorem bts_len (s : ByteArray) : (bts s).length = s.size := by
  show s.data.toList.length = _
  rw [Array.length_toList]; rfl
theorem ba_get (s : ByteArray) (i : Nat) : s[i]? = (bts s)[i]? := by
  by_cases h : i < s.size
  · rw [List.getElem?_eq_getElem (by rw [bts_len]; exact h), getElem?_pos s i h]
    rfl
  · rw [List.getElem?_eq_none (by rw [bts_len]; omega), getElem?_neg s i h]
theorem ba_app (l : List UInt8) (a : ByteArray) (i : Nat) (x : UInt8) (hx : (bts a)[i]? = some x) : (⟨l.toArray⟩ : ByteArray) ++ a.extract i (i + 1) = ⟨(l ++ [x]).toArray⟩ := by
  apply ByteArray.ext
  rw [ByteArray.data_append, ByteArray.data_extract]
  apply Array.ext'
  have hi : i < a.data.toList.length := by
    rcases Nat.lt_or_ge i a.data.toList.length with c | c
    · exact c
    · have := List.getElem?_eq_none c
      rw [show (bts a)[i]? = a.data.toList[i]? from rfl, this] at hx
      cases hx
  rw [Array.toList_append, Array.toList_extract]
  show l ++ (List.extract a.data.toList i (i + 1)) = l ++ [x]
  congr 1
  rw [List.extract_eq_take_drop, Nat.add_sub_cancel_left, List.drop_eq_getElem_cons hi]
  have := List.getElem?_eq_getElem hi
  rw [show (bts a)[i]? = a.data.toList[i]? from rfl, this] at hx
  cases hx
  rfl
def cmT (a b : ByteArray) (i : Nat) : ByteArray := ⟨(((bts a).take i).filter fun c => win b c).toArray⟩
theorem cmT_size (a b : ByteArray) (i : Nat) : (cmT a b i).size ≤ i := by
  show (cmT a b i).data.size ≤ i
  show (((bts a).take i).filter fun c => win b c).toArray.size ≤ i
  rw [List.size_toArray]
  exact Nat.le_trans (List.length_filter_le _ _) (by rw [List.length_take]; omega)
theorem cmT_end (a b : ByteArray) : cmT a b a.size = cmS a b := by
  unfold cmT cmS
  rw [List.take_of_length_le (by rw [bts_len]; exact Nat.le_refl _)]
theorem cmT_succ {a b : ByteArray} {i : Nat} {x : UInt8} (hx : (bts a)[i]? = some x) : cmT a b (i + 1) = bif win b x then cmT a b i ++ a.extract i (i + 1) else cmT a b i := by
  unfold cmT
  rw [List.take_add_one, hx, List.filter_append]
  cases h : win b x with
  | true => rw [cond_true, ba_app _ a i x hx]; simp [h]
  | false => simp [h]
theorem szs_get {l : List ByteArray} (h : szs l = true) {x : ByteArray} (hx : x ∈ l) : x.size ≤ 100000 := of_decide_eq_true (List.all_eq_true.1 h x hx)
theorem setsL_len {K : Int} (h1 : 1 ≤ K) (h5 : K ≤ 5) : (setsL K).length ≤ 32 := by
  have : K = 1 ∨ K = 2 ∨ K = 3 ∨ K = 4 ∨ K = 5 := by omega
  rcases this with rfl | rfl | rfl | rfl | rfl <;> decide
theorem filt_succ (P : ByteArray → Bool) {l : List ByteArray} {i : Nat} {x : ByteArray} (hx : l[i]? = some x) : (l.take (i + 1)).filter P = bif P x then (l.take i).filter P ++ [x] else (l.take i).filter P := by
  rw [List.take_add_one, hx, List.filter_append]
  cases h : P x <;> simp [h]
theorem filt_len (P : ByteArray → Bool) (l : List ByteArray) (i : Nat) : ((l.take i).filter P).length ≤ i := Nat.le_trans (List.length_filter_le _ _) (by rw [List.length_take]; omega)
end Rgg
namespace Go.Ev
open Go
theorem found_of {T : Tab} {fid lid base : Nat} {c : Code} {β : Type} (l : List β) (P : β → Bool) (S : Int → List AV) (H : Hp) (R : Nat → Out × List AV × Hp) (E : Out × List AV × Hp)
    (h : ∀ (i : Nat) x, l[i]? = some x → i < l.length → ∀ again : List AV → Hp → Option (Out × List AV × Hp), lpStep T fid lid base c again (S i) H = bif P x then some (R i) else again (S ((i + 1 : Nat) : Int)) H)
    (he : ∀ again : List AV → Hp → Option (Out × List AV × Hp), lpStep T fid lid base c again (S (l.length : Nat)) H = some E) :
    ∃ m, lpRun T fid lid base c m (S 0) H = some (bif l.any P then R (l.findIdx P) else E) := by
  obtain ⟨m, hm⟩ := pick_of (T := T) (fid := fid) (lid := lid) (base := base) (c := c) l (fun i x => bif P x then .inl i else .inr ()) S H R E 0
    (fun i x hx hlt again => by
      rw [h i x hx hlt again]
      cases P x <;> rfl) he
  refine ⟨m, hm.trans (congrArg some ?_)⟩
  have main : ∀ (l : List β) (i : Nat), foldX (fun i (_ : Unit) x => (bif P x then .inl i else .inr () : Sum Nat Unit)) i l () = bif l.any P then .inl (i + l.findIdx P) else .inr () := by
    intro l
    induction l with
    | nil => intro i; rfl
    | cons x l ih =>
      intro i
      simp only [foldX, List.any_cons, List.findIdx_cons]
      cases P x with
      | true => rfl
      | false =>
        simp only [cond_false, Bool.false_or]
        rw [ih (i + 1)]
        cases l.any P with
        | true => simp only [cond_true]; congr 1; omega
        | false => rfl
  rw [main l 0]
  cases l.any P with
  | true => simp only [cond_true, Erx.sL, Erx.sG, Nat.zero_add]
  | false => rfl
end Go.Ev
namespace Go.Ev.Rag
open Go Go.Ev Go.Proofs
set_option maxRecDepth 1000000
set_option linter.unusedVariables false
set_option linter.unusedSimpArgs false
theorem c78_run : ∀ args H v H', (c78 args H).val = some (v, H') → CallOK T0 78 args H v H' := c78_ok T0_ok (by
  intro n a b r hv
  rw [nf78, leaf_val hv]
  unfold Rgg.inI
  by_cases h : n ≥ a
  · rw [decide_eq_true h]; rfl
  · rw [decide_eq_false h]; rfl)
theorem c63_run : ∀ args H v H', (c63 args H).val = some (v, H') → CallOK T0 63 args H v H' := fun a H v H' hv => by
  refine CallOK.tab ?_ ?_ (c63_ok TD_ok (by
    intro K r hv
    obtain ⟨hl, hv2⟩ := guard_val hv
    simp only [Bool.and_eq_true, decide_eq_true_eq] at hl
    rw [leaf_val hv2]
    have : K = 1 ∨ K = 2 ∨ K = 3 ∨ K = 4 ∨ K = 5 := by omega
    rcases this with rfl | rfl | rfl | rfl | rfl
    · exact w63_1
    · exact w63_2
    · exact w63_3
    · exact w63_4
    · exact w63_5) a H v H' hv) <;> rfl
theorem Q1_ok : TabOK Q1 := by
  have h := T0_ok
  have h := h.addCall (g := 78) (r := c78) fun a H v H' hv => by refine CallOK.tab ?_ ?_ (c78_run a H v H' hv) <;> rfl
  have h := h.addCall (g := 63) (r := c63) fun a H v H' hv => by refine CallOK.tab ?_ ?_ (c63_run a H v H' hv) <;> rfl
  exact h
theorem l74_2_run : ∀ base kv H o kv' H', (l74_2 base kv H).val = some (o, kv', H') → LoopOK Q1 74 2 base kv H o kv' H' := l74_2_ok Q1_ok (by kernel_rfl) (by
  intro K s r hv
  obtain ⟨hl, hv2⟩ := guard_val hv
  simp only [Bool.and_eq_true, decide_eq_true_eq] at hl
  obtain ⟨⟨k1, k5⟩, hsz⟩ := hl
  have hlen := Rgg.bts_len s
  obtain ⟨mm, hm⟩ := err_of (T := Q1) (fid := 74) (lid := 2) (base := 0) (c := lpc Q1 74 2) (Rgg.bts s) (Rgg.prErr K s) (fun _ _ _ => ()) (fun _ _ => True)
    (fun i _ => [vi K, vS s, vi 0, vi i]) (fun _ => [])
    (fun e i _ => (.ret, [vi K, vS s, vi e, vi i], [])) (fun _ => (.ext 0, [vi K, vS s, vi 0, vi s.size], []))
    (fun i x _ hx hlt _ again => by
      refine (nl74 ..).trans ?_
      have hb : x.toNat < 256 := UInt8.toNat_lt x
      rw [hlen] at hlt
      simp only [dec_lt hlt, dec_ge, cond_true, toNat_cast, Rgg.ba_get, hx, oM]
      rw [wrap_succ (by omega), wrapi (x := (x.toNat : Int)) (by omega) (by omega), wrapi (x := (x.toNat : Int) - 97) (by omega) (by omega), wrapi (x := K - 1) (by omega) (by omega)]
      unfold Rgg.prErr
      cases h1 : !Rgg.inI ((x.toNat : Int) - 97) 0 (K - 1) with
      | true => rfl
      | false =>
        simp only [cond_false]
        by_cases h0 : 0 < i
        · rw [decide_eq_true (show (i : Int) > 0 by omega), decide_eq_true h0, show IntKind.i64.wrap ((i : Int) - 1) = ((i - 1 : Nat) : Int) by rw [wrapi (by omega) (by omega)]; omega]
          have hp : (Rgg.bts s)[i - 1]? = some ((Rgg.bts s).getD (i - 1) 0) := by
            rw [List.getD_eq_getElem?_getD, List.getElem?_eq_getElem (by omega)]; rfl
          simp only [dec_ge, cond_true, toNat_cast, hp, oM, Bool.true_and]
          by_cases h2 : x.toNat ≤ ((Rgg.bts s).getD (i - 1) 0).toNat
          · rw [decide_eq_true (show (x.toNat : Int) ≤ _ by exact Int.ofNat_le.2 h2), decide_eq_true h2]; rfl
          · rw [decide_eq_false (show ¬ (x.toNat : Int) ≤ _ from fun h => h2 (Int.ofNat_le.1 h)), decide_eq_false h2]; rfl
        · rw [decide_eq_false (show ¬ (i : Int) > 0 by omega), decide_eq_false h0]; rfl)
    (fun _ _ _ _ _ _ _ => trivial)
    (fun _ _ again => by
      refine (nl74 ..).trans ?_
      rw [hlen]
      simp only [dec_ll, cond_false]) () trivial
  refine ⟨mm, hm.trans ?_⟩
  unfold Rgg.prE Rgg.prX at hv2
  rcases br_val hv2 with ⟨h, hv3⟩ | ⟨h, hv3⟩ <;> (rw [leaf_val hv3, h]; rfl))
theorem l71_2_run : ∀ base kv H o kv' H', (l71_2 base kv H).val = some (o, kv', H') → LoopOK Q1 71 2 base kv H o kv' H' := l71_2_ok Q1_ok (by kernel_rfl) (by
  intro l s r hv
  obtain ⟨hl, hv2⟩ := guard_val hv
  have hsm := sm_le hl
  obtain ⟨mm, hm⟩ := found_of (T := Q1) (fid := 71) (lid := 2) (base := 0) (c := lpc Q1 71 2) l (fun x => x == s) (fun i => [lS l, vS s, vb false, vi i]) []
    (fun i => (.ret, [lS l, vS s, vb true, vi i], [])) (.ext 0, [lS l, vS s, vb false, vi l.length], [])
    (fun i x hx hlt again => by
      refine (nl71 ..).trans ?_
      simp only [dec_lt hlt, dec_ge, cond_true, toNat_cast, hx, oM]
      rw [wrap_succ (by omega)])
    (fun again => by
      refine (nl71 ..).trans ?_
      simp only [dec_ll, cond_false])
  refine ⟨mm, hm.trans ?_⟩
  unfold Rgg.hasS at hv2
  rcases br_val hv2 with ⟨h, hv3⟩ | ⟨h, hv3⟩ <;> (rw [leaf_val hv3, h]; rfl))
theorem l99_2_run : ∀ base kv H o kv' H', (l99_2 base kv H).val = some (o, kv', H') → LoopOK Q1 99 2 base kv H o kv' H' := l99_2_ok Q1_ok (by kernel_rfl) (by
  intro s c r hv
  obtain ⟨hl, hv2⟩ := guard_val hv
  simp only [Bool.and_eq_true, decide_eq_true_eq] at hl
  obtain ⟨⟨hsz, c0⟩, c1⟩ := hl
  have hlen := Rgg.bts_len s
  have hc : ((UInt8.ofNat c.toNat).toNat : Int) = c := by
    rw [UInt8.toNat_ofNat', Nat.mod_eq_of_lt (by omega)]; omega
  obtain ⟨mm, hm⟩ := found_of (T := Q1) (fid := 99) (lid := 2) (base := 0) (c := lpc Q1 99 2) (Rgg.bts s) (fun x => x == UInt8.ofNat c.toNat) (fun i => [vS s, vC c, vb false, vi i]) []
    (fun i => (.ret, [vS s, vC c, vb true, vi i], [])) (.ext 0, [vS s, vC c, vb false, vi s.size], [])
    (fun i x hx hlt again => by
      refine (nl99 ..).trans ?_
      rw [hlen] at hlt
      simp only [dec_lt hlt, dec_ge, cond_true, toNat_cast, Rgg.ba_get, hx, oM]
      rw [wrap_succ (by omega), show ((x.toNat : Int) == c) = (x == UInt8.ofNat c.toNat) by
        rw [Bool.eq_iff_iff, beq_iff_eq, beq_iff_eq]
        refine ⟨fun h => UInt8.toNat_inj.1 (by omega), fun h => by rw [h]; exact hc⟩])
    (fun again => by
      refine (nl99 ..).trans ?_
      rw [hlen]
      simp only [dec_ll, cond_false])
  refine ⟨mm, hm.trans ?_⟩
  unfold Rgg.win at hv2
  rcases br_val hv2 with ⟨h, hv3⟩ | ⟨h, hv3⟩ <;> (rw [leaf_val hv3, h]; rfl))
theorem Q2_ok : TabOK Q2 := by
  have h := Q1_ok
  have h := h.addLoop (g := 74) (lid := 2) (r := l74_2) fun b k H o k' H' hv => by refine LoopOK.tab ?_ ?_ ?_ ?_ (l74_2_run b k H o k' H' hv) <;> rfl
  have h := h.addLoop (g := 71) (lid := 2) (r := l71_2) fun b k H o k' H' hv => by refine LoopOK.tab ?_ ?_ ?_ ?_ (l71_2_run b k H o k' H' hv) <;> rfl
  have h := h.addLoop (g := 99) (lid := 2) (r := l99_2) fun b k H o k' H' hv => by refine LoopOK.tab ?_ ?_ ?_ ?_ (l99_2_run b k H o k' H' hv) <;> rfl
  exact h
theorem c74_run : ∀ args H v H', (c74 args H).val = some (v, H') → CallOK Q2 74 args H v H' := c74_ok Q2_ok (by
  intro K s r hv
  obtain ⟨hl, hv2⟩ := guard_val hv
  refine (nf74 ..).trans ?_
  rw [hl, leaf_val hv2]
  cases h : Rgg.prE K s == 0 with
  | true => rw [beq_iff_eq.1 h]; rfl
  | false => rfl)
theorem c71_run : ∀ args H v H', (c71 args H).val = some (v, H') → CallOK Q2 71 args H v H' := c71_ok Q2_ok (by
  intro l s r hv
  obtain ⟨hl, hv2⟩ := guard_val hv
  refine (nf71 ..).trans ?_
  rw [hl, leaf_val hv2]
  cases Rgg.hasS l s <;> rfl)
theorem c99_run : ∀ args H v H', (c99 args H).val = some (v, H') → CallOK Q2 99 args H v H' := c99_ok Q2_ok (by
  intro s c r hv
  obtain ⟨hl, hv2⟩ := guard_val hv
  refine (nf99 ..).trans ?_
  rw [hl, leaf_val hv2]
  cases Rgg.win s (UInt8.ofNat c.toNat) <;> rfl)
theorem Q3_ok : TabOK Q3 := by
  have h := Q1_ok
  have h := h.addCall (g := 74) (r := c74) fun a H v H' hv => by refine CallOK.tab ?_ ?_ (c74_run a H v H' hv) <;> rfl
  have h := h.addCall (g := 71) (r := c71) fun a H v H' hv => by refine CallOK.tab ?_ ?_ (c71_run a H v H' hv) <;> rfl
  have h := h.addCall (g := 99) (r := c99) fun a H v H' hv => by refine CallOK.tab ?_ ?_ (c99_run a H v H' hv) <;> rfl
  exact h
end Go.Ev.Rag
namespace Go.Ev.Rag
open Go Go.Ev Go.Proofs
set_option maxRecDepth 1000000
set_option linter.unusedVariables false
set_option linter.unusedSimpArgs false
theorem l75_3_run : ∀ base kv H o kv' H', (l75_3 base kv H).val = some (o, kv', H') → LoopOK Q3 75 3 base kv H o kv' H' := l75_3_ok Q3_ok (by kernel_rfl) (by
  intro a b e r hv
  obtain ⟨hl, hv2⟩ := guard_val hv
  simp only [Bool.and_eq_true, decide_eq_true_eq] at hl
  obtain ⟨⟨ha, hb⟩, he⟩ := hl
  have hlen := Rgg.bts_len a
  have he0 : e = Rgg.cmT a b 0 := by
    apply ByteArray.ext
    exact (Array.eq_empty_of_size_eq_zero he).trans rfl
  subst he0
  obtain ⟨mm, hm⟩ := steps_of (T := Q3) (fid := 75) (lid := 3) (base := 0) (c := lpc Q3 75 3) a.size (fun i => [vS a, vS b, vS (Rgg.cmT a b i), vi (i : Nat)]) (fun _ => [])
    (.ext 0, [vS a, vS b, vS (Rgg.cmS a b), vi a.size], [])
    (fun i hi again => by
      refine (nl75 ..).trans ?_
      have hx : (Rgg.bts a)[i]? = some ((Rgg.bts a).getD i 0) := by
        rw [List.getD_eq_getElem?_getD, List.getElem?_eq_getElem (by omega)]; rfl
      generalize (Rgg.bts a).getD i 0 = x at hx
      have hb8 : x.toNat < 256 := UInt8.toNat_lt x
      have hsz := Rgg.cmT_size a b i
      have hex : (a.extract i (i + 1)).size ≤ 1 := by
        show (a.extract i (i + 1)).data.size ≤ 1
        rw [ByteArray.data_extract, Array.size_extract]; omega
      rw [Rgg.cmT_succ hx, wrap_succ (by omega)]
      simp only [dec_lt hi, dec_ge, cond_true, toNat_cast, Rgg.ba_get, hx, oM, decide_eq_true hb, decide_eq_true (show (x.toNat : Int) < 256 by omega), Bool.and_self, UInt8.ofNat_toNat, Option.getD_some]
      rw [decide_eq_true (show (i : Int) ≤ ((i + 1 : Nat) : Int) by omega), decide_eq_true (show ((i + 1 : Nat) : Int) ≤ (a.size : Int) by omega)]
      simp only [cond_true]
      rw [room_ok (n := (Rgg.cmT a b i).size + (a.extract i (i + 1)).size) (b := 1) (by omega) (by omega)]
      cases Rgg.win b x <;> rfl)
    (fun again => by
      refine (nl75 ..).trans ?_
      simp only [dec_ll, cond_false, Rgg.cmT_end])
  exact ⟨mm, hm.trans (by rw [leaf_val hv2])⟩)
theorem l46_6_run : ∀ base kv H o kv' H', (l46_6 base kv H).val = some (o, kv', H') → LoopOK Q3 46 6 base kv H o kv' H' := l46_6_ok Q3_ok (by kernel_rfl) (by
  intro K l r hv
  obtain ⟨hl, hv2⟩ := guard_val hv
  simp only [Bool.and_eq_true, decide_eq_true_eq] at hl
  obtain ⟨⟨⟨k1, k5⟩, hsm⟩, hsz⟩ := hl
  have hsm := sm_le hsm
  obtain ⟨mm, hm⟩ := err_of (T := Q3) (fid := 46) (lid := 6) (base := 0) (c := lpc Q3 46 6) l (Rgg.ckErr K l) (fun _ _ _ => ()) (fun _ _ => True)
    (fun i _ => [vi K, lS l, vi 0, vi i]) (fun _ => [])
    (fun e i _ => (.ret, [vi K, lS l, vi e, vi i], [])) (fun _ => (.ext 0, [vi K, lS l, vi 0, vi l.length], []))
    (fun i x _ hx hlt _ again => by
      refine (nl46 ..).trans ?_
      have hxs := Rgg.szs_get hsz (List.mem_of_getElem? hx)
      have hst : sm (l.take i) = true := decide_eq_true (by rw [List.length_take]; omega)
      simp only [dec_lt hlt, dec_ge, cond_true, toNat_cast, hx, oM, decide_eq_true k1, decide_eq_true k5, decide_eq_true hxs, Bool.and_self, hst, decide_eq_true (show (i : Int) ≤ (l.length : Int) by omega)]
      rw [wrap_succ (by omega)]
      unfold Rgg.ckErr
      cases h : Rgg.prE K x == 0 with
      | true =>
        have h0 := beq_iff_eq.1 h
        rw [h0]
        cases Rgg.hasS (l.take i) x <;> rfl
      | false =>
        rw [show (Rgg.prE K x != 0) = true by rw [bne, h]; rfl]
        simp only [cond_true, cond_false, h])
    (fun _ _ _ _ _ _ _ => trivial)
    (fun _ _ again => by
      refine (nl46 ..).trans ?_
      simp only [dec_ll, cond_false]) () trivial
  refine ⟨mm, hm.trans ?_⟩
  unfold Rgg.ckX at hv2
  rcases br_val hv2 with ⟨h, hv3⟩ | ⟨h, hv3⟩ <;> (rw [leaf_val hv3, h]; rfl))
theorem l82_4_run : ∀ base kv H o kv' H', (l82_4 base kv H).val = some (o, kv', H') → LoopOK Q3 82 4 base kv H o kv' H' := l82_4_ok Q3_ok (by kernel_rfl) (by
  intro l al k r hv
  obtain ⟨hl, hv2⟩ := guard_val hv
  simp only [Bool.and_eq_true, decide_eq_true_eq] at hl
  obtain ⟨⟨hsm, hsa⟩, rfl⟩ := hl
  have hsa := sm_le hsa
  obtain ⟨mm, hm⟩ := steps_of (T := Q3) (fid := 82) (lid := 4) (base := 0) (c := lpc Q3 82 4) al.length (fun i => [lS l, osW 0 ((al.take i).filter fun x => Rgg.hasS l x).length, osW 1 al.length, vi (i : Nat)]) (fun i => [some (rS ((al.take i).filter fun x => Rgg.hasS l x)), some (rowS al 9)])
    (.ext 0, [lS l, osW 0 (al.filter fun x => Rgg.hasS l x).length, osW 1 al.length, vi al.length], [some (rS (al.filter fun x => Rgg.hasS l x)), some (rowS al 9)])
    (fun i hi again => by
      refine (nl82 ..).trans ?_
      have hx := List.getElem?_eq_getElem hi
      generalize al[i] = x at hx
      have hln := Rgg.filt_len (fun x => Rgg.hasS l x) al i
      rw [Rgg.filt_succ _ hx, wrap_succ (by omega), room_ok (by omega) (by omega)]
      simp only [dec_lt hi, dec_ge, cond_true, toNat_cast, hx, oM, hsm]
      cases Rgg.hasS l x with
      | true => simp only [cond_true, List.length_append, List.length_singleton, rS, Rgg.tyS_snoc]
      | false => rfl)
    (fun again => by
      refine (nl82 ..).trans ?_
      simp only [dec_ll, cond_false, List.take_length])
  exact ⟨mm, hm.trans (by rw [leaf_val hv2])⟩)
theorem l87_4_run : ∀ base kv H o kv' H', (l87_4 base kv H).val = some (o, kv', H') → LoopOK Q3 87 4 base kv H o kv' H' := l87_4_ok Q3_ok (by kernel_rfl) (by
  intro l al k r hv
  obtain ⟨hl, hv2⟩ := guard_val hv
  simp only [Bool.and_eq_true, decide_eq_true_eq] at hl
  obtain ⟨⟨hsm, hsa⟩, rfl⟩ := hl
  have hsa := sm_le hsa
  obtain ⟨mm, hm⟩ := steps_of (T := Q3) (fid := 87) (lid := 4) (base := 0) (c := lpc Q3 87 4) al.length (fun i => [lS l, osW 0 ((al.take i).filter fun x => !Rgg.hasS l x).length, osW 1 al.length, vi (i : Nat)]) (fun i => [some (rS ((al.take i).filter fun x => !Rgg.hasS l x)), some (rowS al 9)])
    (.ext 0, [lS l, osW 0 (al.filter fun x => !Rgg.hasS l x).length, osW 1 al.length, vi al.length], [some (rS (al.filter fun x => !Rgg.hasS l x)), some (rowS al 9)])
    (fun i hi again => by
      refine (nl87 ..).trans ?_
      have hx := List.getElem?_eq_getElem hi
      generalize al[i] = x at hx
      have hln := Rgg.filt_len (fun x => !Rgg.hasS l x) al i
      rw [Rgg.filt_succ _ hx, wrap_succ (by omega), room_ok (by omega) (by omega)]
      simp only [dec_lt hi, dec_ge, cond_true, toNat_cast, hx, oM, hsm]
      cases Rgg.hasS l x with
      | false => simp only [cond_true, Bool.not_false, List.length_append, List.length_singleton, rS, Rgg.tyS_snoc]
      | true => rfl)
    (fun again => by
      refine (nl87 ..).trans ?_
      simp only [dec_ll, cond_false, List.take_length])
  exact ⟨mm, hm.trans (by rw [leaf_val hv2])⟩)
theorem Q4_ok : TabOK Q4 := by
  have h := Q3_ok
  have h := h.addLoop (g := 75) (lid := 3) (r := l75_3) fun b k H o k' H' hv => by refine LoopOK.tab ?_ ?_ ?_ ?_ (l75_3_run b k H o k' H' hv) <;> rfl
  have h := h.addLoop (g := 46) (lid := 6) (r := l46_6) fun b k H o k' H' hv => by refine LoopOK.tab ?_ ?_ ?_ ?_ (l46_6_run b k H o k' H' hv) <;> rfl
  have h := h.addLoop (g := 82) (lid := 4) (r := l82_4) fun b k H o k' H' hv => by refine LoopOK.tab ?_ ?_ ?_ ?_ (l82_4_run b k H o k' H' hv) <;> rfl
  have h := h.addLoop (g := 87) (lid := 4) (r := l87_4) fun b k H o k' H' hv => by refine LoopOK.tab ?_ ?_ ?_ ?_ (l87_4_run b k H o k' H' hv) <;> rfl
  exact h
theorem c75_run : ∀ args H v H', (c75 args H).val = some (v, H') → CallOK Q4 75 args H v H' := c75_ok Q4_ok (by
  intro a b r hv
  obtain ⟨hl, hv2⟩ := guard_val hv
  refine (nf75 ..).trans ?_
  rw [hl, leaf_val hv2]; rfl)
theorem c46_run : ∀ args H v H', (c46 args H).val = some (v, H') → CallOK Q4 46 args H v H' := c46_ok Q4_ok (by
  intro K l r hv
  obtain ⟨hl, hv2⟩ := guard_val hv
  refine (nf46 ..).trans ?_
  rw [leaf_val hv2]
  unfold Rgg.ckE
  cases h1 : Rgg.inI K 1 5 with
  | false => rfl
  | true =>
    simp only [Bool.not_true, cond_false]
    by_cases h2 : 32 < l.length
    · rw [decide_eq_true h2, decide_eq_true (show (l.length : Int) > 32 by omega)]; rfl
    · rw [decide_eq_false h2, decide_eq_false (show ¬ (l.length : Int) > 32 by omega), show sm l = true from decide_eq_true (by omega), hl]
      unfold Rgg.inI at h1
      rw [h1]
      simp only [cond_false, Bool.and_self, cond_true]
      cases h : Erx.errE (Rgg.ckX K l) == 0 with
      | true => rw [beq_iff_eq.1 h]; rfl
      | false => rfl)
theorem c82_run : ∀ args H v H', (c82 args H).val = some (v, H') → CallOK Q4 82 args H v H' := c82_ok Q4_ok (by
  intro K l r hv
  obtain ⟨hl, hv2⟩ := guard_val hv
  simp only [Bool.and_eq_true, decide_eq_true_eq] at hl
  refine (nf82 ..).trans ?_
  have hK := Rgg.setsL_len hl.1.1 hl.1.2
  rw [decide_eq_true hl.1.1, decide_eq_true hl.1.2, hl.2, show sm (Rgg.setsL K) = true from decide_eq_true (by omega), leaf_val hv2, decide_eq_true rfl]; rfl)
theorem c87_run : ∀ args H v H', (c87 args H).val = some (v, H') → CallOK Q4 87 args H v H' := c87_ok Q4_ok (by
  intro K l r hv
  obtain ⟨hl, hv2⟩ := guard_val hv
  simp only [Bool.and_eq_true, decide_eq_true_eq] at hl
  refine (nf87 ..).trans ?_
  have hK := Rgg.setsL_len hl.1.1 hl.1.2
  rw [decide_eq_true hl.1.1, decide_eq_true hl.1.2, hl.2, show sm (Rgg.setsL K) = true from decide_eq_true (by omega), leaf_val hv2, decide_eq_true rfl]; rfl)
theorem Q5_ok : TabOK Q5 := by
  have h := Q1_ok
  have h := h.addCall (g := 74) (r := c74) fun a H v H' hv => by refine CallOK.tab ?_ ?_ (c74_run a H v H' hv) <;> rfl
  have h := h.addCall (g := 71) (r := c71) fun a H v H' hv => by refine CallOK.tab ?_ ?_ (c71_run a H v H' hv) <;> rfl
  have h := h.addCall (g := 75) (r := c75) fun a H v H' hv => by refine CallOK.tab ?_ ?_ (c75_run a H v H' hv) <;> rfl
  have h := h.addCall (g := 46) (r := c46) fun a H v H' hv => by refine CallOK.tab ?_ ?_ (c46_run a H v H' hv) <;> rfl
  have h := h.addCall (g := 82) (r := c82) fun a H v H' hv => by refine CallOK.tab ?_ ?_ (c82_run a H v H' hv) <;> rfl
  have h := h.addCall (g := 87) (r := c87) fun a H v H' hv => by refine CallOK.tab ?_ ?_ (c87_run a H v H' hv) <;> rfl
  exact h
theorem l70_3_run : ∀ base kv H o kv' H', (l70_3 base kv H).val = some (o, kv', H') → LoopOK Q5 70 3 base kv H o kv' H' := l70_3_ok Q5_ok (by kernel_rfl) (by
  intro K l s r hv
  obtain ⟨hl, hv2⟩ := guard_val hv
  simp only [Bool.and_eq_true, decide_eq_true_eq] at hl
  obtain ⟨⟨hsm, hsz⟩, hs⟩ := hl
  have hsm := sm_le hsm
  obtain ⟨mm, hm⟩ := steps_of (T := Q5) (fid := 70) (lid := 3) (base := 0) (c := lpc Q5 70 3) l.length (fun i => [vi K, lS l, vS s, osW 0 ((l.take i).map fun b => Rgg.cmS b s).length, vi (i : Nat)]) (fun i => [some (rS ((l.take i).map fun b => Rgg.cmS b s))])
    (.ext 0, [vi K, lS l, vS s, osW 0 (l.map fun b => Rgg.cmS b s).length, vi l.length], [some (rS (l.map fun b => Rgg.cmS b s))])
    (fun i hi again => by
      refine (nl70 ..).trans ?_
      have hx := List.getElem?_eq_getElem hi
      generalize l[i] = x at hx
      have hxs := Rgg.szs_get hsz (List.mem_of_getElem? hx)
      have hln : ((l.take i).map fun b => Rgg.cmS b s).length ≤ i := by rw [List.length_map, List.length_take]; omega
      rw [List.take_add_one, hx, wrap_succ (by omega), room_ok (by omega) (by omega)]
      simp only [dec_lt hi, dec_ge, cond_true, toNat_cast, hx, oM, decide_eq_true hxs, decide_eq_true hs, Bool.and_self, Option.toList, List.map_append, List.map_cons, List.map_nil, List.length_append, List.length_singleton, rS, Rgg.tyS_snoc])
    (fun again => by
      refine (nl70 ..).trans ?_
      simp only [dec_ll, cond_false, List.take_length])
  exact ⟨mm, hm.trans (by rw [leaf_val hv2])⟩)
theorem Q6_ok : TabOK Q6 := by
  have h := Q5_ok
  have h := h.addLoop (g := 70) (lid := 3) (r := l70_3) fun b k H o k' H' hv => by refine LoopOK.tab ?_ ?_ ?_ ?_ (l70_3_run b k H o k' H' hv) <;> rfl
  exact h
end Go.Ev.Rag
namespace Rgg
open Go
theorem ckE_zero {K : Int} {l : List ByteArray} (h : (ckE K l == 0) = true) : 1 ≤ K ∧ K ≤ 5 ∧ l.length ≤ 32 ∧ Erx.errE (ckX K l) = 0 := by
  have h := beq_iff_eq.1 h
  unfold ckE at h
  cases h1 : inI K 1 5 with
  | false => rw [h1] at h; cases h
  | true =>
    rw [h1, Bool.not_true, cond_false] at h
    unfold inI at h1
    simp only [Bool.and_eq_true, decide_eq_true_eq] at h1
    cases h2 : decide (32 < l.length) with
    | true => rw [h2] at h; cases h
    | false =>
      rw [h2, cond_false] at h
      have := of_decide_eq_false h2
      exact ⟨h1.1, h1.2, by omega, h⟩
theorem asE_zero {K : Int} {l : List ByteArray} {s : ByteArray} (h : (asE K l s == 0) = true) : (ckE K l == 0) = true ∧ (prE K s == 0) = true := by
  unfold asE at h
  cases h1 : ckE K l == 0 with
  | true => rw [h1] at h; exact ⟨rfl, h⟩
  | false => rw [h1] at h; rw [cond_false, h1] at h; cases h
end Rgg
namespace Go.Ev.Rag
open Go Go.Ev Go.Proofs
set_option maxRecDepth 1000000
set_option linter.unusedVariables false
set_option linter.unusedSimpArgs false
theorem c70_run : ∀ args H v H', (c70 args H).val = some (v, H') → CallOK Q6 70 args H v H' := c70_ok Q6_ok (by
  intro K l s r hv
  obtain ⟨hl, hv2⟩ := guard_val hv
  simp only [Bool.and_eq_true, decide_eq_true_eq] at hl
  obtain ⟨⟨⟨⟨k1, k5⟩, hsm⟩, hsz⟩, hs⟩ := hl
  refine (nf70 ..).trans ?_
  rw [hsm, hsz, decide_eq_true hs, decide_eq_true k1, decide_eq_true k5, show sm (List.map (fun b => Rgg.cmS b s) l) = true from decide_eq_true (by rw [List.length_map]; exact sm_le hsm), leaf_val hv2]; rfl)
theorem c68_run : ∀ args H v H', (c68 args H).val = some (v, H') → CallOK Q6 68 args H v H' := c68_ok Q6_ok (by
  intro K l s r hv
  obtain ⟨hl, hv2⟩ := guard_val hv
  simp only [Bool.and_eq_true, decide_eq_true_eq] at hl
  refine (nf68 ..).trans ?_
  rw [hl.1, leaf_val hv2]
  unfold Rgg.asE
  cases h : Rgg.ckE K l == 0 with
  | true =>
    obtain ⟨k1, k5, _⟩ := Rgg.ckE_zero h
    rw [decide_eq_true k1, decide_eq_true k5, decide_eq_true hl.2]; rfl
  | false => rfl)
theorem c41_run : ∀ args H v H', (c41 args H).val = some (v, H') → CallOK Q6 41 args H v H' := c41_ok Q6_ok (by
  intro K l r hv
  obtain ⟨hl, hv2⟩ := guard_val hv
  simp only [Bool.and_eq_true, decide_eq_true_eq] at hl
  refine (nf41 ..).trans ?_
  rw [hl.1, leaf_val hv2, hl.2]
  unfold Rgg.tdR
  cases h : Rgg.ckE K l == 0 with
  | true =>
    obtain ⟨k1, k5, _⟩ := Rgg.ckE_zero h
    rw [show (Rgg.ckE K l != 0) = false by rw [bne, h]; rfl, decide_eq_true k1, decide_eq_true k5, beq_iff_eq.1 h]; rfl
  | false => rw [show (Rgg.ckE K l != 0) = true by rw [bne, h]; rfl]; rfl)
theorem c43_run : ∀ args H v H', (c43 args H).val = some (v, H') → CallOK Q6 43 args H v H' := c43_ok Q6_ok (by
  intro K l r hv
  obtain ⟨hl, hv2⟩ := guard_val hv
  simp only [Bool.and_eq_true, decide_eq_true_eq] at hl
  refine (nf43 ..).trans ?_
  rw [hl.1, leaf_val hv2, hl.2]
  unfold Rgg.rsR
  cases h : Rgg.ckE K l == 0 with
  | true =>
    obtain ⟨k1, k5, _⟩ := Rgg.ckE_zero h
    rw [show (Rgg.ckE K l != 0) = false by rw [bne, h]; rfl, decide_eq_true k1, decide_eq_true k5, beq_iff_eq.1 h]; rfl
  | false => rw [show (Rgg.ckE K l != 0) = true by rw [bne, h]; rfl]; rfl)
theorem Q7_ok : TabOK Q7 := by
  have h := Q5_ok
  have h := h.addCall (g := 70) (r := c70) fun a H v H' hv => by refine CallOK.tab ?_ ?_ (c70_run a H v H' hv) <;> rfl
  have h := h.addCall (g := 68) (r := c68) fun a H v H' hv => by refine CallOK.tab ?_ ?_ (c68_run a H v H' hv) <;> rfl
  have h := h.addCall (g := 41) (r := c41) fun a H v H' hv => by refine CallOK.tab ?_ ?_ (c41_run a H v H' hv) <;> rfl
  have h := h.addCall (g := 43) (r := c43) fun a H v H' hv => by refine CallOK.tab ?_ ?_ (c43_run a H v H' hv) <;> rfl
  exact h
theorem c44_run : ∀ args H v H', (c44 args H).val = some (v, H') → CallOK Q7 44 args H v H' := c44_ok Q7_ok (by
  intro K l s r hv
  obtain ⟨hl, hv2⟩ := guard_val hv
  simp only [Bool.and_eq_true, decide_eq_true_eq] at hl
  obtain ⟨⟨hsz, hsm⟩, hs⟩ := hl
  refine (nf44 ..).trans ?_
  rw [hsz, leaf_val hv2, hsm, decide_eq_true hs]
  unfold Rgg.tcR
  cases h : Rgg.asE K l s == 0 with
  | true =>
    obtain ⟨k1, k5, _⟩ := Rgg.ckE_zero (Rgg.asE_zero h).1
    rw [show (Rgg.asE K l s != 0) = false by rw [bne, h]; rfl, decide_eq_true k1, decide_eq_true k5, beq_iff_eq.1 h]; rfl
  | false => rw [show (Rgg.asE K l s != 0) = true by rw [bne, h]; rfl]; rfl)
theorem l15_4_run : ∀ base kv H o kv' H', (l15_4 base kv H).val = some (o, kv', H') → LoopOK Q7 15 4 base kv H o kv' H' := l15_4_ok Q7_ok (by kernel_rfl) (by
  intro l m r hv
  obtain ⟨hl, hv2⟩ := guard_val hv
  have hsm := sm_le hl
  obtain ⟨mm, hm⟩ := found_of (T := Q7) (fid := 15) (lid := 4) (base := 0) (c := lpc Q7 15 4) l (fun s => decide (30 < s.size)) (fun i => [lS l, lS m, vb false, vi i]) []
    (fun i => (.ret, [lS l, lS m, vb true, vi i], [])) (.ext 0, [lS l, lS m, vb false, vi l.length], [])
    (fun i x hx hlt again => by
      refine (nl15_4 ..).trans ?_
      simp only [dec_lt hlt, dec_ge, cond_true, toNat_cast, hx, oM]
      rw [wrap_succ (by omega)]
      by_cases h : 30 < x.size
      · rw [decide_eq_true h, decide_eq_true (show (x.size : Int) > 30 by omega)]
      · rw [decide_eq_false h, decide_eq_false (show ¬ (x.size : Int) > 30 by omega)])
    (fun again => by
      refine (nl15_4 ..).trans ?_
      simp only [dec_ll, cond_false])
  refine ⟨mm, hm.trans ?_⟩
  unfold Rgg.lng at hv2
  rcases br_val hv2 with ⟨h, hv3⟩ | ⟨h, hv3⟩ <;> (rw [leaf_val hv3, h]; rfl))
theorem l15_9_run : ∀ base kv H o kv' H', (l15_9 base kv H).val = some (o, kv', H') → LoopOK Q7 15 9 base kv H o kv' H' := l15_9_ok Q7_ok (by kernel_rfl) (by
  intro m r hv
  obtain ⟨hl, hv2⟩ := guard_val hv
  have hsm := sm_le hl
  obtain ⟨mm, hm⟩ := found_of (T := Q7) (fid := 15) (lid := 9) (base := 0) (c := lpc Q7 15 9) m (fun s => decide (30 < s.size)) (fun i => [lS m, vb false, vi i]) []
    (fun i => (.ret, [lS m, vb true, vi i], [])) (.ext 2, [lS m, vb false, vi m.length], [])
    (fun i x hx hlt again => by
      refine (nl15_9 ..).trans ?_
      simp only [dec_lt hlt, dec_ge, cond_true, toNat_cast, hx, oM]
      rw [wrap_succ (by omega)]
      by_cases h : 30 < x.size
      · rw [decide_eq_true h, decide_eq_true (show (x.size : Int) > 30 by omega)]
      · rw [decide_eq_false h, decide_eq_false (show ¬ (x.size : Int) > 30 by omega)])
    (fun again => by
      refine (nl15_9 ..).trans ?_
      simp only [dec_ll, cond_false])
  refine ⟨mm, hm.trans ?_⟩
  unfold Rgg.lng at hv2
  rcases br_val hv2 with ⟨h, hv3⟩ | ⟨h, hv3⟩ <;> (rw [leaf_val hv3, h]; rfl))
theorem l23_4_run : ∀ base kv H o kv' H', (l23_4 base kv H).val = some (o, kv', H') → LoopOK Q7 23 4 base kv H o kv' H' := l23_4_ok Q7_ok (by kernel_rfl) (by
  intro a b r hv
  obtain ⟨hl, hv2⟩ := guard_val hv
  simp only [Bool.and_eq_true] at hl
  obtain rfl := beq_iff_eq.1 hl.2
  have hsm := sm_le hl.1
  obtain ⟨mm, hm⟩ := steps_of (T := Q7) (fid := 23) (lid := 4) (base := 0) (c := lpc Q7 23 4) a.length (fun i => [lS a, lS a, vb false, vi (i : Nat)]) (fun _ => [])
    (.ext 0, [lS a, lS a, vb false, vi a.length], [])
    (fun i hi again => by
      refine (nl23 ..).trans ?_
      have hx := List.getElem?_eq_getElem hi
      generalize a[i] = x at hx
      rw [wrap_succ (by omega)]
      simp only [dec_lt hi, dec_ge, cond_true, toNat_cast, hx, oM, beq_self_eq_true, Bool.not_true, cond_false])
    (fun again => by
      refine (nl23 ..).trans ?_
      simp only [dec_ll, cond_false])
  exact ⟨mm, hm.trans (by rw [leaf_val hv2])⟩)
theorem Q8_ok : TabOK Q8 := by
  have h := Q7_ok
  have h := h.addCall (g := 44) (r := c44) fun a H v H' hv => by refine CallOK.tab ?_ ?_ (c44_run a H v H' hv) <;> rfl
  have h := h.addLoop (g := 15) (lid := 4) (r := l15_4) fun b k H o k' H' hv => by refine LoopOK.tab ?_ ?_ ?_ ?_ (l15_4_run b k H o k' H' hv) <;> rfl
  have h := h.addLoop (g := 15) (lid := 9) (r := l15_9) fun b k H o k' H' hv => by refine LoopOK.tab ?_ ?_ ?_ ?_ (l15_9_run b k H o k' H' hv) <;> rfl
  have h := h.addLoop (g := 23) (lid := 4) (r := l23_4) fun b k H o k' H' hv => by refine LoopOK.tab ?_ ?_ ?_ ?_ (l23_4_run b k H o k' H' hv) <;> rfl
  exact h
end Go.Ev.Rag
