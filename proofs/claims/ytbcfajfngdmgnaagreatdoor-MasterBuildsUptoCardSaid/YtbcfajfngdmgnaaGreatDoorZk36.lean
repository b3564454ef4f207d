/- Texts joined by a program: MaN, MaO, MaP. -/
import Derived.Test.YtbcfajfngdmgnaaGreatDoorZk35

section
set_option linter.unusedSimpArgs false
set_option linter.unusedVariables false
namespace Go.Proofs.YtbcfajfngdmgnaaGreatDoor.Nu
open Go.Aw Go.Aw.D Go.Proofs Ty Go.Nu
open Dec (chkR knownR allowsR forbidsR decB hasN)
set_option maxRecDepth 100000
def skipI (x : Instance) (o : Int) (k : Nat) : List Int := (List.range k).map fun i => bitI (decide (i < (ordI x).length) && (ordI x).getD i 0 == o)
theorem skipI_eq (x : Instance) (o : Int) {n : Nat} (h : (ordI x).length ≤ n) : skipI x o n = skipCol x o n := by
  refine List.ext_getElem? fun i => ?_
  unfold skipI skipCol
  rw [List.getElem?_map]
  by_cases hi : i < (ordI x).length
  · rw [List.getElem?_append_left (by rw [List.length_map]; exact hi), List.getElem?_range (by omega), List.getElem?_map, List.getElem?_eq_getElem hi]
    simp [hi]
  · rw [List.getElem?_append_right (by rw [List.length_map]; omega), List.length_map, List.getElem?_replicate]
    by_cases h2 : i < n
    · rw [List.getElem?_range h2, if_pos (by omega)]
      show some (bitI (decide (i < (ordI x).length) && _)) = _
      rw [decide_eq_false hi]; rfl
    · rw [List.getElem?_eq_none (by rw [List.length_range]; omega), if_neg (by omega)]; rfl
theorem skip30_c (x : Instance) (o : Int) (n : Nat) (hx : x.orders.length ≤ 62) (hn : (ordI x).length ≤ n) (h64 : n ≤ 1048576) : PC Tryz.prog 107 [.agg (encInstance x), int o, int n] (.sl ((skipCol x o n).map encInt)) := by
  have hol := ordI_len x
  rw [← skipI_eq x o hn]
  refine PC.body (c := Tryz.f107.body.getD .skip) (fun t => t == 8) mixed Tryz.func107 rfl (by kernel_rfl) ?_
  unfold Tryz.f107
  simp only [Option.getD_some]
  simp only [go_sem]
  refine PC.use (orders30_c x (by omega)) ?_
  simp only [go_sem]
  refine anew_i fun j hj0 => ?_
  generalize hGj : updH _ j _ = HGj
  have R : HGj j = some (iRow []) := by rw [← hGj, updH_same]; rfl
  clear hGj hj0
  simp only [go_sem, R]
  refine ⟨fun ρ H => ∃ (k : Nat) (j : Nat), k ≤ n ∧ ρ 1 = int o ∧ ρ 2 = int n ∧ ρ 7 = .sl ((ordI x).map encInt) ∧ ρ 9 = int k ∧ ρ 8 = .os j ∧ H j = some (iRow (skipI x o k)), fun ρ _ => n - natOf (ρ 9), ⟨0, j, Nat.zero_le _, by simp only [go_sem], by simp only [go_sem], by simp only [go_sem], (by simp only [go_sem]; rfl), by simp only [go_sem], R⟩, ?_⟩
  rintro ρ H ⟨k, j, hk, e1, e2, e7, e9, e8, R⟩
  simp only [go_sem, e1, e2, e7, e9, e8]
  refine acond_i (fun hlt => ?_) (fun hge => ?_)
  · have hlt := ltB (by simpa using hlt)
    have hl : (skipI x o k).length = k := by unfold skipI; rw [List.length_map, List.length_range]
    have hs : skipI x o (k + 1) = skipI x o k ++ [bitI (decide (k < (ordI x).length) && (ordI x).getD k 0 == o)] := by unfold skipI; rw [List.range_succ, List.map_append]; rfl
    have hdn : decide ((k : Int) < ((ordI x).length : Int)) = decide (k < (ordI x).length) := by
      by_cases h : k < (ordI x).length
      · rw [decide_eq_true h, decide_eq_true (by omega)]
      · rw [decide_eq_false h, decide_eq_false (by omega)]
    by_cases hk2 : k < (ordI x).length
    · obtain ⟨i, hi⟩ := getIn hk2
      have b1 := inB hk2
      simp only [go_sem, e1, e2, e7, e9, e8, List.length_map, getD_map hi, b1]
      refine PC.use (bit30_c _) ?_
      simp only [go_sem, e1, e2, e7, e9, e8]
      refine wappE_i R ⟨rfl, rfl⟩ ⟨rfl, trivial⟩ (by simp only [List.length_map, List.length_cons, List.length_nil]; omega) (fun j' hj' => ?_)
      simp only [go_sem, e1, e2, e7, e9, e8, wrapS (show k ≤ 4611686018427387904 by omega)]
      refine ⟨⟨k + 1, j', hlt, rfl, rfl, ?_⟩, by simp only [natOf_int]; omega⟩
      rw [hs, List.getD, hi, decide_eq_true hk2]
      simp only [Option.getD_some, Bool.true_and]
      exact row_appG rfl
    · have hge2 : decide ((k : Int) < ((ordI x).length : Int)) = false := by rw [hdn, decide_eq_false hk2]
      have hno : (List.map encInt (ordI x)).getD k [] = [] := by rw [List.getD, List.getElem?_eq_none (by rw [List.length_map]; omega)]; rfl
      simp only [go_sem, e1, e2, e7, e9, e8, List.length_map, hge2, hno]
      refine PC.use (bit30_c _) ?_
      simp only [go_sem, e1, e2, e7, e9, e8]
      refine wappE_i R ⟨rfl, rfl⟩ ⟨rfl, trivial⟩ (by simp only [List.length_map, List.length_cons, List.length_nil]; omega) (fun j' hj' => ?_)
      simp only [go_sem, e1, e2, e7, e9, e8, wrapS (show k ≤ 4611686018427387904 by omega)]
      refine ⟨⟨k + 1, j', hlt, rfl, rfl, ?_⟩, by simp only [natOf_int]; omega⟩
      rw [hs, decide_eq_false hk2]
      simp only [Bool.false_and]
      exact row_appG rfl
  have hge := geB hk (by simpa using hge)
  subst hge
  simp only [go_sem, e1, e2, e7, e9, e8]
  exact .row _ _ _ R (ConvE.refl _)
theorem allows_eq {x : Instance} {d : Decision} (h : Dec.knownR x d = 0) (hx : x.orders.length ≤ 62) (s : Int) : allowsR d s = !forbidsR d s := by
  have hin : ∀ i : Int, Dec.orderR x i = true → Dec.hasR s i = hasN s i := by
    intro i hi
    unfold Dec.orderR at hi
    simp only [Bool.and_eq_true, decide_eq_true_eq] at hi
    unfold Dec.hasR hasN
    rw [decide_eq_true hi.1, decide_eq_true (show i ≤ 62 by omega)]; rfl
  unfold Dec.knownR at h
  unfold allowsR forbidsR
  by_cases h1 : d.kind = 1
  · rw [if_pos (.inl h1)] at h
    rw [if_pos h1, if_pos h1]
    split at h
    · next hc =>
      simp only [Bool.and_eq_true] at hc
      rw [hin d.a hc.1.1, hin d.b hc.1.2]
      cases hasN s d.a <;> cases hasN s d.b <;> rfl
    · cases h
  · by_cases h2 : d.kind = 2
    · rw [if_pos (.inr h2)] at h
      rw [if_neg h1, if_pos h2, if_neg h1, if_pos h2]
      split at h
      · next hc =>
        simp only [Bool.and_eq_true] at hc
        rw [hin d.a hc.1.1, hin d.b hc.1.2]
        cases hasN s d.a <;> cases hasN s d.b <;> rfl
      · cases h
    · by_cases h6 : d.kind = 6
      · rw [if_neg (by omega), if_pos (.inr h6)] at h
        rw [if_neg h1, if_neg h2, if_pos h6, if_neg h1, if_neg h2, if_pos h6]
        split at h
        · next hc => rw [hin d.a hc]
        · cases h
      · rw [if_neg h1, if_neg h2, if_neg h6, if_neg h1, if_neg h2, if_neg h6]; rfl
theorem chk_all {x : Instance} {ds : List Decision} (h : chkR x ds = 0) : ∀ d ∈ ds, Dec.knownR x d = 0 := by
  unfold chkR at h
  split at h
  · cases h
  · exact fun d hd => Dec.firstErr_zero h _ (List.mem_map.2 ⟨d, hd, rfl⟩)
theorem inside30_c (x : Instance) (cols : List Column) (ds : List Decision) (hck : chkR x ds = 0) (hx : x.orders.length ≤ 62) (hl : cols.length ≤ 1048576) (hd : ds.length ≤ 1048576) (hdb : ∀ d ∈ ds, decB d) (hs : ∀ c ∈ cols, 0 ≤ c.set ∧ c.set ≤ 9223372036854775807) :
    PC Tryz.prog 49 [.sl (cols.map encColumn), .sl (ds.map encDecision)] (.sl ((inM cols ds).map encColumn)) := by
  refine PC.body (c := Tryz.f49.body.getD .skip) (fun t => t == 5) mixed Tryz.func49 rfl (by kernel_rfl) ?_
  unfold Tryz.f49
  simp only [Option.getD_some]
  simp only [go_sem]
  refine anew_i fun j hj0 => ?_
  generalize hGj : updH _ j _ = HGj
  have R : HGj j = some (colRow' []) := by rw [← hGj, updH_same]; rfl
  clear hGj hj0
  simp only [go_sem, R]
  refine ⟨fun ρ H => ∃ (k : Nat) (j : Nat), k ≤ cols.length ∧ ρ 0 = .sl (cols.map encColumn) ∧ ρ 1 = .sl (ds.map encDecision) ∧ ρ 6 = int k ∧ ρ 5 = .os j ∧ H j = some (colRow' (inM (cols.take k) ds)), fun ρ _ => cols.length - natOf (ρ 6), ⟨0, j, Nat.zero_le _, by simp only [go_sem], by simp only [go_sem], (by simp only [go_sem]; rfl), by simp only [go_sem], R⟩, ?_⟩
  rintro ρ H ⟨k, j, hk, e0, e1, e6, e5, R⟩
  simp only [go_sem, e0, e1, e6, e5]
  refine acond_i (fun hlt => ?_) (fun hge => ?_)
  · have hlt := ltB (by simpa using hlt)
    obtain ⟨c, hc⟩ := getIn hlt
    have b1 := inB hlt
    have hsc := hs c (List.mem_of_getElem? hc)
    have hfs : inM (cols.take (k + 1)) ds = inM (cols.take k) ds ++ (if (ds.all fun d => allowsR d c.set) = true then [c] else []) := filter_take (p := fun c : Column => ds.all fun d => allowsR d c.set) hc
    have hln : (inM (cols.take k) ds).length ≤ k := filter_tl _ _ _
    have hal : (ds.all fun d => !forbidsR d c.set) = ds.all fun d => allowsR d c.set := by
      rw [Bool.eq_iff_iff, List.all_eq_true, List.all_eq_true]
      exact forall_congr' fun d => forall_congr' fun hdm => by rw [allows_eq (chk_all hck d hdm) hx]
    simp only [go_sem, e0, e1, e6, e5, getD_map hc, b1]
    refine PC.use (Dec.Allows29_c ds c hd hdb hsc.1 hsc.2) ?_
    rw [hal]
    simp only [go_sem, e0, e1, e6, e5]
    refine acond_i (fun hb => ?_) (fun hb => ?_)
    · rw [if_pos hb] at hfs
      simp only [go_sem, e0, e1, e6, e5, getD_map hc, b1]
      refine wappE_i R ⟨rfl, rfl⟩ ⟨rfl, trivial⟩ (by simp only [List.length_map, List.length_cons, List.length_nil]; omega) (fun j' hj' => ?_)
      simp only [go_sem, e0, e1, e6, e5, wrapS (show k ≤ 4611686018427387904 by omega)]
      refine ⟨⟨k + 1, j', hlt, rfl, rfl, ?_⟩, by simp only [natOf_int]; omega⟩
      rw [hfs]
      exact row_appG rfl
    · rw [if_neg (by rw [hb]; simp), List.append_nil] at hfs
      simp only [go_sem, e0, e1, e6, e5, wrapS (show k ≤ 4611686018427387904 by omega)]
      exact ⟨⟨k + 1, j, hlt, rfl, rfl, by rw [hfs]; exact R⟩, by simp only [natOf_int]; omega⟩
  have hge := geB (by omega) (by simpa using hge)
  subst hge
  rw [List.take_length] at R
  simp only [go_sem, e0, e1, e6, e5]
  exact .row _ _ _ R (ConvE.refl _)
def sumP (s : Nat) (l : List Int) : Nat := (l.map fun i => if hasR s i = true then 2 ^ i.toNat else 0).sum
theorem sumP_succ {s : Nat} {l : List Int} {k : Nat} {i : Int} (h : l[k]? = some i) : sumP s (l.take (k + 1)) = sumP s (l.take k) + (if hasR s i = true then 2 ^ i.toNat else 0) := by
  unfold sumP
  rw [take_succ h, List.map_append, List.sum_append]
  simp
theorem sumP_le (s : Nat) (l : List Int) (k : Nat) : sumP s (l.take k) ≤ sumP s l := by
  have : sumP s l = sumP s (l.take k) + sumP s (l.drop k) := by
    unfold sumP
    rw [← List.sum_append, ← List.map_append, List.take_append_drop]
  omega
theorem sumP_to (x : Instance) (s : Nat) : ∀ k, k ≤ x.orders.length → x.orders.length ≤ 62 → sumP s (ordTo x k) = bitsN (fun i => suchB (fun _ => true) x.orders i && s.testBit i) k
  | 0, _, _ => rfl
  | k + 1, hk, h62 => by
    obtain ⟨o, ho⟩ := getIn (show k < x.orders.length by omega)
    have ih := sumP_to x s k (by omega) h62
    rw [ordTo_succ ho, bitsN, ← ih]
    have e := suchB_at (q := fun _ => true) ho
    unfold sumP
    rw [List.map_append, List.sum_append]
    cases hf : o.off
    · rw [if_neg (by simp), e, hf]
      simp only [List.map_cons, List.map_nil, List.sum_cons, List.sum_nil, Int.toNat_natCast, Bool.not_false, Bool.true_and, Bool.and_true, Nat.add_zero]
      rw [hasR_nat (by omega)]
    · rw [if_pos rfl, e, hf]
      simp
theorem sumP_all (x : Instance) (s : Nat) (h : x.orders.length ≤ 62) : sumP s (ordI x) = s &&& allO x := by
  have : sumP s (ordI x) = bitsN (fun i => suchB (fun _ => true) x.orders i && s.testBit i) x.orders.length := sumP_to x s _ (Nat.le_refl _) h
  rw [this]
  refine Nat.eq_of_testBit_eq fun i => ?_
  have ha : (allO x).testBit i = (decide (i < x.orders.length) && suchB (fun _ => true) x.orders i) := bitsN_test _ _ _
  rw [bitsN_test, Nat.testBit_and, ha]
  cases decide (i < x.orders.length) <;> cases suchB (fun _ => true) x.orders i <;> cases s.testBit i <;> rfl
theorem has30n_c (s i : Int) (hs : s < 0) : PC Tryz.prog 170 [int s, int i] (boo false) := by
  refine PC.body (c := Tryz.f170.body.getD .skip) (fun _ => false) mixed Tryz.func170 rfl (by kernel_rfl) ?_
  unfold Tryz.f170
  simp only [Option.getD_some]
  simp only [go_sem]
  refine ⟨fun _ => by decide, ?_⟩
  refine cB ?_
  rw [decide_eq_false (show ¬ s ≥ 0 by omega)]; rfl
theorem sound30_c (x : Instance) (c : Column) (hx : x.orders.length ≤ 62) (ht : x.types.length ≤ 1048576) (hs : i64I c.set) : PC Tryz.prog 168 [.agg (encInstance x), .agg (encColumn c)] (boo (!badC x c)) := by
  have hol := ordI_len x
  refine PC.body (c := Tryz.f168.body.getD .skip) (fun _ => false) mixed Tryz.func168 rfl (by kernel_rfl) ?_
  unfold Tryz.f168
  simp only [Option.getD_some]
  simp only [go_sem]
  refine PC.use (orders30_c x (by omega)) ?_
  simp only [go_sem]
  by_cases hneg : c.set < 0
  · skip
    refine ⟨fun ρ H => ∃ (k : Nat), k ≤ (ordI x).length ∧ ρ 2 = .rp (encInstance x) 0 ∧ ρ 3 = .rp (encColumn c) 0 ∧ ρ 6 = .sl ((ordI x).map encInt) ∧ ρ 7 = int k ∧ ρ 5 = int c.set, fun ρ _ => (ordI x).length - natOf (ρ 7), ⟨0, Nat.zero_le _, by simp only [go_sem], by simp only [go_sem], by simp only [go_sem], (by simp only [go_sem]; rfl), by simp only [go_sem]⟩, ?_⟩
    rintro ρ H ⟨k, hk, e2, e3, e6, e7, e5⟩
    simp only [go_sem, e2, e3, e6, e7, e5]
    refine acond_i (fun hlt => ?_) (fun hge => ?_)
    · have hlt := ltB (by simpa using hlt)
      obtain ⟨i, hi⟩ := getIn hlt
      have b1 := inB hlt
      simp only [go_sem, e2, e3, e6, e7, e5]
      refine adraw_m [(0, true), (1, true), (2, true), (3, true), (4, true), (5, true), (6, false)] (by kernel_rfl) ?_
      simp only [go_sem, e2, e3, e6, e7, e5, getD_map hi, b1]
      refine PC.use (has30n_c c.set i hneg) ?_
      simp only [go_sem, e2, e3, e6, e7, e5]
      refine acond_i (fun hb => by cases hb) (fun hb => ?_)
      simp only [go_sem, e2, e3, e6, e7, e5, wrapS (show k ≤ 4611686018427387904 by omega)]
      exact ⟨⟨k + 1, hlt, rfl⟩, by simp only [natOf_int]; omega⟩
    have hge := geB hk (by simpa using hge)
    subst hge
    simp only [go_sem, e2, e3, e6, e7, e5, List.length_map]
    refine cB ?_
    unfold badC
    rw [decide_eq_false (show ¬ c.set > 0 by omega), decide_eq_true (show c.set ≤ 0 by omega)]
    simp
  obtain ⟨s, hsn⟩ := Int.eq_ofNat_of_zero_le (show 0 ≤ c.set by omega)
  have hs63 : s < 2 ^ 63 := by have := hs.2; omega
  have hall := sumP_all x s hx
  have hale : s &&& allO x ≤ s := Nat.and_le_left
  rw [hsn]
  refine ⟨fun ρ H => ∃ (k : Nat), k ≤ (ordI x).length ∧ ρ 2 = .rp (encInstance x) 0 ∧ ρ 3 = .rp (encColumn c) 0 ∧ ρ 6 = .sl ((ordI x).map encInt) ∧ ρ 7 = int k ∧ ρ 5 = int ((s - sumP s ((ordI x).take k) : Nat) : Int), fun ρ _ => (ordI x).length - natOf (ρ 7), ⟨0, Nat.zero_le _, by simp only [go_sem], by simp only [go_sem], by simp only [go_sem], (by simp only [go_sem]; rfl), by simp only [go_sem]; rfl⟩, ?_⟩
  rintro ρ H ⟨k, hk, e2, e3, e6, e7, e5⟩
  simp only [go_sem, e2, e3, e6, e7, e5]
  refine acond_i (fun hlt => ?_) (fun hge => ?_)
  · have hlt := ltB (by simpa using hlt)
    obtain ⟨i, hi⟩ := getIn hlt
    have b1 := inB hlt
    obtain ⟨n, o, rfl, hn, ho, hoff⟩ := ordI_in (List.mem_of_getElem? hi)
    have hsc := sumP_succ (s := s) hi
    have hle := sumP_le s (ordI x) (k + 1)
    simp only [go_sem, e2, e3, e6, e7, e5]
    refine adraw_m [(0, true), (1, true), (2, true), (3, true), (4, true), (5, true), (6, false)] (by kernel_rfl) ?_
    simp only [go_sem, e2, e3, e6, e7, e5, getD_map hi, b1, hsn]
    refine PC.use (has30_c s _ hs63) ?_
    simp only [go_sem, e2, e3, e6, e7, e5]
    refine acond_i (fun hb => ?_) (fun hb => ?_)
    · rw [if_pos hb, Int.toNat_natCast] at hsc
      have hu : IntKind.u64.wrap ((n : Nat) : Int) = ((n : Nat) : Int) := by
        show ((n : Nat) : Int) % 18446744073709551616 = _
        omega
      have hpw : 2 ^ n ≤ 2 ^ 62 := Nat.pow_le_pow_right (by decide) (by omega)
      have hw : IntKind.i64.wrap (((s - sumP s ((ordI x).take k) : Nat) : Int) - ((2 ^ n : Nat) : Int)) = ((s - sumP s ((ordI x).take (k + 1)) : Nat) : Int) := by
        generalize 2 ^ n = P at *
        rw [wrap_in (by omega)]; omega
      simp only [go_sem, e2, e3, e6, e7, e5, getD_map hi, b1, hu, shl_in (show n ≤ 62 by omega), hw, wrapS (show k ≤ 4611686018427387904 by omega)]
      refine ⟨by omega, ⟨k + 1, hlt, rfl, rfl⟩, by simp only [natOf_int]; omega⟩
    · rw [if_neg (by rw [hb]; simp), Nat.add_zero] at hsc
      simp only [go_sem, e2, e3, e6, e7, e5, wrapS (show k ≤ 4611686018427387904 by omega)]
      exact ⟨⟨k + 1, hlt, rfl, by rw [hsc, Nat.add_zero]⟩, by simp only [natOf_int]; omega⟩
  have hge := geB hk (by simpa using hge)
  subst hge
  rw [List.take_length, hall] at e5
  simp only [go_sem, e2, e3, e6, e7, e5, List.length_map]
  refine cB ?_
  unfold badC
  rw [hsn, Int.toNat_natCast]
  by_cases h0 : s = 0
  · subst h0; simp
  · have e1 : ((((s - (s &&& allO x) : Nat) : Int)) == 0) = decide (s &&& allO x = s) := by
      rw [Bool.eq_iff_iff, beq_iff_eq, decide_eq_true_eq]
      omega
    rw [e1]
    have e2 : decide ((s : Int) > 0) = true := by simp; omega
    have e3 : decide ((s : Int) ≤ 0) = false := by simp; omega
    rw [e2, e3]
    by_cases ht0 : c.type < 0
    · rw [decide_eq_true ht0, decide_eq_false (show ¬ c.type ≥ 0 by omega)]; simp
    · rw [decide_eq_false ht0, decide_eq_true (show c.type ≥ 0 by omega)]
      by_cases ht1 : c.type < (x.types.length : Int)
      · rw [decide_eq_true ht1, decide_eq_false (show ¬ c.type ≥ (x.types.length : Int) by omega)]; simp
      · rw [decide_eq_false ht1, decide_eq_true (show c.type ≥ (x.types.length : Int) by omega)]; simp
end Go.Proofs.YtbcfajfngdmgnaaGreatDoor.Nu
end

section
set_option linter.unusedSimpArgs false
set_option linter.unusedVariables false
namespace Go.Proofs.YtbcfajfngdmgnaaGreatDoor.Nu
open Go.Aw Go.Aw.D Go.Proofs Ty Go.Nu
open Dec (chkR allowsR forbidsR decB hasN)
set_option maxRecDepth 100000
abbrev rwRow (l : List PRow) : Row := ⟨144, 3, l.map encPRow⟩
theorem bare30_c (x : Instance) (cuts : List Cut) (ds : List Decision) (h : MIn x cuts ds) :
    PC Tryz.prog 104 [.agg (encInstance x), .sl (cuts.map encCut), .sl (ds.map encDecision)] (.sl ((rowsM x cuts ds).map encPRow)) := by
  have h1 := h.orders
  have h2 := h.types
  have h3 := h.cl
  have h4 := h.dl
  have hol := ordI_len x
  unfold rowsM
  refine PC.body (c := Tryz.f104.body.getD .skip) (fun t => t == 7) mixed Tryz.func104 rfl (by kernel_rfl) ?_
  unfold Tryz.f104
  simp only [Option.getD_some]
  simp only [go_sem]
  refine anew_i fun j hj0 => ?_
  generalize hGj : updH _ j _ = HGj
  have R : HGj j = some (rwRow []) := by rw [← hGj, updH_same]; rfl
  clear hGj hj0
  simp only [go_sem, R]
  refine ⟨fun ρ H => ∃ (k j : Nat), k ≤ (ordI x).length ∧ ρ 1 = .sl (cuts.map encCut) ∧ ρ 2 = .sl (ds.map encDecision) ∧ ρ 3 = .rp (encInstance x) 0 ∧ ρ 8 = int k ∧ ρ 7 = .os j ∧ H j = some (rwRow (rowsO k)), fun ρ _ => (ordI x).length - natOf (ρ 8), ⟨0, j, Nat.zero_le _, by simp only [go_sem], by simp only [go_sem], by simp only [go_sem], by simp only [go_sem]; rfl, by simp only [go_sem], R⟩, ?_⟩
  rintro ρ H ⟨k, j, hk, e1, e2, e3, e8, e7, R⟩
  simp only [go_sem, e1, e2, e3, e7, e8]
  refine PC.use (orders30_c x (by omega)) ?_
  simp only [go_sem, e1, e2, e3, e7, e8, List.length_map]
  refine acond_i (fun hlt => ?_) (fun hge => ?_)
  · have hlt := ltB (by simpa using hlt)
    simp only [go_sem, e1, e2, e3, e7, e8]
    refine wappE_i R ⟨rfl, rfl⟩ ⟨rfl, trivial⟩ (by simp only [rowsO, List.length_map, List.length_replicate, List.length_cons, List.length_nil]; omega) (fun j' hj' => ?_)
    simp only [go_sem, e1, e2, e3, e7, e8, wrapS (show k ≤ 4611686018427387904 by omega)]
    refine ⟨⟨k + 1, j', hlt, rfl, rfl, ?_⟩, by simp only [natOf_int]; omega⟩
    rw [show rowsO (k + 1) = rowsO k ++ [⟨[], 2, 1⟩] from List.replicate_succ']
    exact row_appG rfl
  have hge := geB hk (by simpa using hge)
  subst hge
  simp only [go_sem, e1, e2, e3, e7, e8]
  generalize hB : rowsO (ordI x).length = B at R
  have hBl : B.length ≤ 62 := by rw [← hB]; unfold rowsO; rw [List.length_replicate]; omega
  refine ⟨fun ρ H => ∃ (k : Nat) (j : Nat), k ≤ x.types.length ∧ ρ 1 = .sl (cuts.map encCut) ∧ ρ 2 = .sl (ds.map encDecision) ∧ ρ 3 = .rp (encInstance x) 0 ∧ ρ 9 = int k ∧ ρ 7 = .os j ∧ H j = some (rwRow (B ++ rowsT (x.types.take k))), fun ρ _ => x.types.length - natOf (ρ 9), ⟨0, j, Nat.zero_le _, by simp only [go_sem, e1, e2, e3], by simp only [go_sem, e1, e2, e3], by simp only [go_sem, e1, e2, e3], (by simp only [go_sem, e1, e2, e3]; rfl), by simp only [go_sem, e7], by simpa [rowsT] using R⟩, ?_⟩
  rintro ρ H ⟨k, j, hk, e1, e2, e3, e9, e7, R⟩
  simp only [go_sem, e1, e2, e3, e9, e7]
  refine acond_i (fun hlt => ?_) (fun hge => ?_)
  · have hlt := ltB (by simpa using hlt)
    obtain ⟨t, ht⟩ := getIn hlt
    have b1 := inB hlt
    have hlen : (B ++ rowsT (x.types.take k)).length ≤ 62 + k := by unfold rowsT; simp only [List.length_append, List.length_map, List.length_take]; omega
    simp only [go_sem, e1, e2, e3, e9, e7, getD_map ht, b1]
    refine wappE_i R ⟨rfl, rfl⟩ ⟨rfl, trivial⟩ (by simp only [List.length_map, List.length_cons, List.length_nil]; omega) (fun j' hj' => ?_)
    have e : B ++ rowsT (x.types.take (k + 1)) = B ++ rowsT (x.types.take k) ++ [⟨[], 1, t.count⟩] := by unfold rowsT; rw [take_succ ht, List.map_append, List.append_assoc]; rfl
    simp only [go_sem, e1, e2, e3, e9, e7, wrapS (show k ≤ 4611686018427387904 by omega)]
    refine ⟨⟨k + 1, j', hlt, rfl, rfl, ?_⟩, by simp only [natOf_int]; omega⟩
    rw [e]
    exact row_appG rfl
  have hge := geB hk (by simpa using hge)
  subst hge
  rw [List.take_length] at R
  simp only [go_sem, e1, e2, e3, e9, e7]
  generalize hB2 : B ++ rowsT x.types = B2 at R
  have hBl2 : B2.length ≤ 62 + 1048576 := by rw [← hB2]; unfold rowsT; rw [List.length_append, List.length_map]; omega
  refine ⟨fun ρ H => ∃ (k : Nat) (j : Nat), k ≤ cuts.length ∧ ρ 1 = .sl (cuts.map encCut) ∧ ρ 2 = .sl (ds.map encDecision) ∧ ρ 10 = int k ∧ ρ 7 = .os j ∧ H j = some (rwRow (B2 ++ rowsC (cuts.take k))), fun ρ _ => cuts.length - natOf (ρ 10), ⟨0, j, Nat.zero_le _, by simp only [go_sem, e1, e2], by simp only [go_sem, e1, e2], (by simp only [go_sem, e1, e2]; rfl), by simp only [go_sem, e7], by simpa [rowsC] using R⟩, ?_⟩
  rintro ρ H ⟨k, j, hk, e1, e2, e10, e7, R⟩
  simp only [go_sem, e1, e2, e10, e7]
  refine acond_i (fun hlt => ?_) (fun hge => ?_)
  · have hlt := ltB (by simpa using hlt)
    obtain ⟨q, hq⟩ := getIn hlt
    have b1 := inB hlt
    have hlen : (B2 ++ rowsC (cuts.take k)).length ≤ 62 + 1048576 + k := by unfold rowsC; simp only [List.length_append, List.length_map, List.length_take]; omega
    simp only [go_sem, e1, e2, e10, e7, getD_map hq, b1]
    refine PC.use (row28_c q) ?_
    simp only [go_sem, e1, e2, e10, e7]
    refine wappE_i R ⟨rfl, rfl⟩ ⟨rfl, trivial⟩ (by simp only [List.length_map, List.length_cons, List.length_nil]; omega) (fun j' hj' => ?_)
    have e : B2 ++ rowsC (cuts.take (k + 1)) = B2 ++ rowsC (cuts.take k) ++ [⟨[], (rowC q).1, (rowC q).2⟩] := by unfold rowsC; rw [take_succ hq, List.map_append, List.append_assoc]; rfl
    simp only [go_sem, e1, e2, e10, e7, wrapS (show k ≤ 4611686018427387904 by omega)]
    refine ⟨⟨k + 1, j', hlt, rfl, rfl, ?_⟩, by simp only [natOf_int]; omega⟩
    rw [e]
    exact row_appG rfl
  have hge := geB hk (by simpa using hge)
  subst hge
  rw [List.take_length] at R
  simp only [go_sem, e1, e2, e10, e7]
  generalize hB3 : B2 ++ rowsC cuts = B3 at R
  have hBl3 : B3.length ≤ 62 + 1048576 + 1048576 := by rw [← hB3]; unfold rowsC; rw [List.length_append, List.length_map]; omega
  refine ⟨fun ρ H => ∃ (k : Nat) (j : Nat), k ≤ ds.length ∧ ρ 2 = .sl (ds.map encDecision) ∧ ρ 13 = int k ∧ ρ 7 = .os j ∧ H j = some (rwRow (B3 ++ rowsD (ds.take k))), fun ρ _ => ds.length - natOf (ρ 13), ⟨0, j, Nat.zero_le _, by simp only [go_sem, e2], (by simp only [go_sem, e2]; rfl), by simp only [go_sem, e7], by simpa [rowsD] using R⟩, ?_⟩
  rintro ρ H ⟨k, j, hk, e2, e13, e7, R⟩
  simp only [go_sem, e2, e13, e7]
  refine acond_i (fun hlt => ?_) (fun hge => ?_)
  · have hlt := ltB (by simpa using hlt)
    obtain ⟨d, hd⟩ := getIn hlt
    have b1 := inB hlt
    have hs := filterMap_take hd
    have hlen : (B3 ++ rowsD (ds.take k)).length ≤ 62 + 1048576 + 1048576 + k := by
      have := cntD_len ds k
      rw [List.length_append, rowsD_len]; omega
    simp only [go_sem, e2, e13, e7, getD_map hd, b1]
    refine acond_i (fun hb => ?_) (fun hb => ?_)
    · have h3 : d.kind = 3 := by simpa using hb
      rw [show rowD d = some ⟨[], 1, d.n⟩ from if_pos h3] at hs
      have e : B3 ++ rowsD (ds.take (k + 1)) = B3 ++ rowsD (ds.take k) ++ [⟨[], 1, d.n⟩] := by rw [hs, List.append_assoc]; rfl
      simp only [go_sem, e2, e13, e7, getD_map hd, b1]
      refine wappE_i R ⟨rfl, rfl⟩ ⟨rfl, trivial⟩ (by simp only [List.length_map, List.length_cons, List.length_nil]; omega) (fun j' hj' => ?_)
      simp only [go_sem, e2, e13, e7, getD_map hd, b1]
      refine acond_i (fun hb => ?_) (fun hb => ?_)
      · simp at hb; omega
      simp only [go_sem, e2, e13, e7, wrapS (show k ≤ 4611686018427387904 by omega)]
      refine ⟨⟨k + 1, j', hlt, rfl, rfl, ?_⟩, by simp only [natOf_int]; omega⟩
      rw [e]
      exact row_appG rfl
    have h3 : d.kind ≠ 3 := by simpa using hb
    simp only [go_sem, e2, e13, e7, getD_map hd, b1]
    refine acond_i (fun hb => ?_) (fun hb => ?_)
    · have h4 : d.kind = 4 := by simpa using hb
      rw [show rowD d = some ⟨[], 3, d.n⟩ from (if_neg h3).trans (if_pos h4)] at hs
      have e : B3 ++ rowsD (ds.take (k + 1)) = B3 ++ rowsD (ds.take k) ++ [⟨[], 3, d.n⟩] := by rw [hs, List.append_assoc]; rfl
      simp only [go_sem, e2, e13, e7, getD_map hd, b1]
      refine wappE_i R ⟨rfl, rfl⟩ ⟨rfl, trivial⟩ (by simp only [List.length_map, List.length_cons, List.length_nil]; omega) (fun j' hj' => ?_)
      simp only [go_sem, e2, e13, e7, wrapS (show k ≤ 4611686018427387904 by omega)]
      refine ⟨⟨k + 1, j', hlt, rfl, rfl, ?_⟩, by simp only [natOf_int]; omega⟩
      rw [e]
      exact row_appG rfl
    have h4 : d.kind ≠ 4 := by simpa using hb
    rw [show rowD d = none from (if_neg h3).trans (if_neg h4)] at hs
    simp only [go_sem, e2, e13, e7, wrapS (show k ≤ 4611686018427387904 by omega)]
    refine ⟨⟨k + 1, j, hlt, rfl, rfl, ?_⟩, by simp only [natOf_int]; omega⟩
    rw [hs]
    simpa using R
  have hge := geB hk (by simpa using hge)
  subst hge
  rw [List.take_length] at R
  simp only [go_sem, e2, e13, e7]
  exact .row _ _ _ R (ConvE.refl _)
def check30M (x : Instance) (d : Nat) (cols : List Column) (cuts : List Cut) (ds : List Decision) : Int :=
  if wrongM x d cols cuts ds ≠ 0 then wrongM x d cols cuts ds else if rowsN x cuts ds > 64 ∨ (inM cols ds).length + (skipsM x ds).length > 8192 then 4 else 0
theorem check30_c (x : Instance) (d : Nat) (cols : List Column) (cuts : List Cut) (ds : List Decision) (hlo : LoadsOk x d) (hne : x.types ≠ []) (h : MIn x cuts ds) (hl : cols.length ≤ 1048576) (hs : ∀ c ∈ cols, i64I c.set) (hq : ∀ q ∈ cuts, q.set ≤ 9223372036854775807) (hdb : ∀ d ∈ ds, decB d) :
    PC Tryz.prog 103 [.agg (encInstance x), .sl (cols.map encColumn), .sl (cuts.map encCut), .sl (ds.map encDecision)] (int (check30M x d cols cuts ds)) := by
  have h1 := h.orders
  have h2 := h.types
  have h3 := h.cl
  have h4 := h.dl
  have hol := ordI_len x
  unfold check30M wrongM
  refine PC.body (c := Tryz.f103.body.getD .skip) (fun _ => false) mixed Tryz.func103 rfl (by kernel_rfl) ?_
  unfold Tryz.f103
  simp only [Option.getD_some]
  simp only [go_sem]
  refine PC.use (Dec.chk29_c x ds h4) ?_
  simp only [go_sem]
  refine acond_i (fun hb => ?_) (fun hb => ?_)
  · have hb : chkR x ds ≠ 0 := by simpa using hb
    rw [if_pos hb, if_pos hb]
    simp only [go_sem]
    exact .refl _
  have hck : chkR x ds = 0 := by simpa using hb
  rw [if_neg (show ¬ chkR x ds ≠ 0 by simp [hck])]
  simp only [go_sem]
  refine ⟨fun ρ H => ∃ (k : Nat), k ≤ cuts.length ∧ ρ 1 = .sl (cols.map encColumn) ∧ ρ 2 = .sl (cuts.map encCut) ∧ ρ 3 = .sl (ds.map encDecision) ∧ ρ 4 = .rp (encInstance x) 0 ∧ ρ 10 = int k ∧ ∀ e ∈ (cuts.map (rightC x d)).take k, e = 0, fun ρ _ => cuts.length - natOf (ρ 10), ⟨0, Nat.zero_le _, by simp only [go_sem], by simp only [go_sem], by simp only [go_sem], by simp only [go_sem], (by simp only [go_sem]; rfl), by simp⟩, ?_⟩
  rintro ρ H ⟨k, hk, e1, e2, e3, e4, e10, hz⟩
  simp only [go_sem, e1, e2, e3, e4, e10]
  refine acond_i (fun hlt => ?_) (fun hge => ?_)
  · have hlt := ltB (by simpa using hlt)
    obtain ⟨q, hqq⟩ := getIn hlt
    have b1 := inB hlt
    have hm : (cuts.map (rightC x d))[k]? = some (rightC x d q) := by rw [List.getElem?_map, hqq]; rfl
    have hqs := hq q (List.mem_of_getElem? hqq)
    simp only [go_sem, e1, e2, e3, e4, e10]
    refine adraw_m [(0, true), (1, true), (2, true), (3, true), (4, true), (5, false), (6, false)] (by kernel_rfl) ?_
    simp only [go_sem, e1, e2, e3, e4, e10, getD_map hqq, b1]
    refine PC.use (right28_c x d q hlo hne (by omega)) ?_
    simp only [go_sem, e1, e2, e3, e4, e10]
    refine acond_i (fun hb => ?_) (fun hb => ?_)
    · have he := Dec.firstErr_hit hz hm hb
      have hn : rightC x d q ≠ 0 := by simpa using hb
      rw [he, if_pos hn, if_pos hn]
      simp only [go_sem]
      exact .refl _
    · simp only [go_sem, e1, e2, e3, e4, e10, wrapS (show k ≤ 4611686018427387904 by omega)]
      exact ⟨⟨k + 1, hlt, rfl, take_all' (p := fun e : Int => e = 0) hm (by simpa using hb) hz⟩, by simp only [natOf_int]; omega⟩
  have hge := geB hk (by simpa using hge)
  subst hge
  rw [List.take_of_length_le (by rw [List.length_map]; exact Nat.le_refl _)] at hz
  rw [Dec.firstErr_none hz, if_neg (show ¬ (0 : Int) ≠ 0 by simp)]
  simp only [go_sem, e1, e2, e3, e4, e10]
  refine ⟨fun ρ H => ∃ (k : Nat), k ≤ cols.length ∧ ρ 1 = .sl (cols.map encColumn) ∧ ρ 2 = .sl (cuts.map encCut) ∧ ρ 3 = .sl (ds.map encDecision) ∧ ρ 4 = .rp (encInstance x) 0 ∧ ρ 12 = int k ∧ ∀ c ∈ cols.take k, badC x c = false, fun ρ _ => cols.length - natOf (ρ 12), ⟨0, Nat.zero_le _, by simp only [go_sem, e1, e2, e3, e4], by simp only [go_sem, e1, e2, e3, e4], by simp only [go_sem, e1, e2, e3, e4], by simp only [go_sem, e1, e2, e3, e4], (by simp only [go_sem, e1, e2, e3, e4]; rfl), by simp⟩, ?_⟩
  rintro ρ H ⟨k, hk, e1, e2, e3, e4, e12, hz⟩
  simp only [go_sem, e1, e2, e3, e4, e12]
  refine acond_i (fun hlt => ?_) (fun hge => ?_)
  · have hlt := ltB (by simpa using hlt)
    obtain ⟨c, hc⟩ := getIn hlt
    have b1 := inB hlt
    simp only [go_sem, e1, e2, e3, e4, e12]
    refine adraw_m [(0, true), (1, true), (2, true), (3, true), (4, true), (5, false), (6, false)] (by kernel_rfl) ?_
    simp only [go_sem, e1, e2, e3, e4, e12, getD_map hc, b1]
    refine PC.use (sound30_c x c h1 h2 (hs c (List.mem_of_getElem? hc))) ?_
    simp only [go_sem, e1, e2, e3, e4, e12]
    refine acond_i (fun hb => ?_) (fun hb => ?_)
    · have hb : badC x c = true := by simpa using hb
      have ha : cols.any (badC x) = true := List.any_eq_true.2 ⟨c, List.mem_of_getElem? hc, hb⟩
      rw [if_pos ha]
      simp only [go_sem]
      exact .refl _
    · have hb : badC x c = false := by simpa using hb
      simp only [go_sem, e1, e2, e3, e4, e12, wrapS (show k ≤ 4611686018427387904 by omega)]
      exact ⟨⟨k + 1, hlt, rfl, take_all' (p := fun c => badC x c = false) hc hb hz⟩, by simp only [natOf_int]; omega⟩
  have hge := geB hk (by simpa using hge)
  subst hge
  rw [List.take_length] at hz
  have hany : ¬ cols.any (badC x) = true := by
    intro hc
    obtain ⟨c, hc1, hc2⟩ := List.any_eq_true.1 hc
    rw [hz c hc1] at hc2; cases hc2
  rw [if_neg hany, if_neg (show ¬ (0 : Int) ≠ 0 by simp)]
  have hin := inside30_c x cols ds hck h1 hl h4 hdb fun c hc => by
    have := badC_set (hz c hc)
    have := (hs c hc).2
    omega
  have hLl : (inM cols ds).length ≤ cols.length := List.length_filter_le _ _
  have hSl : (skipsM x ds).length ≤ (ordI x).length := List.length_filter_le _ _
  have hsk := skips30_c x ds h1 h4
  generalize inM cols ds = L at *
  generalize skipsM x ds = K at *
  have w : IntKind.i64.wrap ((L.length : Int) + (K.length : Int)) = ((L.length + K.length : Nat) : Int) := by rw [wrap_in (by omega)]; omega
  simp only [go_sem, e1, e2, e3, e4, e12]
  refine adraw_m [(0, true), (1, true), (2, true), (3, true), (4, true), (5, true), (6, true), (7, true), (10, true), (11, true), (8, false), (9, true), (12, false), (13, false), (14, false), (15, false), (16, false)] (by kernel_rfl) ?_
  simp only [go_sem, e1, e2, e3, e4, e12]
  refine ⟨_, (rows30_c x cuts ds h).q rfl, ?_⟩
  simp only [go_sem, e1, e2, e3, e4, e12]
  refine ⟨_, fun _ => hin.qn, ?_⟩
  simp only [go_sem, e1, e2, e3, e4, e12, List.length_map]
  refine ⟨_, fun _ => hsk.qn, ?_⟩
  simp only [go_sem, e1, e2, e3, e4, e12, List.length_map, w]
  refine acond_i (fun hb => ?_) (fun hb => ?_)
  · rw [if_pos (by simp at hb; omega)]
    simp only [go_sem]
    exact .refl _
  · rw [if_neg (by simp at hb; omega)]
    simp only [go_sem]
    exact .refl _
end Go.Proofs.YtbcfajfngdmgnaaGreatDoor.Nu
end

section
set_option linter.unusedSimpArgs false
set_option linter.unusedVariables false
namespace Go.Proofs.YtbcfajfngdmgnaaGreatDoor.Nu
open Go.Aw Go.Aw.D Go.Proofs Ty Go.Nu
open Dec (chkR allowsR forbidsR decB hasN)
set_option maxRecDepth 100000
def withR (rows : List PRow) (col : List Int) : List PRow := rows.mapIdx fun i r => addR1 r (col.getD i 0)
theorem withR_eq (rows : List PRow) (col : List Int) : withR rows col = addTo rows col rows.length := by
  refine List.ext_getElem? fun i => ?_
  unfold withR
  rw [List.getElem?_mapIdx, addTo_get]
  by_cases h : i < rows.length
  · rw [if_pos h]
  · rw [if_neg h, List.getElem?_eq_none (by omega)]; rfl
theorem withR_succ {rows : List PRow} {col : List Int} {k : Nat} {r : PRow} (h : rows[k]? = some r) : withR (rows.take (k + 1)) col = withR (rows.take k) col ++ [addR1 r (col.getD k 0)] := by
  unfold withR
  rw [take_succ h, List.mapIdx_append]
  have := (List.getElem?_eq_some_iff.1 h).1
  rw [List.length_take, Nat.min_eq_left (by omega)]
  simp
theorem int_all : ∀ l : List Int, allLen 1 (l.map encInt)
  | [] => trivial
  | _ :: r => ⟨rfl, int_all r⟩
theorem with30_c (rows : List PRow) (col : List Int) (hr : rows.length ≤ 1048576) (hc : rows.length ≤ col.length) (hcl : ∀ r ∈ rows, r.coef.length ≤ 1048576) :
    PC Tryz.prog 105 [.sl (rows.map encPRow), .sl (col.map encInt)] (.sl ((withR rows col).map encPRow)) := by
  refine PC.body (c := Tryz.f105.body.getD .skip) (fun t => t == 5 || t == 18 || t == 30) mixed Tryz.func105 rfl (by kernel_rfl) ?_
  unfold Tryz.f105
  simp only [Option.getD_some]
  simp only [go_sem]
  refine anew_i fun j hj0 => ?_
  generalize hGj : updH _ j _ = HGj
  have R : HGj j = some (rwRow []) := by rw [← hGj, updH_same]; rfl
  clear hGj hj0
  simp only [go_sem, R]
  refine ⟨fun ρ H => ∃ (k : Nat) (j : Nat), k ≤ rows.length ∧ ρ 0 = .sl (rows.map encPRow) ∧ ρ 1 = .sl (col.map encInt) ∧ ρ 6 = int k ∧ ρ 5 = .os j ∧ H j = some (rwRow (withR (rows.take k) col)), fun ρ _ => rows.length - natOf (ρ 6), ⟨0, j, Nat.zero_le _, by simp only [go_sem], by simp only [go_sem], (by simp only [go_sem]; rfl), by simp only [go_sem], R⟩, ?_⟩
  rintro ρ H ⟨k, j, hk, e0, e1, e6, e5, R⟩
  simp only [go_sem, e0, e1, e6, e5]
  refine acond_i (fun hlt => ?_) (fun hge => ?_)
  · have hlt := ltB (by simpa using hlt)
    obtain ⟨r, hrr⟩ := getIn hlt
    obtain ⟨m, hm⟩ := getIn (show k < col.length by omega)
    have b1 := inB hlt
    have b2 := inB (show k < col.length by omega)
    have hs := withR_succ (col := col) hrr
    simp only [go_sem, e0, e1, e6, e5, getD_map hrr, b1]
    refine anew_i fun i7 hi70 => ?_
    have ne_j_i7 : j ≠ i7 := ne_new R hi70
    simp only [go_sem, e0, e1, e6, e5, R]
    refine wputE_n (updH_same _ _ _) (by simp [encPRow_len]) ?_
    generalize hGi7 : updH (updH _ i7 _) i7 _ = HGi7
    replace R := (congrFun hGi7.symm j).trans ((updH_ne _ _ _ _ ne_j_i7).trans ((updH_ne _ _ _ _ ne_j_i7).trans R))
    have R7 : HGi7 i7 = some (⟨144, 3, [encPRow r]⟩) := by rw [← hGi7, updH_same]; rfl
    clear hGi7 hi70
    simp only [go_sem, e0, e1, e6, e5, R7, R]
    have hrc := hcl r (List.mem_of_getElem? hrr)
    refine adraw_join (fun ρ' H' => ρ' 0 = .sl (rows.map encPRow) ∧ ρ' 1 = .sl (col.map encInt) ∧ ρ' 5 = .os j ∧ ρ' 6 = int k ∧ ρ' 7 = .op i7 0 0 ∧ H' j = some (rwRow (withR (rows.take k) col)) ∧ ∃ j', H' i7 = some (⟨144, 3, [[.os j', int r.kind, int r.right]]⟩ : Row) ∧ H' j' = some (iRow (r.coef ++ [m]))) ?_ fun K hK => ?_
    rotate_left
    · refine adraw_t [] (.q 1 (.q 4 (.q 5 (.q 6 (.q 7 (.a3 0 (.a2 2 (.a2 3 (.a1 8 (.a1 9 (.a1 10 (.a1 11 .nil)))) 8 (.a1 3 (.a1 9 (.a1 10 (.a1 11 .nil))))) 8 (.a1 2 (.a1 3 (.a1 9 (.a1 10 (.a1 11 .nil)))))) 2 (.a2 0 (.a2 3 (.a1 8 (.a1 9 (.a1 10 (.a1 11 .nil)))) 8 (.a1 3 (.a1 9 (.a1 10 (.a1 11 .nil))))) 8 (.a1 0 (.a1 3 (.a1 9 (.a1 10 (.a1 11 .nil)))))) 8 (.a2 0 (.a1 2 (.a1 3 (.a1 9 (.a1 10 (.a1 11 .nil))))) 2 (.a1 0 (.a1 3 (.a1 9 (.a1 10 (.a1 11 .nil)))))))))))) (by simp) (by kernel_rfl) fun Hp Hr _ hq _ _ => ?_
      replace R := (hq j (by simp)).trans R
      replace R7 := (hq i7 (by simp)).trans R7
      simp only [go_sem, e0, e1, e6, e5, getD_map hm, b2, R7]
      repeat' (first | (refine amixt_3i ?_ ?_ ?_) | (refine amixt_2i ?_ ?_) | (refine anew_i fun i18 h18 => ?_; have n18 := ne_new R7 h18; have nj := ne_new R h18; generalize hG : updH Hr i18 _ = G; have R' : G j = some _ := by { rw [← hG, updH_ne _ _ _ _ nj]; exact R }; have R7' : G i7 = some _ := by { rw [← hG, updH_ne _ _ _ _ n18]; exact R7 }; have R18 : G i18 = some (iRow []) := by { rw [← hG, updH_same]; rfl }; clear hG) | (simp only [go_sem, e0, e1, e6, e5, getD_map hm, b2, R7', encPRow]) | (simp only [go_sem, e0, e1, e6, e5, getD_map hm, b2, R7, encPRow]))
      all_goals
        refine wappE_i R18 ⟨rfl, rfl⟩ (int_all _) (by simp only [List.length_map, List.length_cons, List.length_nil]; omega) (fun i21 h21 => ?_)
        have R2 := keep_app (r' := (⟨3, 1, (iRow []).es ++ r.coef.map encInt⟩ : Row)) R' nj.symm h21
        have R72 := keep_app (r' := (⟨3, 1, (iRow []).es ++ r.coef.map encInt⟩ : Row)) R7' n18.symm h21
        have n21 := ne_new (j := i21) R7' h21
        have nj2 := ne_new (j := i21) R' h21
        generalize hG : updH (updH G i18 none) i21 _ = G2
        rw [hG] at R2 R72
        have R21 : G2 i21 = some (iRow r.coef) := by rw [← hG, updH_same]; rfl
        clear hG
        simp only [go_sem, e0, e1, e6, e5, getD_map hm, b2]
        refine wappE_i R21 ⟨rfl, rfl⟩ ⟨rfl, trivial⟩ (by simp only [List.length_map, List.length_cons, List.length_nil]; omega) (fun i27 h27 => ?_)
        have R3 := keep_app (r' := (⟨3, 1, (iRow r.coef).es ++ [encInt m]⟩ : Row)) R2 nj2.symm h27
        have R73 := keep_app (r' := (⟨3, 1, (iRow r.coef).es ++ [encInt m]⟩ : Row)) R72 n21.symm h27
        have n27 := ne_new (j := i27) R72 h27
        simp only [go_sem, e0, e1, e6, e5]
        refine wputE_1 so51 R73 ⟨by simp, rfl, by simp⟩ ?_
        refine pinEnd_i fun _ Hm _ hm2 => hK _ _ ⟨by simp only [go_sem, e0, e1, e6, e5], by simp only [go_sem, e0, e1, e6, e5], by simp only [go_sem, e0, e1, e6, e5], by simp only [go_sem, e0, e1, e6, e5], by simp only [go_sem], (hm2 j (by simp)).trans ((updH_ne _ _ _ _ ne_j_i7).trans R3), i27, (hm2 i7 (by simp)).trans (updH_same _ _ _), (hm2 i27 (by simp)).trans ((updH_ne _ _ _ _ n27.symm).trans ((updH_same _ _ _).trans ?_))⟩
        exact congrArg (fun l => some (⟨3, 1, l⟩ : Row)) (List.map_append (f := encInt) (l₁ := r.coef) (l₂ := [m])).symm
    rintro ρ H ⟨e0, e1, e5, e6, e7, R, j', R7, R'⟩
    have njj : j ≠ j' := row_ne' R R' rfl
    simp only [go_sem, e0, e1, e5, e6, e7, R7]
    refine athaw_i [j'] (encPRow (addR1 r m)) ⟨.inr ⟨j', _, by simp, rfl, R', rfl⟩, .inl rfl, .inl rfl, trivial⟩ fun Hq _ hq1 => ?_
    replace R := (hq1 j (by simpa using njj)).trans R
    have hwl : (withR (rows.take k) col).length = k := by unfold withR; rw [List.length_mapIdx, List.length_take]; omega
    simp only [go_sem, e0, e1, e5, e6, e7]
    refine wappE_i R ⟨rfl, rfl⟩ ⟨encPRow_len _, trivial⟩ (by simp only [List.length_map, List.length_cons, List.length_nil]; omega) (fun j2 hj2 => ?_)
    simp only [go_sem, e0, e1, e5, e6, e7, wrapS (show k ≤ 4611686018427387904 by omega)]
    refine ⟨⟨k + 1, j2, hlt, rfl, rfl, ?_⟩, by simp only [natOf_int]; omega⟩
    rw [hs, List.getD, hm]
    exact row_appG rfl
  have hge := geB hk (by simpa using hge)
  subst hge
  rw [List.take_length] at R
  simp only [go_sem, e0, e1, e6, e5]
  exact .row _ _ _ R (ConvE.refl _)
end Go.Proofs.YtbcfajfngdmgnaaGreatDoor.Nu
end
