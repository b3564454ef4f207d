/- Texts joined by a program: MbC, EndMD. -/
import Derived.Test.YtbcfajfngdmgnaaGreatDoorZn31
import Derived.Test.YtbcfajfngdmgnaaGreatDoorZn38

section
set_option linter.unusedSimpArgs false
set_option linter.unusedVariables false
namespace Go.Proofs.YtbcfajfngdmgnaaGreatDoor.Nu
open Go.Aw Go.Aw.D Go.Proofs Ty Go.Nu
open Dec (chkR allowsR forbidsR decB hasN)
set_option maxRecDepth 100000
theorem ten_bound (c e k : Nat) (hc : c < 100) (h : 2 + (e + e * k) ≤ 4096) : c * 10 ^ e * (10 ^ e) ^ k < maxN := by
  refine lt_max (k := 2 + (e + e * k)) ?_ h
  rw [← Nat.pow_mul, Nat.mul_assoc, ← Nat.pow_add, Nat.pow_add 10 2]
  exact Nat.mul_lt_mul_of_pos_right hc (Nat.pow_pos (by decide))
theorem ten_bound1 (e k : Nat) (h : 2 + (e + e * k) ≤ 4096) : (10 ^ e) ^ k < maxN := by
  refine lt_max (k := e * k + 1) ?_ (by omega)
  rw [← Nat.pow_mul]
  exact Nat.pow_lt_pow_right (by decide) (Nat.lt_succ_self _)
theorem sm_neg {A D : Nat} {x : Rat} (h : Sm A D x) : Sm A D (-x) := by
  unfold Sm
  rw [Rat.neg_num, Rat.neg_den, Int.natAbs_neg]; exact h
theorem sm_int {n : Int} {A : Nat} (h : n.natAbs ≤ A) : Sm A 1 (n : Rat) := by
  unfold Sm
  rw [Rat.num_intCast, Rat.den_intCast]; omega
theorem subR_sm {A B D F : Nat} {x y : Rat} (hx : Sm A D x) (hy : Sm B F y) (h : (A + B) * (D * F) < maxN) (h2 : D * F < maxN) (sx : SmallR x) (sy : SmallR y) : subR (ratS x) (ratS y) = (ratS (x - y), 0) := by
  obtain ⟨p1, p2, p3, p4⟩ := sm_parts hx (sm_neg hy)
  unfold subR
  rw [rightR_ratS sx, rightR_ratS sy, Bool.and_self, if_pos rfl, valR_ratS, valR_ratS, sumR_ok (Nat.lt_of_le_of_lt p1 (Nat.lt_of_le_of_lt (Nat.mul_le_mul_right _ (Nat.le_add_right _ _)) h)) (Nat.lt_of_le_of_lt p2 (Nat.lt_of_le_of_lt (Nat.mul_le_mul_right _ (Nat.le_add_left _ _)) h)) (Nat.lt_of_le_of_lt p3 h) (Nat.lt_of_le_of_lt p4 h2), Rat.sub_eq_add_neg]
theorem reduced_ok {ns : List Int} {v : List ByteArray} {p : Int} (hn : ∀ n ∈ ns, n = 0 ∨ n = 1) (hr : ∀ s ∈ v, rightR s = true) (hs : ∀ s ∈ v, s.size ≤ 60) (hl : ns.length = v.length) (h60 : v.length ≤ 60) (hp : i64I p) :
    (timesR ns v).2 = 0 ∧ (subR (zed p) (timesR ns v).1).2 = 0 ∧ (cmpR (timesR ns v).1 (zed p) ≤ 0 → 0 ≤ signR (subR (zed p) (timesR ns v).1).1) := by
  have hE : 1 ≤ 10 ^ 60 := Nat.pow_pos (by decide)
  have b1 := ten_bound (0 + ns.length) 60 ns.length (by omega) (by omega)
  have b2 := ten_bound (1 + ns.length) 60 ns.length (by omega) (by omega)
  have b3 := ten_bound1 60 ns.length (by omega)
  have hpE : p.natAbs ≤ 10 ^ 60 := by
    unfold i64I at hp
    have : p.natAbs ≤ 9223372036854775808 := by omega
    exact Nat.le_trans this (by decide)
  generalize hEE : 10 ^ 60 = E at *
  have hsm : ∀ s ∈ v, rightR s = true ∧ Sm E E (valR s) := fun s h => ⟨hr s h, by rw [← hEE]; exact sm_text (hr s h) (hs s h)⟩
  have e0 : 0 + ns.length * E = (0 + ns.length) * E := by rw [Nat.zero_add, Nat.zero_add]
  obtain ⟨r, hr1, hr2⟩ := times_sm E hE ns v 0 0 1 hn hsm (sm_zero (Nat.le_refl _)) (Nat.le_refl _) (by rw [e0, Nat.one_mul]; exact b1) (by rw [Nat.one_mul]; exact b3)
  have ht : timesR ns v = (ratS r, 0) := by
    unfold timesR
    rw [if_neg (by simpa using hl), if_neg (by
      intro hc
      obtain ⟨s, h1, h2⟩ := List.any_eq_true.1 hc
      rw [hr s h1] at h2; cases h2)]
    have : dec 0 = ratS 0 := (zed_nat 0).symm.trans (if_pos (show (0 : Rat).den = 1 from rfl)).symm
    rw [this]; exact hr1
  rw [e0, Nat.one_mul] at hr2
  have sr : SmallR r := sm_small hr2 b1 b3
  have hpm : p.natAbs < maxN := by
    unfold i64I at hp
    exact max_big (by omega)
  have sp := small_int hpm
  have hsub := subR_sm (x := (p : Rat)) (y := r) (A := E) (B := (0 + ns.length) * E) (D := 1) (F := E ^ ns.length) (sm_int hpE) hr2 (by
    rw [Nat.one_mul, show E + (0 + ns.length) * E = (1 + ns.length) * E by rw [Nat.add_mul 1, Nat.one_mul, Nat.zero_add]]; exact b2) (by rw [Nat.one_mul]; exact b3) sp sr
  rw [ratS_int] at hsub
  rw [ht]
  refine ⟨rfl, by rw [hsub], fun hc => ?_⟩
  show 0 ≤ signR (subR (zed p) (ratS r)).1
  have hc : cmpR (ratS r) (zed p) ≤ 0 := hc
  unfold cmpR at hc
  rw [rightR_ratS sr, right_zed hpm, Bool.and_self, if_pos rfl, valR_ratS, val_zed] at hc
  have hle : r ≤ (p : Rat) := by
    refine Rat.not_lt.1 fun hlt => ?_
    unfold cmpQ at hc
    rw [if_neg (Rat.not_lt.2 (Rat.le_of_lt hlt)), if_pos hlt] at hc
    omega
  have h0 : 0 ≤ (p : Rat) - r := (Rat.le_iff_sub_nonneg _ _).1 hle
  have hright := subR_small (a := zed p) (b := ratS r) (by rw [hsub])
  rw [hsub] at hright ⊢
  unfold signR
  rw [if_pos hright, valR_ratS]
  have := Rat.num_nonneg.2 h0
  generalize ((p : Rat) - r).num = z at this
  obtain ⟨n, hn⟩ := Int.eq_ofNat_of_zero_le this
  rw [hn]
  cases n with
  | zero => exact Int.le_refl 0
  | succ m => show (0 : Int) ≤ 1; decide
theorem short_all {v : List ByteArray} (h : shortP v = true) : v.length ≤ 60 ∧ ∀ s ∈ v, s.size ≤ 60 := by
  unfold shortP at h
  simp only [Bool.and_eq_true, decide_eq_true_eq, Bool.not_eq_true', List.any_eq_false] at h
  refine ⟨h.1, fun s hs => ?_⟩
  have := h.2 s (by rw [List.take_of_length_le (by omega)]; exact hs)
  omega
theorem signed_right {p : PLin} {v : List ByteArray} (h : signedM p v = true) : v.length = p.rows.length ∧ ∀ s ∈ v, rightR s = true := by
  unfold signedM at h
  split at h
  · cases h
  next hl =>
  have hl : v.length = p.rows.length := by simpa using hl
  refine ⟨hl, fun s hs => ?_⟩
  obtain ⟨k, hk, rfl⟩ := List.getElem_of_mem hs
  have hz : (p.rows.zip v)[k]? = some (p.rows[k]'(by omega), v[k]) := by
    rw [List.getElem?_zip_eq_some]; exact ⟨List.getElem?_eq_getElem _, List.getElem?_eq_getElem _⟩
  have h := List.any_eq_false.1 (show ((p.rows.zip v).any fun q => sgnB q.1.kind q.2) = false by simpa using h) _ (List.mem_of_getElem? hz)
  refine Decidable.byContradiction fun hc => h ?_
  have : rightR v[k] = false := Bool.eq_false_iff.2 hc
  unfold sgnB
  rw [this]; rfl
theorem col_coefs {x : Instance} {d : Nat} {cols : List Column} {cuts : List Cut} {ds : List Decision} (h : (buildM x d cols cuts ds).2 = 0) (hn : (buildM x d cols cuts ds).1.rows.length = rowsN x cuts ds) {i : Nat} {c : Column} (hc : (inM cols ds)[i]? = some c) :
    colP (buildM x d cols cuts ds).1 i = coefsM x c cuts ds := by
  obtain ⟨_, r2⟩ := build_rows h
  have hi := (List.getElem?_eq_some_iff.1 hc).1
  refine List.ext_getElem? fun j => ?_
  unfold colP
  rw [List.getElem?_map]
  by_cases hj : j < rowsN x cuts ds
  · obtain ⟨r, hr⟩ := getIn (l := rowsM x cuts ds) (k := j) (by rw [rowsM_len]; exact hj)
    obtain ⟨n, hn2⟩ := getIn (l := coefsM x c cuts ds) (k := j) (by rw [coefsM_len]; exact hj)
    rw [r2 j r hr, hn2]
    show some ((rowI x cuts ds (inM cols ds) (skipsM x ds) j).getD i 0) = some n
    unfold rowI
    rw [List.getD, List.getElem?_append_left (by rw [List.length_map]; exact hi), List.getElem?_map, hc]
    exact congrArg some (getD_of hn2)
  · rw [List.getElem?_eq_none (by omega), List.getElem?_eq_none (by rw [coefsM_len]; omega)]; rfl
theorem bounds_ok {x : Instance} {d : Nat} {cols : List Column} {cuts : List Cut} {ds : List Decision} {v : List ByteArray} (hR : RightB x cuts ds) (h : (buildM x d cols cuts ds).2 = 0) (hv : shortP v = true) (hp : (provesM (buildM x d cols cuts ds).1 v).2 = true)
    {i : Nat} {c : Column} (hc : (inM cols ds)[i]? = some c) (hpr : i64I c.price) : (reducedM x c cuts ds v).2 = 0 ∧ 0 ≤ signR (reducedM x c cuts ds v).1 := by
  obtain ⟨_, w1, w2, w3, w4, w5, w6⟩ := build_ok h hR
  obtain ⟨r1, _⟩ := build_rows h
  have hcol := col_coefs h w3 hc
  have hi := (List.getElem?_eq_some_iff.1 hc).1
  unfold provesM at hp
  split at hp
  · cases hp
  next hb =>
  simp only [Bool.or_eq_true, Bool.not_eq_true', not_or, Bool.not_eq_false] at hb
  obtain ⟨hl, hr⟩ := signed_right hb.1
  obtain ⟨s1, s2⟩ := short_all hv
  have hbel := hb.2
  unfold belowM at hbel
  have hov := List.any_eq_false.1 (show ((List.range (buildM x d cols cuts ds).1.cost.length).any (overM (buildM x d cols cuts ds).1 v)) = false by simpa using hbel) i (List.mem_range.2 (by omega))
  have hcost : (buildM x d cols cuts ds).1.cost.getD i 0 = c.price := by
    rw [r1]
    refine getD_of ?_
    rw [List.getElem?_append_left (by rw [List.length_map]; exact hi), List.getElem?_map, hc]; rfl
  unfold overM at hov
  rw [hcost, hcol] at hov
  obtain ⟨k1, k2, k3⟩ := reduced_ok (ns := coefsM x c cuts ds) (v := v) (p := c.price) (fun n hn => coefsM_in hn) hr s2 (by rw [coefsM_len]; omega) s1 hpr
  have hcm : cmpR (timesR (coefsM x c cuts ds) v).1 (zed c.price) ≤ 0 := by
    refine Decidable.byContradiction fun hn => hov ?_
    rw [decide_eq_true (show cmpR (timesR (coefsM x c cuts ds) v).1 (zed c.price) > 0 by omega), Bool.or_true]
  unfold reducedM
  rw [if_neg (by rw [coefsM_len]; simp; omega), if_neg (by simpa using k1)]
  exact ⟨k2, k3 hcm⟩
theorem masterBounds_c (a : Go.Aw.D.Ask) (v : List ByteArray) (hA : AskB a) (hap : ∀ c ∈ a.l, i64I c.price) (hv : VarB v) : PC Tryz.prog 12 [.agg (encAsk a), .sl (v.map Go.Aw.D.encStr)] (boo true) := by
  have hv1 := hv.len
  refine PC.body (c := Tryz.f12.body.getD .skip) (fun _ => false) mixed Tryz.func12 rfl (by kernel_rfl) ?_
  unfold Tryz.f12
  simp only [Option.getD_some]
  simp only [go_sem]
  refine PC.use (small_c a hA.x hA.l) ?_
  simp only [go_sem]
  refine ⟨_, fun _ => (short_c v hv.len).q rfl, ?_⟩
  simp only [go_sem]
  refine acond_i (fun hb => ?_) (fun hb => ?_)
  · simp only [go_sem]
    refine PC.use awake30_c ?_
    simp only [go_sem]
    exact .refl _
  have hb' : smallP a = true ∧ shortP v = true := by simpa using hb
  obtain ⟨hacc, h1, h2, h3, h4⟩ := small_acc hb'.1
  have hty := hacc.types
  have hM : MIn a.x a.cuts a.d := ⟨by omega, by omega, by omega, by omega⟩
  obtain ⟨hlo, hne⟩ := loadsOk_of hacc
  simp only [go_sem]
  refine PC.use (build_c a.x (askD a) a.l a.cuts a.d hlo hne hM (by omega) (fun c hc => (hA.set c hc).2) hA.cset) ?_
  have hok := build_ok (x := a.x) (d := askD a) (cols := a.l) (cuts := a.cuts) (ds := a.d)
  have hlin := build_lin (x := a.x) (d := askD a) (cols := a.l) (cuts := a.cuts) (ds := a.d)
  have hbo := bounds_ok (x := a.x) (d := askD a) (cols := a.l) (cuts := a.cuts) (ds := a.d) (v := v) hA.right
  have hrows := build_rows (x := a.x) (d := askD a) (cols := a.l) (cuts := a.cuts) (ds := a.d)
  generalize buildM a.x (askD a) a.l a.cuts a.d = B at *
  obtain ⟨p, e⟩ := B
  simp only at hok hlin hbo hrows
  simp only [go_sem]
  refine anew_i fun i5 hi50 => ?_
  simp only [go_sem]
  refine wputE_n (updH_same _ _ _) (by simp [encPLin_len]) ?_
  generalize hGi5 : updH (updH _ i5 _) i5 _ = HGi5
  have R5 : HGi5 i5 = some (⟨77, 2, [encPLin p]⟩) := by rw [← hGi5, updH_same]; rfl
  clear hGi5 hi50
  simp only [go_sem, R5]
  refine acond_i (fun hb => ?_) (fun hb => ?_)
  · simp only [go_sem]
    refine PC.use awake30_c ?_
    simp only [go_sem]
    exact .refl _
  have he : e = 0 := by simpa using hb
  obtain ⟨w0, w1, w2, w3, w4, w5, w6⟩ := hok he hA.right
  obtain ⟨hck, hw2, hw3⟩ := wrong_zero w0
  have hcb : CutsB a.cuts := ⟨fun q hqm => ⟨rightC_set (hw2 q hqm), hA.cset q hqm⟩⟩
  have hsb : ∀ c ∈ a.l, 0 ≤ c.set ∧ c.set ≤ 9223372036854775807 := fun c hc => ⟨by have := badC_set (hw3 c hc); omega, (hA.set c hc).2⟩
  have hLm : ∀ c ∈ inM a.l a.d, c ∈ a.l := fun c hc => (List.mem_filter.1 hc).1
  have hpc : ∀ n ∈ p.cost, i64I n := by
    intro n hn
    rw [(hrows he).1] at hn
    rcases List.mem_append.1 hn with h | h
    · obtain ⟨c, hc, rfl⟩ := List.mem_map.1 h
      exact hap c (hLm c hc)
    · obtain ⟨u, hu, rfl⟩ := List.mem_map.1 h
      have := skip_pen hacc hu
      unfold i64I
      omega
  simp only [go_sem, R5]
  refine PC.use (proves25_c p v (hlin he hA.right) (fun r hr => by rw [w5 r hr]; omega) hpc hv) ?_
  have hbo2 := fun (h : (provesM p v).2 = true) (i : Nat) (c : Column) (h2 : (inM a.l a.d)[i]? = some c) (h3 : i64I c.price) => hbo he hb'.2 h h2 h3
  generalize provesM p v = G at *
  obtain ⟨g, ok⟩ := G
  simp only at hbo2
  simp only [go_sem]
  refine PC.use (inside30_c a.x a.l a.d hck (by omega) (by omega) (by omega) hA.dec hsb) ?_
  simp only [go_sem]
  have hLl : (inM a.l a.d).length ≤ a.l.length := List.length_filter_le _ _
  generalize inM a.l a.d = L at *
  refine ⟨fun ρ H => ∃ (k : Nat), k ≤ L.length ∧ ρ 1 = .sl (v.map Go.Aw.D.encStr) ∧ ρ 2 = .rp (encAsk a) 0 ∧ ρ 8 = boo ok ∧ ρ 9 = .sl (L.map encColumn) ∧ ρ 10 = int k, fun ρ _ => L.length - natOf (ρ 10), ⟨0, Nat.zero_le _, by simp only [go_sem], by simp only [go_sem], by simp only [go_sem], by simp only [go_sem], (by simp only [go_sem]; rfl)⟩, ?_⟩
  rintro ρ H ⟨k, hk, e1, e2, e8, e9, e10⟩
  simp only [go_sem, e1, e2, e8, e9, e10]
  refine acond_i (fun hlt => ?_) (fun hge => ?_)
  · have hlt2 : (k < L.length) ∧ ok = true := by
      simp only [Bool.and_eq_true, decide_eq_true_eq] at hlt
      exact ⟨by omega, hlt.2⟩
    obtain ⟨hlt, hok1⟩ := hlt2
    obtain ⟨c, hc⟩ := getIn hlt
    have b1 := inB hlt
    have hcm := hLm c (List.mem_of_getElem? hc)
    obtain ⟨t1, t2⟩ := hbo2 hok1 k c hc (hap c hcm)
    have hrc := mReduced_c a.x c a.cuts a.d v hM ⟨(hsb c hcm).1, (hsb c hcm).2⟩ hcb (hap c hcm) hv.len hv.size
    have hrs : (reducedM a.x c a.cuts a.d v).1.size ≤ 1048576 := by
      by_cases hr0 : rightR (reducedM a.x c a.cuts a.d v).1 = true
      · have := right_size' hr0; omega
      · unfold reducedM at t1 hr0 ⊢
        split
        · exact Nat.zero_le _
        · split
          · exact Nat.zero_le _
          · next q1 q2 =>
            rw [if_neg q1, if_neg q2] at t1 hr0
            exact absurd (subR_small t1) hr0
    generalize reducedM a.x c a.cuts a.d v = W at *
    obtain ⟨w, e2⟩ := W
    simp only at t1 t2 hrs hrc
    subst t1
    simp only [go_sem, e1, e2, e8, e9, e10]
    refine adraw_m [(0, true), (1, true), (2, true), (3, true), (4, true), (5, true), (6, true), (7, true), (8, true), (9, true), (10, true), (11, true), (12, true), (13, true), (14, true), (15, true), (16, true)] (by kernel_rfl) ?_
    simp only [go_sem, e1, e2, e8, e9, e10, getD_map hc, b1]
    refine ⟨_, hrc.q rfl, ?_⟩
    simp only [go_sem, e1, e2, e8, e9, e10]
    refine ⟨_, fun _ => (sign4_c w hrs).q rfl, ?_⟩
    simp only [go_sem, e1, e2, e8, e9, e10]
    refine acond_i (fun hd => ?_) (fun hd => ?_)
    · simp at hd; omega
    simp only [go_sem, e1, e2, e8, e9, e10, wrapS (show k ≤ 4611686018427387904 by omega)]
    exact ⟨⟨k + 1, hlt, rfl⟩, by simp only [natOf_int]; omega⟩
  simp only [go_sem, e1, e2, e8, e9, e10]
  refine PC.use awake30_c ?_
  simp only [go_sem]
  exact .refl _
end Go.Proofs.YtbcfajfngdmgnaaGreatDoor.Nu
end

section
namespace Go.Proofs.YtbcfajfngdmgnaaGreatDoor
open Go.Aw Go.Aw.D
theorem inB_of {x : Instance} (h : bInstance 1048576 x) : InB x := by
  obtain ⟨⟨hpl, har⟩, hty, hor, hap, hbe⟩ := h
  exact ⟨hpl.1, hpl.2, har.1, fun a ha => ⟨(har.2 a ha).2.2.2.2.1.1, (har.2 a ha).2.2.2.2.2.1⟩, hty.1, fun t ht => ⟨(hty.2 t ht).1, (hty.2 t ht).2.2.2.2.1.1⟩, hor.1, fun t ht => ⟨(hor.2 t ht).1, (hor.2 t ht).2.1.1⟩, hap.1, hbe.1⟩
theorem askB_of {a : Go.Aw.D.Ask} (h : bAsk 1048576 a) : Nu.AskB a := by
  obtain ⟨hx, hl, hc, hd⟩ := h
  exact ⟨inB_of hx, hl.1, fun c h => (hl.2 c h).2.1, fun q h => (hc.2 q h).2.1.2, ⟨fun t h => (hx.2.1.2 t h).2.1, fun q h => (hc.2 q h).2.2, fun d h => (hd.2 d h).2.2.2⟩, fun d h => hd.2 d h⟩
theorem price_of {a : Go.Aw.D.Ask} (h : bAsk 1048576 a) : ∀ c ∈ a.l, Nu.i64I c.price := by
  obtain ⟨hx, hl, hc, hd⟩ := h
  exact fun c h => (hl.2 c h).2.2.1
theorem masterBounds_holds : Rows.MasterBoundsUptoCardSaid := masterBounds.card fun a v ha hv => Nu.masterBounds_c a v (askB_of ha) (price_of ha) ⟨hv.1, fun s hs => hv.2 s hs⟩
#print axioms masterBounds_holds
end Go.Proofs.YtbcfajfngdmgnaaGreatDoor
end
