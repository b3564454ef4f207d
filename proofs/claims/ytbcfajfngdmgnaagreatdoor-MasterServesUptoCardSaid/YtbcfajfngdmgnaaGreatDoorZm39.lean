/- Texts joined by a program: MaZ, EndMS. -/
import Derived.Test.YtbcfajfngdmgnaaGreatDoorZm31
import Derived.Test.YtbcfajfngdmgnaaGreatDoorZm38

section
set_option linter.unusedSimpArgs false
set_option linter.unusedVariables false
namespace Go.Proofs.YtbcfajfngdmgnaaGreatDoor.Nu
open Go.Aw Go.Aw.D Go.Proofs Ty Go.Nu
open Dec (chkR allowsR forbidsR decB hasN)
set_option maxRecDepth 100000
def far (n : Int) : Bool := decide (n < -1125899906842624) || decide (n > 1125899906842624)
theorem dot_abs (B : Nat) : ∀ (l : List Int) (v : List ByteArray), (∀ n ∈ l, n.natAbs ≤ B) → (dotI l v).natAbs ≤ l.length * B
  | [], v, _ => Nat.zero_le _
  | n :: l, [], _ => by rw [dotI_nil]; exact Nat.zero_le _
  | n :: l, s :: v, hm => by
    have := dot_abs B l v fun m h => hm m (by simp [h])
    have h1 := hm n (by simp)
    have h2 := v01_in s
    show (n * v01 s + dotI l v).natAbs ≤ (l.length + 1) * B
    rw [Nat.add_mul, Nat.one_mul]
    rcases h2 with e2 | e2 <;> rw [e2] <;> omega
theorem sum_bnd (f : Int → Int) (B : Nat) : ∀ (l : List Int), (∀ u ∈ l, 0 ≤ f u ∧ f u ≤ (B : Int)) → 0 ≤ (l.map f).sum ∧ (l.map f).sum ≤ ((l.length * B : Nat) : Int)
  | [], _ => by simp
  | u :: l, h => by
    have h1 := h u (by simp)
    have h2 := sum_bnd f B l fun w hw => h w (by simp [hw])
    rw [List.map_cons, List.sum_cons, List.length_cons, Nat.add_mul, Nat.one_mul]
    omega
def usedTo (n : Nat) (L : List Column) (v : List ByteArray) (k : Nat) : List Int := (List.range n).map fun t => dotI ((typI L t).take k) (v.take k)
theorem usedTo_len (n : Nat) (L : List Column) (v : List ByteArray) (k : Nat) : (usedTo n L v k).length = n := by unfold usedTo; rw [List.length_map, List.length_range]
theorem typ_at {L : List Column} {k t : Nat} {c : Column} (h : L[k]? = some c) : (typI L t)[k]? = some (bitI (c.type == (t : Int))) := by unfold typI; rw [List.getElem?_map, h]; rfl
theorem usedTo_no {n : Nat} {L : List Column} {v : List ByteArray} {k : Nat} {c : Column} {s : ByteArray} (hc : L[k]? = some c) (hs : v[k]? = some s) (h : ¬ is1 s = true) : usedTo n L v (k + 1) = usedTo n L v k := by
  unfold usedTo
  refine List.map_congr_left fun t _ => ?_
  rw [dotI_succ (typ_at hc) hs, show v01 s = 0 from if_neg h, Int.mul_zero, Int.add_zero]
theorem usedTo_yes {n : Nat} {L : List Column} {v : List ByteArray} {k t0 : Nat} {c : Column} {s : ByteArray} (hc : L[k]? = some c) (hs : v[k]? = some s) (h : is1 s = true) (ht : c.type = (t0 : Int)) (hn : t0 < n) :
    usedTo n L v (k + 1) = (usedTo n L v k).set t0 ((usedTo n L v k).getD t0 0 + 1) := by
  refine List.ext_getElem? fun t => ?_
  have hg : ∀ q t, t < n → (usedTo n L v q)[t]? = some (dotI ((typI L t).take q) (v.take q)) := fun q t h => by unfold usedTo; rw [List.getElem?_map, List.getElem?_range h]; rfl
  rw [List.getElem?_set, usedTo_len]
  by_cases hlt : t < n
  · rw [hg _ _ hlt, dotI_succ (typ_at hc) hs, show v01 s = 1 from if_pos h, Int.mul_one]
    by_cases e : t0 = t
    · subst e
      rw [if_pos rfl, if_pos hn, ht, List.getD, hg _ _ hn]
      simp [bitI]
    · rw [if_neg e, hg _ _ hlt, ht, show bitI ((t0 : Int) == (t : Int)) = 0 from by unfold bitI; rw [if_neg (by rw [beq_iff_eq]; omega)], Int.add_zero]
  · rw [List.getElem?_eq_none (by rw [usedTo_len]; omega), if_neg (by omega), List.getElem?_eq_none (by rw [usedTo_len]; omega)]
theorem masterServes_c (a : Go.Aw.D.Ask) (v : List ByteArray) (hA : AskB a) (hv : VarB v) : PC Tryz.prog 11 [.agg (encAsk a), .sl (v.map Go.Aw.D.encStr)] (boo true) := by
  have hv1 := hv.len
  refine PC.body (c := Tryz.f11.body.getD .skip) (fun _ => false) mixed Tryz.func11 rfl (by kernel_rfl) ?_
  unfold Tryz.f11
  simp only [Option.getD_some]
  simp only [go_sem]
  refine PC.use (small_c a hA.x hA.l) ?_
  simp only [go_sem]
  refine ⟨_, fun _ => (short_c v hv.len).q rfl, ?_⟩
  simp only [go_sem]
  refine acond_i (fun hb => ?_) (fun hb => ?_)
  · simp only [go_sem]
    refine PC.use awake30_c ?_
    simp only [go_sem]
    exact .refl _
  have hb' : smallP a = true := by simp at hb; exact hb.1
  obtain ⟨hacc, h1, h2, h3, h4⟩ := small_acc hb'
  have hty := hacc.types
  have hM : MIn a.x a.cuts a.d := ⟨by omega, by omega, by omega, by omega⟩
  obtain ⟨hlo, hne⟩ := loadsOk_of hacc
  simp only [go_sem]
  refine ⟨fun ρ H => ∃ (k : Nat), k ≤ a.l.length ∧ ρ 1 = .sl (v.map Go.Aw.D.encStr) ∧ ρ 2 = .rp (encAsk a) 0 ∧ ρ 5 = int k ∧ ∀ c ∈ a.l.take k, far c.price = false, fun ρ _ => a.l.length - natOf (ρ 5), ⟨0, Nat.zero_le _, by simp only [go_sem], by simp only [go_sem], (by simp only [go_sem]; rfl), by simp⟩, ?_⟩
  rintro ρ H ⟨k, hk, e1, e2, e5, hz⟩
  simp only [go_sem, e1, e2, e5]
  refine acond_i (fun hlt => ?_) (fun hge => ?_)
  · have hlt := ltB (by simpa using hlt)
    obtain ⟨c, hc⟩ := getIn hlt
    have b1 := inB hlt
    simp only [go_sem, e1, e2, e5, getD_map hc, b1]
    refine acond_i (fun hd => ?_) (fun hd => ?_)
    · simp only [go_sem]
      refine PC.use awake30_c ?_
      simp only [go_sem]
      exact .refl _
    · simp only [go_sem, e1, e2, e5, wrapS (show k ≤ 4611686018427387904 by omega)]
      exact ⟨⟨k + 1, hlt, rfl, take_all' (p := fun c : Column => far c.price = false) hc hd hz⟩, by simp only [natOf_int]; omega⟩
  have hge := geB hk (by simpa using hge)
  subst hge
  rw [List.take_length] at hz
  have hpr : ∀ c ∈ a.l, c.price.natAbs ≤ 1125899906842624 := fun c hc => by
    have := hz c hc
    unfold far at this
    simp only [Bool.or_eq_false_iff, decide_eq_false_iff_not] at this
    omega
  simp only [go_sem, e1, e2, e5]
  refine PC.use (plan_c a.x (askD a) a.l a.cuts a.d v hlo hne hM (by omega) (fun c hc => (hA.set c hc).2) hA.cset hA.right hv) ?_
  have hperr := plan_err (x := a.x) (d := askD a) (cols := a.l) (cuts := a.cuts) (ds := a.d) (v := v)
  have hpok := plan_ok (x := a.x) (d := askD a) (cols := a.l) (cuts := a.cuts) (ds := a.d) (v := v)
  have hserve := serve_of (x := a.x) (d := askD a) (cols := a.l) (cuts := a.cuts) (ds := a.d) (v := v) hacc hA.right
  generalize planM a.x (askD a) a.l a.cuts a.d v = Q at *
  obtain ⟨p, e⟩ := Q
  simp only at hperr hpok hserve
  simp only [go_sem, e1, e2, e5]
  refine anew_i fun i6 hi60 => ?_
  simp only [go_sem, e1, e2, e5]
  refine wputE_n (updH_same _ _ _) (by simp [encPlan_len]) ?_
  generalize hGi6 : updH (updH _ i6 _) i6 _ = HGi6
  have R6 : HGi6 i6 = some (⟨53, 2, [encPlan p]⟩) := by rw [← hGi6, updH_same]; rfl
  clear hGi6 hi60
  simp only [go_sem, e1, e2, e5, R6]
  refine acond_i (fun hb => ?_) (fun hb => ?_)
  · rw [hperr (by simpa using hb)] at R6
    simp only [go_sem, e1, e2, e5, R6]
    refine ⟨_, fun _ => awake30_c.q rfl, ?_⟩
    simp only [go_sem]
    refine cB ?_
    simp
  have he : e = 0 := by simpa using hb
  subst he
  have hS := hserve rfl
  obtain ⟨q1, q2, q3, q4, q5⟩ := hpok rfl
  obtain ⟨w0, w1, w2, w3, w4, w5, w6⟩ := build_ok q1 hA.right
  obtain ⟨hck, hw2, hw3⟩ := wrong_zero w0
  have hsb : ∀ c ∈ a.l, 0 ≤ c.set ∧ c.set ≤ 9223372036854775807 := fun c hc => ⟨by have := badC_set (hw3 c hc); omega, (hA.set c hc).2⟩
  have hcov := fun (K : List Int) (n : Nat) (hn : n ≤ 62) (hlen : v.length = (inM a.l a.d).length + K.length) (hK : K.length ≤ 1048576) => covered_c a v K n hn hv1 (by omega) (by omega) (by omega) hA.dec hck hsb hlen hK
  have hbc := build_c a.x (askD a) a.l a.cuts a.d hlo hne hM (by omega) (fun c hc => (hA.set c hc).2) hA.cset
  have hcp : ∀ n ∈ (buildM a.x (askD a) a.l a.cuts a.d).1.cost, n.natAbs ≤ 1125899906842624 := by
    intro n hn
    rw [hS.cost] at hn
    rcases List.mem_append.1 hn with h | h
    · obtain ⟨c, hc, rfl⟩ := List.mem_map.1 h
      exact hpr c (List.mem_filter.1 hc).1
    · obtain ⟨u, hu, rfl⟩ := List.mem_map.1 h
      have := hS.pen u hu
      omega
  simp only [go_sem, e1, e2, e5, R6]
  refine PC.use (skips_c a.x a.d (by omega) (by omega)) ?_
  simp only [go_sem, e1, e2, e5]
  refine PC.use (inside30_c a.x a.l a.d hck (by omega) (by omega) (by omega) hA.dec hsb) ?_
  simp only [go_sem, e1, e2, e5]
  have hLm : ∀ c ∈ inM a.l a.d, c ∈ a.l := fun c hc => (List.mem_filter.1 hc).1
  have hLl : (inM a.l a.d).length ≤ a.l.length := List.length_filter_le _ _
  have hKl : (skipsM a.x a.d).length ≤ 5 := Nat.le_trans (List.length_filter_le _ _) (Nat.le_trans (ordI_len a.x) h4)
  generalize buildM a.x (askD a) a.l a.cuts a.d = B at *
  generalize inM a.l a.d = L at *
  generalize skipsM a.x a.d = K at *
  have hlen := hS.len
  have w : IntKind.i64.wrap ((L.length : Int) + (K.length : Int)) = ((L.length + K.length : Nat) : Int) := by rw [wrap_in (by omega)]; omega
  simp only [go_sem, e1, e2, e5, List.length_map, w]
  refine acond_i (fun hb => ?_) (fun hb => ?_)
  · simp at hb; omega
  simp only [go_sem, e1, e2, e5]
  refine ⟨fun ρ H => ∃ (k : Nat), k ≤ a.x.orders.length ∧ ρ 1 = .sl (v.map Go.Aw.D.encStr) ∧ ρ 2 = .rp (encAsk a) 0 ∧ ρ 6 = .op i6 0 0 ∧ ρ 8 = .sl (K.map encInt) ∧ ρ 9 = .sl (L.map encColumn) ∧ ρ 10 = int k ∧ H i6 = some (⟨53, 2, [encPlan p]⟩ : Row), fun ρ _ => a.x.orders.length - natOf (ρ 10), ⟨0, Nat.zero_le _, by simp only [go_sem, e1, e2], by simp only [go_sem, e1, e2], by simp only [go_sem, e1, e2], by simp only [go_sem, e1, e2], by simp only [go_sem, e1, e2], (by simp only [go_sem, e1, e2]; rfl), R6⟩, ?_⟩
  rintro ρ H ⟨k, hk, e1, e2, e6, e8, e9, e10, R6⟩
  simp only [go_sem, e1, e2, e6, e8, e9, e10]
  refine acond_i (fun hlt => ?_) (fun hge => ?_)
  · have hlt := ltB (by simpa using hlt)
    obtain ⟨o, ho⟩ := getIn hlt
    have b1 := inB hlt
    simp only [go_sem, e1, e2, e6, e8, e9, e10, getD_map ho, b1]
    refine ⟨_, fun _ => (hcov K k (by omega) hlen (by omega)).q rfl, ?_⟩
    simp only [go_sem, e1, e2, e6, e8, e9, e10]
    refine acond_i (fun hd => ?_) (fun hd => ?_)
    · have hd2 : o.off = false ∧ dotI (covI L K k) v ≠ 1 := by simpa using hd
      exact absurd (hS.cov k o ho hd2.1) hd2.2
    simp only [go_sem, e1, e2, e6, e8, e9, e10, wrapS (show k ≤ 4611686018427387904 by omega)]
    exact ⟨⟨k + 1, hlt, rfl, R6⟩, by simp only [natOf_int]; omega⟩
  have hge := geB hk (by simpa using hge)
  subst hge
  simp only [go_sem, e1, e2, e6, e8, e9, e10, List.length_map]
  refine ⟨by omega, anew_i fun ju hju => ?_⟩
  replace R6 := keep_new (r' := (⟨3, 1, List.replicate a.x.types.length [int 0]⟩ : Row)) R6 hju
  have RU : updH H ju (some (⟨3, 1, List.replicate a.x.types.length [int 0]⟩ : Row)) ju = some (iRow (usedTo a.x.types.length L v 0)) := by
    rw [updH_same]
    refine congrArg (fun l => some (⟨3, 1, l⟩ : Row)) ?_
    unfold usedTo
    simp only [List.take_zero, dotI_nil]
    rw [List.map_map]
    exact (List.eq_replicate_iff.2 ⟨by rw [List.length_map, List.length_range], fun b hb => by obtain ⟨_, _, rfl⟩ := List.mem_map.1 hb; rfl⟩).symm
  generalize updH H ju (some _) = HU at R6 RU
  clear hju
  simp only [go_sem, e1, e2, e6, e8, e9, e10]
  refine ⟨fun ρ H => ∃ (k : Nat), k ≤ L.length ∧ ρ 1 = .sl (v.map Go.Aw.D.encStr) ∧ ρ 2 = .rp (encAsk a) 0 ∧ ρ 6 = .op i6 0 0 ∧ ρ 9 = .sl (L.map encColumn) ∧ ρ 12 = .os ju ∧ ρ 13 = int k ∧ ρ 11 = int (dotI ((L.map (·.price)).take k) (v.take k)) ∧ H i6 = some (⟨53, 2, [encPlan p]⟩ : Row) ∧ H ju = some (iRow (usedTo a.x.types.length L v k)), fun ρ _ => L.length - natOf (ρ 13), ⟨0, Nat.zero_le _, by simp only [go_sem, e1, e2, e6, e9], by simp only [go_sem, e1, e2, e6, e9], by simp only [go_sem, e1, e2, e6, e9], by simp only [go_sem, e1, e2, e6, e9], by simp only [go_sem, e1, e2, e6, e9], (by simp only [go_sem, e1, e2, e6, e9]; rfl), by simp only [go_sem]; rfl, R6, RU⟩, ?_⟩
  rintro ρ H ⟨k, hk, e1, e2, e6, e9, e12, e13, e11, R6, RU⟩
  simp only [go_sem, e1, e2, e6, e9, e12, e13, e11]
  refine acond_i (fun hlt => ?_) (fun hge => ?_)
  · have hlt := ltB (by simpa using hlt)
    obtain ⟨c, hc⟩ := getIn hlt
    have b1 := inB hlt
    obtain ⟨z, hz1⟩ := getIn (show k < v.length by omega)
    have b2 := inB (show k < v.length by omega)
    have hpc : (L.map (·.price))[k]? = some c.price := by rw [List.getElem?_map, hc]; rfl
    have hsu := dotI_succ hpc hz1
    have hbn := dot_abs 1125899906842624 ((L.map (·.price)).take (k + 1)) (v.take (k + 1)) fun n hn => by
      obtain ⟨c, hc, rfl⟩ := List.mem_map.1 (List.mem_of_mem_take hn)
      exact hpr c (hLm c hc)
    rw [List.length_take, List.length_map] at hbn
    simp only [go_sem, e1, e2, e6, e9, e12, e13, e11, getD_map hz1, b2]
    refine acond_i (fun hd => ?_) (fun hd => ?_)
    · have hs1 : is1 z = true := hd
      rw [show v01 z = 1 from if_pos hs1, Int.mul_one] at hsu
      obtain ⟨t0, ht0⟩ := Int.eq_ofNat_of_zero_le (hS.type c (List.mem_of_getElem? hc)).1
      have ht1 := (hS.type c (List.mem_of_getElem? hc)).2
      have hun := usedTo_yes (n := a.x.types.length) hc hz1 hs1 ht0 (by omega)
      obtain ⟨m, hm⟩ := getIn (l := usedTo a.x.types.length L v k) (k := t0) (by rw [usedTo_len]; omega)
      have b3 : (0 : Int) ≤ (t0 : Int) ∧ (t0 : Int) < ((usedTo a.x.types.length L v k).length : Int) := by rw [usedTo_len]; omega
      have hmb : 0 ≤ m ∧ m ≤ (k : Int) := by
        have := List.mem_of_getElem? hm
        unfold usedTo at this
        obtain ⟨t, _, rfl⟩ := List.mem_map.1 this
        have := dot_bnd ((typI L t).take k) (v.take k) fun n hn => by
          have := List.mem_of_mem_take hn
          unfold typI at this
          obtain ⟨_, _, rfl⟩ := List.mem_map.1 this
          exact bitI_in _
        rw [List.length_take] at this
        omega
      have wm : IntKind.i64.wrap (m + 1) = m + 1 := wrap_in (by omega)
      have ws : IntKind.i64.wrap (dotI ((L.map (·.price)).take k) (v.take k) + c.price) = dotI ((L.map (·.price)).take (k + 1)) (v.take (k + 1)) := by rw [hsu] at hbn ⊢; exact wrap_in (by omega)
      simp only [go_sem, e1, e2, e6, e9, e12, e13, e11, getD_map hc, b1, ht0, RU, List.length_map, getD_map hm, b3, wm, ws]
      have hcell : ((usedTo a.x.types.length L v k).map encInt).set t0 (setAt (((usedTo a.x.types.length L v k).map encInt).getD t0 []) 0 [int (m + 1)]) = (usedTo a.x.types.length L v (k + 1)).map encInt := by
        rw [getD_map hm, hun, getD_of hm, List.map_set]; rfl
      refine ⟨by rw [usedTo_len]; omega, wputE_1 so3 RU ⟨by rw [List.length_map, usedTo_len]; omega, rfl, by simp⟩ ?_⟩
      have RU2 : updH H ju (some (⟨3, 1, ((usedTo a.x.types.length L v k).map encInt).set t0 (setAt (((usedTo a.x.types.length L v k).map encInt).getD t0 []) 0 [int (m + 1)])⟩ : Row)) ju = some (iRow (usedTo a.x.types.length L v (k + 1))) := by rw [updH_same, hcell]
      have R62 := (updH_ne H ju (some (⟨3, 1, ((usedTo a.x.types.length L v k).map encInt).set t0 (setAt (((usedTo a.x.types.length L v k).map encInt).getD t0 []) 0 [int (m + 1)])⟩ : Row)) i6 (row_ne' R6 RU rfl)).trans R6
      simp only [go_sem, e1, e2, e6, e9, e12, e13, e11, wrapS (show k ≤ 4611686018427387904 by omega)]
      exact ⟨⟨k + 1, hlt, rfl, rfl, R62, (updH_same _ _ _).symm.trans RU2⟩, by simp only [natOf_int]; omega⟩
    · have hs1 : ¬ is1 z = true := by
        have : is1 z = false := hd
        rw [this]; simp
      rw [show v01 z = 0 from if_neg hs1, Int.mul_zero, Int.add_zero] at hsu
      simp only [go_sem, e1, e2, e6, e9, e12, e13, e11, wrapS (show k ≤ 4611686018427387904 by omega)]
      exact ⟨⟨k + 1, hlt, rfl, by rw [hsu], R6, by rw [usedTo_no hc hz1 hs1]; exact RU⟩, by simp only [natOf_int]; omega⟩
  have hge := geB hk (by simpa using hge)
  subst hge
  rw [List.take_of_length_le (show (L.map (·.price)).length ≤ L.length by rw [List.length_map]; exact Nat.le_refl _)] at e11
  have hun : p.unserved = pickTo K v L.length K.length := by rw [q5]
  have hUl : p.unserved.length ≤ K.length := by rw [hun]; exact pickTo_len _ _ _ _
  have hUm : ∀ u ∈ p.unserved, u ∈ K := by
    intro u hu
    rw [hun] at hu
    unfold pickTo at hu
    obtain ⟨i, _, hi⟩ := List.mem_filterMap.1 hu
    split at hi
    · next _ _ hk1 _ =>
      split at hi
      · cases hi; exact List.mem_of_getElem? hk1
      · cases hi
    · cases hi
  have hsum : (p.unserved.map (weightM a.x)).sum = dotI (K.map (weightM a.x)) (v.drop L.length) := by
    rw [hun, dotI_pick (weightM a.x) K v L.length K.length (Nat.le_refl _) (by omega), List.take_of_length_le (by rw [List.length_map]; exact Nat.le_refl _), List.take_of_length_le (by rw [List.length_drop]; omega)]
  have hbP := dot_abs 1125899906842624 (L.map (·.price)) (v.take L.length) fun n hn => by
    obtain ⟨c, hc, rfl⟩ := List.mem_map.1 hn
    exact hpr c (hLm c hc)
  rw [List.length_map] at hbP
  simp only [go_sem, e1, e2, e6, e9, e12, e13, e11]
  refine ⟨fun ρ H => ∃ (k : Nat), k ≤ p.unserved.length ∧ ρ 1 = .sl (v.map Go.Aw.D.encStr) ∧ ρ 2 = .rp (encAsk a) 0 ∧ ρ 6 = .op i6 0 0 ∧ ρ 12 = .os ju ∧ ρ 14 = int k ∧ ρ 11 = int (dotI (L.map (·.price)) (v.take L.length) + ((p.unserved.take k).map (weightM a.x)).sum) ∧ H i6 = some (⟨53, 2, [encPlan p]⟩ : Row) ∧ H ju = some (iRow (usedTo a.x.types.length L v L.length)), fun ρ _ => p.unserved.length - natOf (ρ 14), ⟨0, Nat.zero_le _, by simp only [go_sem, e1, e2, e6, e9, e12, e13, e11], by simp only [go_sem, e1, e2, e6, e9, e12, e13, e11], by simp only [go_sem, e1, e2, e6, e9, e12, e13, e11], by simp only [go_sem, e1, e2, e6, e9, e12, e13, e11], (by simp only [go_sem, e1, e2, e6, e9, e12, e13, e11]; rfl), by simp only [go_sem, e11, List.take_zero, List.map_nil, List.sum_nil, Int.add_zero], R6, RU⟩, ?_⟩
  rintro ρ H ⟨k, hk, e1, e2, e6, e12, e14, e11, R6, RU⟩
  simp only [go_sem, e1, e2, e6, e12, e14, e11, R6, List.length_map]
  refine acond_i (fun hlt => ?_) (fun hge => ?_)
  · have hlt := ltB (by simpa using hlt)
    obtain ⟨u, hu⟩ := getIn hlt
    have b1 := inB hlt
    have hpu := hS.pen u (hUm u (List.mem_of_getElem? hu))
    have hus := unserved20_c a.x u
    have hws := weight20_c (unserved20 a.x u).1
    have hwm : weightM a.x u = (weightP (unserved20 a.x u).1).1 := rfl
    rw [hpu.1] at hus
    rw [hpu.2.1, ← hwm] at hws
    have hsk := sum_bnd (weightM a.x) 17592186044416 (p.unserved.take k) fun u hu => (hS.pen u (hUm u (List.mem_of_mem_take hu))).2.2
    rw [List.length_take] at hsk
    have hst : ((p.unserved.take (k + 1)).map (weightM a.x)).sum = ((p.unserved.take k).map (weightM a.x)).sum + weightM a.x u := by rw [take_succ hu, List.map_append, List.sum_append]; simp
    generalize (unserved20 a.x u).1 = s0 at *
    have ws : IntKind.i64.wrap (dotI (L.map (·.price)) (v.take L.length) + ((p.unserved.take k).map (weightM a.x)).sum + weightM a.x u) = dotI (L.map (·.price)) (v.take L.length) + ((p.unserved.take (k + 1)).map (weightM a.x)).sum := by
      rw [hst, wrap_in (by omega)]; omega
    simp only [go_sem, e1, e2, e6, e12, e14, e11]
    refine adraw_p [i6] [(0, true), (1, true), (2, true), (3, true), (4, true), (5, true), (6, true), (7, true), (8, true), (9, true), (10, true), (11, false), (12, false), (13, false)] (by simp [R6]) (by kernel_rfl) fun Hp Hr hp1 hr1 hp2 hr2 => ?_
    have P6 := (hp1 i6 (by simp)).trans R6
    have n6 : ju ≠ i6 := row_ne' RU R6 rfl
    replace RU := (hr1 ju (by simpa using n6)).trans RU
    simp only [go_sem, e1, e2, e6, e12, e14, e11, P6, getD_map hu, b1, List.length_map]
    refine ⟨_, hus.q rfl, ?_⟩
    simp only [go_sem, e1, e2, e6, e12, e14, e11]
    refine anew_i fun i15 h15 => ?_
    simp only [go_sem, e1, e2, e6, e12, e14, e11]
    refine wputE_n (updH_same _ _ _) (by simp [encScore_len]) ?_
    replace RU := mono_new2 h15 (some (⟨99, 4, [[int 0, int 0, int 0, int 0]]⟩ : Row)) (some (⟨99, 4, [encScore s0]⟩ : Row)) _ _ RU
    generalize hG : updH (updH Hr i15 _) i15 _ = HG
    replace RU := (congrFun hG.symm ju).trans RU
    have R15 : HG i15 = some (⟨99, 4, [encScore s0]⟩ : Row) := by rw [← hG, updH_same]; rfl
    clear hG h15
    simp only [go_sem, e1, e2, e6, e12, e14, e11]
    refine pinEnd_i fun hd Hm hm1 hm2 => ?_
    have n15 : i15 ≠ i6 := fun e => by rw [e] at R15; rw [hd i6 (by simp)] at R15; cases R15
    replace RU := (hm2 ju (by simpa using n6)).trans RU
    replace R15 := (hm2 i15 (by simpa using n15)).trans R15
    replace R6 := (hm1 i6 (by simp)).trans R6
    simp only [go_sem, e1, e2, e6, e12, e14, e11, R15]
    refine PC.use hws ?_
    simp only [go_sem, e1, e2, e6, e12, e14, e11]
    refine acond_i (fun hd => ?_) (fun hd => ?_)
    · simp at hd
    simp only [go_sem, e1, e2, e6, e12, e14, e11, ws, wrapS (show k ≤ 4611686018427387904 by omega)]
    exact ⟨⟨k + 1, hlt, rfl, rfl, R6, RU⟩, by simp only [natOf_int]; omega⟩
  have hge := geB hk (by simpa using hge)
  subst hge
  rw [List.take_length] at e11
  have hsk := sum_bnd (weightM a.x) 17592186044416 p.unserved fun u hu => (hS.pen u (hUm u hu)).2.2
  have htot : dotI (L.map (·.price)) (v.take L.length) + (p.unserved.map (weightM a.x)).sum = dotI B.1.cost v := by
    have := dot_cut (L.map (·.price)) (K.map (weightM a.x)) v (by rw [List.length_map]; omega)
    rw [List.length_map] at this
    rw [hS.cost, this, hsum]
  rw [htot] at e11
  have htv := times01 (ns := B.1.cost) (v := v) (fun n hn => by have := hcp n hn; omega) q3 q2.symm (by omega)
  have hbT : (dotI B.1.cost v).natAbs ≤ 1152921504606846976 := by rw [← htot]; omega
  simp only [go_sem, e1, e2, e6, e12, e14, e11]
  refine ⟨fun ρ H => ∃ (k : Nat), k ≤ a.x.types.length ∧ ρ 1 = .sl (v.map Go.Aw.D.encStr) ∧ ρ 2 = .rp (encAsk a) 0 ∧ ρ 11 = int (dotI B.1.cost v) ∧ ρ 12 = .os ju ∧ ρ 19 = int k ∧ H ju = some (iRow (usedTo a.x.types.length L v L.length)), fun ρ _ => a.x.types.length - natOf (ρ 19), ⟨0, Nat.zero_le _, by simp only [go_sem, e1, e2, e6, e12, e14, e11], by simp only [go_sem, e1, e2, e6, e12, e14, e11], by simp only [go_sem, e1, e2, e6, e12, e14, e11], by simp only [go_sem, e1, e2, e6, e12, e14, e11], (by simp only [go_sem, e1, e2, e6, e12, e14, e11]; rfl), RU⟩, ?_⟩
  rintro ρ H ⟨k, hk, e1, e2, e11, e12, e19, RU⟩
  simp only [go_sem, e1, e2, e11, e12, e19, RU, List.length_map, usedTo_len]
  refine acond_i (fun hlt => ?_) (fun hge => ?_)
  · have hlt := ltB (by simpa using hlt)
    obtain ⟨ty, hty2⟩ := getIn hlt
    have b1 := inB hlt
    obtain ⟨m, hm⟩ := getIn (l := usedTo a.x.types.length L v L.length) (k := k) (by rw [usedTo_len]; omega)
    have hme : m = dotI (typI L k) (v.take L.length) := by
      unfold usedTo at hm
      rw [List.getElem?_map, List.getElem?_range hlt] at hm
      have : m = dotI ((typI L k).take L.length) (v.take L.length) := (Option.some.inj hm).symm
      rw [List.take_of_length_le (show (typI L k).length ≤ L.length by unfold typI; rw [List.length_map]; exact Nat.le_refl _)] at this
      exact this
    have hcnt := hS.cnt k ty hty2
    rw [← hme] at hcnt
    simp only [go_sem, e1, e2, e11, e12, e19]
    refine adraw_p [ju] [(0, true), (1, true), (2, true), (3, true), (4, true), (5, true), (6, true), (7, true), (8, true), (9, true), (10, true), (11, true)] (by simp [RU]) (by kernel_rfl) fun Hp Hr hp1 hr1 hp2 hr2 => ?_
    have PU := (hp1 ju (by simp)).trans RU
    simp only [go_sem, e1, e2, e11, e12, e19, PU, List.length_map, usedTo_len, getD_map hm, getD_map hty2, b1]
    refine ⟨hlt, pinEnd_i fun hd Hm hm1 hm2 => ?_⟩
    replace RU := (hm1 ju (by simp)).trans RU
    simp only [go_sem]
    refine acond_i (fun hd => ?_) (fun hd => ?_)
    · simp at hd; omega
    simp only [go_sem, e1, e2, e11, e12, e19, wrapS (show k ≤ 4611686018427387904 by omega)]
    exact ⟨⟨k + 1, hlt, rfl, RU⟩, by simp only [natOf_int]; omega⟩
  have hge := geB hk (by simpa using hge)
  subst hge
  simp only [go_sem, e1, e2, e11, e12, e19]
  refine PC.use hbc ?_
  simp only [go_sem, e1, e2, e11, e12, e19]
  refine anew_i fun i20 hi200 => ?_
  simp only [go_sem, e1, e2, e11, e12, e19]
  refine wputE_n (updH_same _ _ _) (by simp [encPLin_len]) ?_
  generalize hGi20 : updH (updH _ i20 _) i20 _ = HGi20
  have R20 : HGi20 i20 = some (⟨77, 2, [encPLin B.1]⟩) := by rw [← hGi20, updH_same]; rfl
  clear hGi20 hi200
  simp only [go_sem, e1, e2, e11, e12, e19, R20]
  refine PC.use (value25_c B.1 v (fun n hn => by have := hcp n hn; unfold i64I; omega) hv) ?_
  rw [htv, q1]
  simp only [go_sem, e1, e2, e11, e12, e19]
  refine ⟨_, fun _ => (of4_c (dotI B.1.cost v) (by omega) (by omega)).q rfl, ?_⟩
  simp only [go_sem]
  refine ⟨_, fun _ => awake30_c.q rfl, ?_⟩
  simp only [go_sem]
  refine cB ?_
  simp
end Go.Proofs.YtbcfajfngdmgnaaGreatDoor.Nu
end

section
namespace Go.Proofs.YtbcfajfngdmgnaaGreatDoor
open Go.Aw Go.Aw.D
theorem inB_of {x : Instance} (h : bInstance 1048576 x) : InB x := by
  obtain ⟨⟨hpl, har⟩, hty, hor, hap, hbe⟩ := h
  exact ⟨hpl.1, hpl.2, har.1, fun a ha => ⟨(har.2 a ha).2.2.2.2.1.1, (har.2 a ha).2.2.2.2.2.1⟩, hty.1, fun t ht => ⟨(hty.2 t ht).1, (hty.2 t ht).2.2.2.2.1.1⟩, hor.1, fun t ht => ⟨(hor.2 t ht).1, (hor.2 t ht).2.1.1⟩, hap.1, hbe.1⟩
theorem askB_of {a : Go.Aw.D.Ask} (h : bAsk 1048576 a) : Nu.AskB a := by
  obtain ⟨hx, hl, hc, hd⟩ := h
  exact ⟨inB_of hx, hl.1, fun c h => (hl.2 c h).2.1, fun q h => (hc.2 q h).2.1.2, ⟨fun t h => (hx.2.1.2 t h).2.1, fun q h => (hc.2 q h).2.2, fun d h => (hd.2 d h).2.2.2⟩, fun d h => hd.2 d h⟩
theorem masterServes_holds : Rows.MasterServesUptoCardSaid := masterServes.card fun a v ha hv => Nu.masterServes_c a v (askB_of ha) ⟨hv.1, fun s hs => hv.2 s hs⟩
#print axioms masterServes_holds
end Go.Proofs.YtbcfajfngdmgnaaGreatDoor
end
