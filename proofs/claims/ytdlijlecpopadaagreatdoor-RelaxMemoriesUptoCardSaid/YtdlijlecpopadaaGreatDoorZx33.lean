/- Texts joined by a program: RxJ. -/
import Derived.Test.YtdlijlecpopadaaGreatDoorZx16
import Derived.Test.YtdlijlecpopadaaGreatDoorZx32

set_option linter.unusedSimpArgs false
set_option linter.unusedVariables false
namespace Go.Proofs.YtdlijlecpopadaaGreatDoor.Rx
open Go.Aw Go.Aw.D Go.Proofs Ty Go.Nu Go.So
open Sq (W visP stopV hasR NetOk idxF idxF_hit idxF_miss idxF_any)
open Nu (ltB geB cmpI_c)
open Mv (convI convB convA NC.pc take_allP)
set_option maxRecDepth 100000
theorem idxI_c (l : List Int) (n : Int) (hl : l.length ≤ 1048576) : PC Tryz.prog 141 [.sl (l.map encInt), int n] (int (idxF (fun a => n == a) l 0)) := by
  refine PC.body (c := Tryz.f141.body.getD .skip) (fun _ => false) mixed Tryz.func141 rfl (by kernel_rfl) ?_
  unfold Tryz.f141
  simp only [Option.getD_some]
  simp only [go_sem]
  refine ⟨fun ρ H => ∃ (k : Nat), k ≤ l.length ∧ ρ 0 = .sl (l.map encInt) ∧ ρ 1 = int n ∧ ρ 7 = int (l.length : Nat) ∧ ρ 8 = int k ∧ (∀ u ∈ l.take k, (n == u) = false), fun ρ _ => l.length - natOf (ρ 8), ⟨0, Nat.zero_le _, by simp only [go_sem], by simp only [go_sem], by simp only [go_sem, List.length_map], (by simp only [go_sem]; rfl), by simp⟩, ?_⟩
  rintro ρ H ⟨k, hk, e0, e1, e7, e8, hz⟩
  simp only [go_sem, e0, e1, e7, e8]
  refine acond_i (fun hlt => ?_) (fun hge => ?_)
  · have hlt := ltB (by simpa using hlt)
    obtain ⟨c, hc⟩ := getIn hlt
    have b1 := inB hlt
    simp only [go_sem, e0, e1, e7, e8, getD_map hc, b1]
    refine acond_i (fun hb => ?_) (fun hb => ?_)
    · simp only [go_sem, e0, e1, e7, e8]
      exact convI (by rw [idxF_hit (p := fun a => n == a) hz hc hb]; omega)
    · simp only [go_sem, e0, e1, e7, e8, wrapS (show k ≤ 4611686018427387904 by omega)]
      exact ⟨⟨k + 1, hlt, rfl, take_allP (p := fun u => (n == u) = false) hc hb hz⟩, by simp only [natOf_int]; omega⟩
  have hge := geB hk (by simpa using hge)
  subst hge
  rw [List.take_length] at hz
  simp only [go_sem]
  exact convI (by rw [idxF_miss (p := fun a => n == a) hz])
def hasI (l : List Int) (n : Int) : Bool := l.any fun a => n == a
theorem containsI_c (l : List Int) (n : Int) (hl : l.length ≤ 1048576) : PC Tryz.prog 78 [.sl (l.map encInt), int n] (boo (hasI l n)) := by
  refine PC.body (c := Tryz.f78.body.getD .skip) (fun _ => false) mixed Tryz.func78 rfl (by kernel_rfl) ?_
  unfold Tryz.f78
  simp only [Option.getD_some]
  simp only [go_sem]
  refine PC.use (idxI_c l n hl) ?_
  simp only [go_sem]
  exact convB (idxF_any l 0 (Int.le_refl _))
def placesP (x : Instance) (a : Int) : List Int := (visP x.orders a).map fun v => (stopV x v).1.place
theorem places_c (x : Instance) (a : Int) : PC Tryz.prog 77 [.agg (encInstance x), int a] (.sl ((placesP x a).map encInt)) := by
  have hv := Sq.visP_len x.orders a
  unfold placesP
  refine PC.body (c := Tryz.f77.body.getD .skip) (fun t => t == 5) mixed Tryz.func77 rfl (by kernel_rfl) ?_
  unfold Tryz.f77
  simp only [Option.getD_some]
  simp only [go_sem]
  refine anew_i fun j hj0 => ?_
  generalize hGj : updH _ j _ = HGj
  have R : HGj j = some (iRow []) := by rw [← hGj, updH_same]; try rfl
  clear hGj hj0
  simp only [go_sem, R]
  refine PC.use (Sq.ovisits_c x.orders a) ?_
  generalize visP x.orders a = V at *
  simp only [go_sem, List.length_map]
  refine ⟨fun ρ H => ∃ (k : Nat) (j : Nat), k ≤ V.length ∧ ρ 2 = .rp (encInstance x) 0 ∧ ρ 13 = .sl (V.map encVisit) ∧ ρ 14 = int (V.length : Nat) ∧ ρ 15 = int k ∧ ρ 5 = .os j ∧ H j = some (iRow ((V.take k).map fun v => (stopV x v).1.place)), fun ρ _ => V.length - natOf (ρ 15), ⟨0, j, Nat.zero_le _, by simp only [go_sem], by simp only [go_sem], by simp only [go_sem, List.length_map], (by simp only [go_sem]; rfl), by simp only [go_sem], R⟩, ?_⟩
  rintro ρ H ⟨k, j, hk, e2, e13, e14, e15, e5, R⟩
  simp only [go_sem, e2, e13, e14, e15, e5]
  refine acond_i (fun hlt => ?_) (fun hge => ?_)
  · have hlt := ltB (by simpa using hlt)
    obtain ⟨v, hc⟩ := getIn hlt
    have b1 := inB hlt
    simp only [go_sem, e2, e13, e14, e15, e5, getD_map hc, b1]
    refine anew_i fun i7 hi70 => ?_
    have ne_j_i7 : j ≠ i7 := ne_new R hi70
    simp only [go_sem, e2, e13, e14, e15, e5, R]
    refine wputE_n (updH_same _ _ _) (by simp [encVisit_len]) ?_
    generalize hGi7 : updH (updH _ i7 _) i7 _ = HGi7
    replace R := (congrFun hGi7.symm j).trans ((updH_ne _ _ _ _ ne_j_i7).trans ((updH_ne _ _ _ _ ne_j_i7).trans R))
    have R7 : HGi7 i7 = some (visRow1 v) := by rw [← hGi7, updH_same]; try rfl
    clear hGi7 hi70
    simp only [go_sem, e2, e13, e14, e15, e5, R7, R]
    refine PC.use (Sq.ostop_c x v) ?_
    simp only [go_sem, e2, e13, e14, e15, e5]
    refine anew_i fun i8 hi80 => ?_
    have ne_j_i8 : j ≠ i8 := ne_new R hi80
    simp only [go_sem, e2, e13, e14, e15, e5, R]
    refine wputE_n (updH_same _ _ _) (by simp [encStop_len]) ?_
    generalize hGi8 : updH (updH _ i8 _) i8 _ = HGi8
    replace R := (congrFun hGi8.symm j).trans ((updH_ne _ _ _ _ ne_j_i8).trans ((updH_ne _ _ _ _ ne_j_i8).trans R))
    have R8 : HGi8 i8 = some (stopRow (stopV x v).1) := by rw [← hGi8, updH_same]; try rfl
    clear hGi8 hi80
    simp only [go_sem, e2, e13, e14, e15, e5, R8, R]
    refine wappE_i R ⟨rfl, rfl⟩ (by simp only [go_sem]) (by simp only [List.length_map, List.length_take, List.length_cons, List.length_nil]; omega) (fun j2 hj2 => ?_)
    simp only [go_sem, e2, e13, e14, e15, e5, wrapS (show k ≤ 4611686018427387904 by omega)]
    refine ⟨⟨k + 1, j2, hlt, rfl, rfl, ?_⟩, by simp only [natOf_int]; omega⟩
    rw [updH_same, take_succ hc]
    refine congrArg (fun L => some (⟨3, 1, L⟩ : Row)) ?_
    simp
    rfl
  have hge := geB hk (by simpa using hge)
  subst hge
  rw [List.take_length] at R
  simp only [go_sem, e2, e13, e14, e15, e5]
  exact .row _ _ _ R (ConvE.refl _)
def distC (p q : List Int) (out : Int) (c : Arc) : Int := if ((hasI p c.src && hasI q c.dst) || (hasI q c.src && hasI p c.dst)) = true then imin out c.miles else out
def distP (x : Instance) (a b : Int) : Int :=
  if ((placesP x a).any fun i => hasI (placesP x b) i) = true then 0 else x.net.arcs.foldl (distC (placesP x a) (placesP x b)) 10001
theorem placesP_len (x : Instance) (a : Int) : (placesP x a).length ≤ 2 := by
  unfold placesP; rw [List.length_map]; exact Sq.visP_len _ _
theorem distance_c (x : Instance) (a b : Int) (hx : x.net.arcs.length ≤ 1048576) : PC Tryz.prog 39 [.agg (encInstance x), int a, int b] (int (distP x a b)) := by
  have eD : distP x a b = if ((placesP x a).any fun i => hasI (placesP x b) i) = true then 0 else x.net.arcs.foldl (distC (placesP x a) (placesP x b)) 10001 := rfl
  have hpl := placesP_len x a
  have hql := placesP_len x b
  generalize distP x a b = D at eD
  refine PC.body (c := Tryz.f39.body.getD .skip) (fun _ => false) mixed Tryz.func39 rfl (by kernel_rfl) ?_
  unfold Tryz.f39
  simp only [Option.getD_some]
  simp only [go_sem]
  refine adraw_m [(0, true), (1, true), (3, true), (4, true), (2, false), (5, false), (6, true), (7, true)] (by kernel_rfl) ?_
  simp only [go_sem]
  refine PC.use (places_c x a) ?_
  simp only [go_sem]
  refine PC.use (places_c x b) ?_
  generalize placesP x a = P at *
  generalize placesP x b = Q at *
  simp only [go_sem, List.length_map]
  refine ⟨fun ρ H => ∃ (k : Nat), k ≤ P.length ∧ ρ 3 = .rp (encInstance x) 0 ∧ ρ 7 = .sl (P.map encInt) ∧ ρ 8 = .sl (Q.map encInt) ∧ ρ 22 = .sl (P.map encInt) ∧ ρ 23 = int (P.length : Nat) ∧ ρ 24 = int k ∧ (∀ u ∈ P.take k, hasI Q u = false), fun ρ _ => P.length - natOf (ρ 24), ⟨0, Nat.zero_le _, by simp only [go_sem], by simp only [go_sem], by simp only [go_sem], by simp only [go_sem], by simp only [go_sem, List.length_map], (by simp only [go_sem]; rfl), by simp⟩, ?_⟩
  rintro ρ H ⟨k, hk, e3, e7, e8, e22, e23, e24, hz⟩
  simp only [go_sem, e3, e7, e8, e22, e23, e24]
  refine acond_i (fun hlt => ?_) (fun hge => ?_)
  · have hlt := ltB (by simpa using hlt)
    obtain ⟨c, hc⟩ := getIn hlt
    have b1 := inB hlt
    simp only [go_sem, e3, e7, e8, e22, e23, e24, getD_map hc, b1]
    refine PC.use (containsI_c Q c (by omega)) ?_
    simp only [go_sem, e3, e7, e8, e22, e23, e24]
    refine acond_i (fun hb => ?_) (fun hb => ?_)
    · rw [if_pos (List.any_eq_true.2 ⟨c, List.mem_of_getElem? hc, hb⟩)] at eD
      subst eD
      simp only [go_sem]
      exact .refl _
    · simp only [go_sem, e3, e7, e8, e22, e23, e24, wrapS (show k ≤ 4611686018427387904 by omega)]
      exact ⟨⟨k + 1, hlt, rfl, take_allP (p := fun u => hasI Q u = false) hc hb hz⟩, by simp only [natOf_int]; omega⟩
  have hge := geB hk (by simpa using hge)
  subst hge
  rw [List.take_length] at hz
  rw [if_neg (by rw [Bool.not_eq_true, List.any_eq_false]; intro u hu; rw [hz u hu]; simp)] at eD
  simp only [go_sem, e3, e7, e8, e22, e23, e24, List.length_map]
  refine ⟨fun ρ H => ∃ (k : Nat), k ≤ x.net.arcs.length ∧ ρ 7 = .sl (P.map encInt) ∧ ρ 8 = .sl (Q.map encInt) ∧ ρ 34 = .sl (x.net.arcs.map encArc) ∧ ρ 35 = int (x.net.arcs.length : Nat) ∧ ρ 36 = int k ∧ ρ 11 = int ((x.net.arcs.take k).foldl (distC P Q) 10001), fun ρ _ => x.net.arcs.length - natOf (ρ 36), ⟨0, Nat.zero_le _, by simp only [go_sem, e3, e7, e8], by simp only [go_sem, e3, e7, e8], by simp only [go_sem, e3, e7, e8], by simp only [go_sem, List.length_map, e3, e7, e8], (by simp only [go_sem, e3, e7, e8]; rfl), by simp only [go_sem]; rfl⟩, ?_⟩
  rintro ρ H ⟨k, hk, e7, e8, e34, e35, e36, e11⟩
  simp only [go_sem, e7, e8, e34, e35, e36, e11]
  refine acond_i (fun hlt => ?_) (fun hge => ?_)
  · have hlt := ltB (by simpa using hlt)
    obtain ⟨c, hc⟩ := getIn hlt
    have b1 := inB hlt
    have hs := Sq.foldl_take (f := distC P Q) (b := (10001 : Int)) hc
    generalize (x.net.arcs.take k).foldl (distC P Q) 10001 = m at *
    have hdc : distC P Q m c = if ((hasI P c.src && hasI Q c.dst) || (hasI Q c.src && hasI P c.dst)) = true then imin m c.miles else m := rfl
    simp only [go_sem, e7, e8, e34, e35, e36, e11, getD_map hc, b1]
    refine anew_i fun i13 hi130 => ?_
    simp only [go_sem, e7, e8, e34, e35, e36, e11]
    refine wputE_n (updH_same _ _ _) (by simp [encArc_len]) ?_
    generalize hGi13 : updH (updH _ i13 _) i13 _ = HGi13
    have R13 : HGi13 i13 = some ((⟨139, 6, [encArc c]⟩ : Row)) := by rw [← hGi13, updH_same]; try rfl
    clear hGi13 hi130
    simp only [go_sem, e7, e8, e34, e35, e36, e11, R13]
    refine PC.use (containsI_c P c.src (by omega)) ?_
    simp only [go_sem, e7, e8, e34, e35, e36, e11, R13]
    refine ⟨_, fun _ => PC.q (containsI_c Q c.dst (by omega)) rfl, ?_⟩
    simp only [go_sem, e7, e8, e34, e35, e36, e11, R13]
    refine PC.use (containsI_c Q c.src (by omega)) ?_
    simp only [go_sem, e7, e8, e34, e35, e36, e11, R13]
    refine ⟨_, fun _ => PC.q (containsI_c P c.dst (by omega)) rfl, ?_⟩
    simp only [go_sem, e7, e8, e34, e35, e36, e11, R13]
    refine acond_i (fun hb => ?_) (fun hb => ?_)
    · rw [if_pos hb] at hdc
      simp only [go_sem, e7, e8, e34, e35, e36, e11, R13, wrapS (show k ≤ 4611686018427387904 by omega)]
      exact ⟨⟨k + 1, hlt, rfl, by rw [hs, hdc]⟩, by simp only [natOf_int]; omega⟩
    · rw [if_neg (fun h => Bool.noConfusion (hb.symm.trans h))] at hdc
      simp only [go_sem, e7, e8, e34, e35, e36, e11, wrapS (show k ≤ 4611686018427387904 by omega)]
      exact ⟨⟨k + 1, hlt, rfl, by rw [hs, hdc]⟩, by simp only [natOf_int]; omega⟩
  have hge := geB hk (by simpa using hge)
  subst hge
  rw [List.take_length] at e11
  simp only [go_sem, e7, e8, e34, e35, e36, e11]
  subst eD
  exact .refl _
theorem near1_c (x : Instance) (i a b : Int) (hx : x.net.arcs.length ≤ 1048576) : PC Tryz.prog 37 [int a, int b, .rp (encInstance x) 0, .rp [int i] 0] (int (cmpI (distP x i a) (distP x i b))) := by
  refine PC.body (c := Tryz.f37.body.getD .skip) (fun _ => false) mixed Tryz.func37 rfl (by kernel_rfl) ?_
  unfold Tryz.f37
  simp only [Option.getD_some]
  simp only [go_sem]
  refine adraw_m [(0, true), (1, true), (2, true), (4, true), (5, true), (6, true), (3, false), (7, false), (8, false), (9, true)] (by kernel_rfl) ?_
  simp only [go_sem]
  refine PC.use (distance_c x i a hx) ?_
  simp only [go_sem]
  refine PC.use (distance_c x i b hx) ?_
  simp only [go_sem]
  refine PC.use (cmpI_c _ _) ?_
  simp only [go_sem]
  exact .refl _
def dlt (x : Instance) (i : Int) (a b : Int) : Bool := decide (distP x i a < distP x i b)
def nearSet (size i : Nat) (others : List Int) : Int := (others.take (size - 1)).foldl (fun s k => bitV .or .i64 s (shV .shl .i64 1 k)) ((2 ^ i : Nat) : Int)
def othersP (x : Instance) (i : Nat) : List Int := ((List.range x.orders.length).filter fun k => k != i).map Int.ofNat
def nearP (x : Instance) (size : Nat) : List Int := (List.range x.orders.length).map fun i => nearSet size i (ssort (dlt x (i : Nat)) (othersP x i))
theorem dlt_swo (x : Instance) (i : Int) : SWO (dlt x i) := ⟨fun a b h => by
    unfold dlt at *
    have := of_decide_eq_true h
    exact decide_eq_false (by omega), fun a b c h1 h2 => by
    unfold dlt at *
    have := of_decide_eq_false h1
    have := of_decide_eq_false h2
    exact decide_eq_false (by omega)⟩
theorem cmpI_neg (a b : Int) : decide (cmpI a b < 0) = decide (a < b) := by
  unfold cmpI
  split
  · next h => rw [decide_eq_true h]; rfl
  · next h =>
    rw [decide_eq_false h]
    split <;> rfl
theorem near_cmp (x : Instance) (i : Int) (hx : x.net.arcs.length ≤ 1048576) : CmpOk 37 [.rp (encInstance x) 0, .rp [int i] 0] (dlt x i) (fun _ => True) :=
  ⟨by kernel_rfl, fun a b _ _ => ⟨_, cmpI_neg _ _, near1_c x i a b hx⟩⟩
def othTo (i : Nat) (m : Nat) : List Int := ((List.range m).filter fun k => k != i).map Int.ofNat
theorem othTo_succ (i m : Nat) : othTo i (m + 1) = if (m != i) = true then othTo i m ++ [(m : Int)] else othTo i m := by
  unfold othTo
  rw [List.range_succ, List.filter_append, List.map_append]
  simp only [List.filter]
  cases h : (m != i) with
  | true => rfl
  | false => simp
theorem othTo_len (i : Nat) : ∀ m, (othTo i m).length ≤ m := fun m => by
  unfold othTo
  rw [List.length_map]
  exact Nat.le_trans (List.length_filter_le _ _) (by rw [List.length_range]; exact Nat.le_refl m)
theorem ssortPerm (lt : Int → Int → Bool) (l : List Int) : (ssort lt l).Perm l := by
  have : ∀ (l acc : List Int), (l.foldl (fun acc x => ins lt x acc) acc).Perm (acc ++ l) := by
    intro l
    induction l with
    | nil => intro acc; rw [List.append_nil]; exact .refl _
    | cons a r ih =>
      intro acc
      refine (ih _).trans ?_
      refine ((ins_perm lt a acc).append_right r).trans ?_
      simpa using List.perm_middle.symm
  have h2 := this l []
  rwa [List.nil_append] at h2
theorem othersP_mem {x : Instance} {i : Nat} {a : Int} (h : a ∈ othersP x i) : 0 ≤ a ∧ a < x.orders.length := by
  unfold othersP at h
  obtain ⟨k, hk, rfl⟩ := List.mem_map.1 h
  have := List.mem_range.1 (List.mem_filter.1 hk).1
  show (0 : Int) ≤ (k : Int) ∧ (k : Int) < (x.orders.length : Int)
  omega
theorem set_rep {A : List Int} {n k : Nat} (v : Int) (hA : A.length = k) (hk : k < n) : (A ++ List.replicate (n - k) 0).set k v = (A ++ [v]) ++ List.replicate (n - (k + 1)) 0 := by
  have : n - k = (n - (k + 1)) + 1 := by omega
  rw [this, List.replicate_succ, List.set_append_right _ _ (by omega), hA, Nat.sub_self, List.set_cons_zero, List.append_assoc]; rfl
theorem near_c (x : Instance) (size : Nat) (h1 : 1 ≤ size) (h10 : size ≤ 10) (hn : x.orders.length ≤ 19) (hx : x.net.arcs.length ≤ 1048576) :
    PC Tryz.prog 11 [.agg (encInstance x), int (size : Nat)] (.tup [.sl ((nearP x size).map encInt), int 0]) := by
  refine PC.body (c := Tryz.f11.body.getD .skip) (fun t => t == 8 || t == 49) mixed Tryz.func11 rfl (by kernel_rfl) ?_
  unfold Tryz.f11
  simp only [Option.getD_some]
  simp only [go_sem]
  refine acond_i (fun hb => ?_) (fun hb => ?_)
  · simp at hb; omega
  simp only [go_sem]
  refine ⟨by omega, anew_i fun j6 h6 => ?_⟩
  simp only [go_sem]
  have hrl : ∀ k, k ≤ x.orders.length → ((List.range k).map (fun i => nearSet size i (ssort (dlt x (i : Nat)) (othersP x i))) ++ List.replicate (x.orders.length - k) 0).length = x.orders.length := fun k hk => by simp; omega
  have R6 : updH noRows j6 (some (⟨3, 1, List.replicate x.orders.length [int 0]⟩ : Row)) j6 = some (iRow ((List.range 0).map (fun i => nearSet size i (ssort (dlt x (i : Nat)) (othersP x i))) ++ List.replicate (x.orders.length - 0) 0)) := by
    rw [updH_same]
    refine congrArg (fun L => some (⟨3, 1, L⟩ : Row)) ?_
    rw [List.range_zero, List.map_nil, List.nil_append, Nat.sub_zero, List.map_replicate]; rfl
  generalize updH noRows j6 _ = HA at R6 ⊢
  clear h6
  refine ⟨fun ρ H => ∃ (k : Nat), k ≤ x.orders.length ∧ ρ 1 = int (size : Nat) ∧ ρ 2 = .rp (encInstance x) 0 ∧ ρ 6 = .os j6 ∧ ρ 23 = int (x.orders.length : Nat) ∧ ρ 24 = int k ∧ H j6 = some (iRow ((List.range k).map (fun i => nearSet size i (ssort (dlt x (i : Nat)) (othersP x i))) ++ List.replicate (x.orders.length - k) 0)), fun ρ _ => x.orders.length - natOf (ρ 24), ⟨0, Nat.zero_le _, by simp only [go_sem, List.length_replicate], by simp only [go_sem, List.length_replicate], by simp only [go_sem, List.length_replicate], by simp only [go_sem, List.length_map, List.length_replicate], (by simp only [go_sem, List.length_replicate]; rfl), R6⟩, ?_⟩
  rintro ρ H ⟨k, hk, e1, e2, e6, e23, e24, R6⟩
  simp only [go_sem, e1, e2, e6, e23, e24]
  refine acond_i (fun hlt => ?_) (fun hge => ?_)
  · have hlt := ltB (by simpa using hlt)
    simp only [go_sem, e1, e2, e6, e23, e24]
    refine anew_i fun i7 h7 => ?_
    simp only [go_sem, e1, e2, e6, e23, e24]
    refine wputE_1 so3 (updH_same _ _ _) (by simp) ?_
    have n67 := ne_new R6 h7
    generalize hG : updH (updH H i7 _) i7 _ = HGi7
    replace R6 := (congrFun hG.symm j6).trans ((updH_ne _ _ _ _ n67).trans ((updH_ne _ _ _ _ n67).trans R6))
    have R7 : HGi7 i7 = some (iRow [(k : Int)]) := by rw [← hG, updH_same]; rfl
    clear hG h7
    simp only [go_sem, e1, e2, e6, e23, e24]
    refine anew_i fun j8 h8 => ?_
    have n68 := ne_new R6 h8
    have n78 := ne_new R7 h8
    have R6b := (updH_ne HGi7 j8 (some (⟨3, 1, []⟩ : Row)) j6 n68).trans R6
    have R7b := (updH_ne HGi7 j8 (some (⟨3, 1, []⟩ : Row)) i7 n78).trans R7
    have R8b : updH HGi7 j8 (some (⟨3, 1, []⟩ : Row)) j8 = some (iRow (othTo k 0)) := updH_same _ _ _
    generalize updH HGi7 j8 _ = HB at R6b R7b R8b ⊢
    clear R6 R7 h8
    simp only [go_sem, e1, e2, e6, e23, e24, List.length_map]
    generalize hk0 : k = k0 at *
    refine ⟨fun ρ H => ∃ (k : Nat) (j8 : Nat), k ≤ x.orders.length ∧ ρ 1 = int (size : Nat) ∧ ρ 2 = .rp (encInstance x) 0 ∧ ρ 6 = .os j6 ∧ ρ 7 = .op i7 0 0 ∧ ρ 23 = int (x.orders.length : Nat) ∧ ρ 24 = int (k0 : Nat) ∧ ρ 29 = int (x.orders.length : Nat) ∧ ρ 30 = int k ∧ ρ 8 = .os j8 ∧ H j6 = some (iRow ((List.range k0).map (fun i => nearSet size i (ssort (dlt x (i : Nat)) (othersP x i))) ++ List.replicate (x.orders.length - k0) 0)) ∧ H i7 = some (iRow [(k0 : Int)]) ∧ H j8 = some (iRow (othTo k0 k)) ∧ j6 ≠ j8 ∧ i7 ≠ j8, fun ρ _ => x.orders.length - natOf (ρ 30), ⟨0, j8, Nat.zero_le _, by simp only [go_sem, e1, e2, e6, e23, e24], by simp only [go_sem, e1, e2, e6, e23, e24], by simp only [go_sem, e1, e2, e6, e23, e24], by simp only [go_sem, e1, e2, e6, e23, e24], by simp only [go_sem, e1, e2, e6, e23, e24], by simp only [go_sem, e1, e2, e6, e23, e24], by simp only [go_sem, List.length_map, e1, e2, e6, e23, e24], (by simp only [go_sem, e1, e2, e6, e23, e24]; rfl), by simp only [go_sem], R6b, R7b, R8b, n68, n78⟩, ?_⟩
    rintro ρ H ⟨k, j8, hk, e1, e2, e6, e7, e23, e24, e29, e30, e8, R6, R7, R8, n68, n78⟩
    simp only [go_sem, e1, e2, e6, e7, e23, e24, e29, e30, e8]
    refine acond_i (fun hlt => ?_) (fun hge => ?_)
    · have hlt2 := ltB (by simpa using hlt)
      have ho := othTo_succ k0 k
      have hol := othTo_len k0 k
      simp only [go_sem, e1, e2, e6, e7, e23, e24, e29, e30, e8, R7]
      have hbe : (((k : Int)) != ((k0 : Nat) : Int)) = (k != k0) := by
        rw [Bool.eq_iff_iff]; simp only [bne_iff_ne, ne_eq]; omega
      rw [hbe]
      refine acond_i (fun hb => ?_) (fun hb => ?_)
      · rw [if_pos hb] at ho
        simp only [go_sem, e1, e2, e6, e7, e23, e24, e29, e30, e8]
        refine wappE_i R8 ⟨rfl, rfl⟩ (by simp only [go_sem]) (by simp only [List.length_map, List.length_cons, List.length_nil]; omega) (fun j2 hj2 => ?_)
        simp only [go_sem, e1, e2, e6, e7, e23, e24, e29, e30, e8, wrapS (show k ≤ 4611686018427387904 by omega)]
        refine ⟨⟨k + 1, j2, hlt2, rfl, rfl, ?_, ?_, ?_, ne_new R6 hj2, ne_new R7 hj2⟩, by simp only [natOf_int]; omega⟩
        · rw [updH_ne _ _ _ _ (ne_new R6 hj2), updH_ne _ _ _ _ n68]; exact R6
        · rw [updH_ne _ _ _ _ (ne_new R7 hj2), updH_ne _ _ _ _ n78]; exact R7
        · rw [updH_same, ho]
          refine congrArg (fun L => some (⟨3, 1, L⟩ : Row)) ?_
          rw [List.map_append]; rfl
      · rw [if_neg (fun h => Bool.noConfusion (hb.symm.trans h))] at ho
        simp only [go_sem, e1, e2, e6, e7, e23, e24, e29, e30, e8, wrapS (show k ≤ 4611686018427387904 by omega)]
        exact ⟨⟨k + 1, j8, hlt2, rfl, rfl, R6, R7, by rw [ho]; exact R8, n68, n78⟩, by simp only [natOf_int]; omega⟩
    have hge := geB hk (by simpa using hge)
    subst hge
    have hol := othTo_len k0 x.orders.length
    have hoe : othTo k0 x.orders.length = othersP x k0 := rfl
    rw [hoe] at R8 hol
    simp only [go_sem, e1, e2, e6, e7, e23, e24, e29, e30, e8]
    refine sortStable_c (dlt_swo x (k0 : Nat)) (near_cmp x (k0 : Nat) hx) (fun H hH => .cons _ _ _ _ (.refl _) (.cons _ _ _ _ (.ptr _ _ _ _ _ hH (by simp) (ConvL.refl _)) .nil)) (othersP x k0) j8 H _ (by omega) (fun _ _ => trivial) R8 R7 n78 fun r => ?_
    have hsl : (ssort (dlt x (k0 : Nat)) (othersP x k0)).length ≤ 19 := by rw [(ssortPerm _ _).length_eq]; omega
    have hmem : ∀ a ∈ ssort (dlt x (k0 : Nat)) (othersP x k0), 0 ≤ a ∧ a ≤ 61 := fun a ha => by
      have := othersP_mem ((ssortPerm _ _).mem_iff.1 ha)
      omega
    have R6c := (updH_ne H j8 (some (iRow (ssort (dlt x (k0 : Nat)) (othersP x k0)))) j6 n68).trans R6
    have R7c := (updH_ne H j8 (some (iRow (ssort (dlt x (k0 : Nat)) (othersP x k0)))) i7 n78).trans R7
    have R8c : updH H j8 (some (iRow (ssort (dlt x (k0 : Nat)) (othersP x k0)))) j8 = some (iRow (ssort (dlt x (k0 : Nat)) (othersP x k0))) := updH_same _ _ _
    generalize updH H j8 _ = HC at R6c R7c R8c ⊢
    have hns : nearSet size k0 (ssort (dlt x (k0 : Nat)) (othersP x k0)) = nearSet size k0 (ssort (dlt x (k0 : Nat)) (othersP x k0)) := rfl
    unfold nearSet at hns
    generalize hSe : ssort (dlt x (k0 : Nat)) (othersP x k0) = S at *
    simp only [go_sem, e1, e2, e6, e7, e23, e24, e29, e30, e8]
    have hki : k0 ≤ 62 := by omega
    have hgl := hrl k0 (by omega)
    generalize hL : (List.range k0).map (fun i => nearSet size i (ssort (dlt x (i : Nat)) (othersP x i))) ++ List.replicate (x.orders.length - k0) 0 = L at *
    have b6 : (0 : Int) ≤ ((k0 : Nat) : Int) ∧ ((k0 : Nat) : Int) < ((L.length : Nat) : Int) := by omega
    refine adraw_p [i7] [(0, true), (1, true), (2, true), (3, true), (4, false), (5, false)] (by simp [R7c]) (by kernel_rfl) fun Hp Hr hp hr _ hr0 => ?_
    have P_R7c := (hp i7 (by simp)).trans R7c
    have Q_R6c := (hr j6 (by simp [n67])).trans R6c
    simp only [go_sem, e1, e2, e6, e7, e23, e24, e29, e30, e8, Sq.shl_in hki, List.length_map, b6, P_R7c, Q_R6c]
    refine wputE_1 so3 Q_R6c (by rw [List.length_map]; exact ⟨by omega, rfl, Nat.le_refl 1⟩) ?_
    refine pinEnd_upd hr (by simp [n67]) ?_
    have hset : ∀ (M : List Int) (v : Int), k0 < M.length → (M.map encInt).set k0 (setAt ((M.map encInt).getD k0 []) 0 [int v]) = (M.set k0 v).map encInt := fun M v hM => by
      obtain ⟨u, hu⟩ := getIn hM
      rw [getD_map hu, List.map_set]; rfl
    have R6d : updH HC j6 (some (⟨3, 1, (L.map encInt).set k0 (setAt ((L.map encInt).getD k0 []) 0 [int ((2 ^ k0 : Nat) : Int)])⟩ : Row)) j6 = some (iRow (L.set k0 ((2 ^ k0 : Nat) : Int))) := by
      rw [updH_same]; exact congrArg (fun l => some (⟨3, 1, l⟩ : Row)) (hset L _ (by omega))
    have R7d := (updH_ne HC j6 (some (⟨3, 1, (L.map encInt).set k0 (setAt ((L.map encInt).getD k0 []) 0 [int ((2 ^ k0 : Nat) : Int)])⟩ : Row)) i7 n67.symm).trans R7c
    have R8d := (updH_ne HC j6 (some (⟨3, 1, (L.map encInt).set k0 (setAt ((L.map encInt).getD k0 []) 0 [int ((2 ^ k0 : Nat) : Int)])⟩ : Row)) j8 n68.symm).trans R8c
    generalize updH HC j6 _ = HD at R6d R7d R8d ⊢
    have w1 : IntKind.i64.wrap (((size : Nat) : Int) - 1) = ((size - 1 : Nat) : Int) := by rw [wrap_in (by omega)]; omega
    have hmin : imin ((size - 1 : Nat) : Int) ((S.length : Nat) : Int) = ((min (size - 1) S.length : Nat) : Int) := by
      unfold imin; split <;> omega
    simp only [go_sem, e1, e2, e6, e7, e23, e24, e29, e30, e8]
    refine afreeze_i (by simp only [go_sem, e8]) R8d fun Hf hf1 hf2 => ?_
    have R6e := (hf2 j6 n68).trans R6d
    have R7e := (hf2 i7 n78).trans R7d
    have hmn : min (size - 1) S.length ≤ S.length := Nat.min_le_right _ _
    have hnsM : nearSet size k0 S = (S.take (min (size - 1) S.length)).foldl (fun s k => bitV .or .i64 s (shV .shl .i64 1 k)) ((2 ^ k0 : Nat) : Int) := by
      unfold nearSet
      congr 1
      by_cases h : size - 1 ≤ S.length
      · rw [Nat.min_eq_left h]
      · rw [Nat.min_eq_right (by omega), List.take_of_length_le (by omega), List.take_length]
    simp only [go_sem, e1, e2, e6, e7, e23, e24, e29, e30, e8, List.length_map, w1, hmin]
    generalize hmm : min (size - 1) S.length = M at *
    refine ⟨by omega, ?_⟩
    have hTl : (S.take M).length = M := by rw [List.length_take]; omega
    have hmemT : ∀ a ∈ S.take M, 0 ≤ a ∧ a ≤ 61 := fun a ha => hmem a (List.mem_of_mem_take ha)
    have hmt : (S.map encInt).take M = (S.take M).map encInt := List.map_take.symm
    generalize S.take M = T at *
    refine ⟨fun ρ H => ∃ (k : Nat), k ≤ M ∧ ρ 1 = int (size : Nat) ∧ ρ 2 = .rp (encInstance x) 0 ∧ ρ 6 = .os j6 ∧ ρ 7 = .op i7 0 0 ∧ ρ 23 = int (x.orders.length : Nat) ∧ ρ 24 = int (k0 : Nat) ∧ ρ 55 = .sl (T.map encInt) ∧ ρ 56 = int (M : Nat) ∧ ρ 57 = int k ∧ H j6 = some (iRow (L.set k0 ((T.take k).foldl (fun s k => bitV .or .i64 s (shV .shl .i64 1 k)) ((2 ^ k0 : Nat) : Int)))) ∧ H i7 = some (iRow [(k0 : Int)]), fun ρ _ => M - natOf (ρ 57), ⟨0, Nat.zero_le _, by simp only [go_sem, e1, e2, e6, e7, e23, e24, hmt, hTl], by simp only [go_sem, e1, e2, e6, e7, e23, e24, hmt, hTl], by simp only [go_sem, e1, e2, e6, e7, e23, e24, hmt, hTl], by simp only [go_sem, e1, e2, e6, e7, e23, e24, hmt, hTl], by simp only [go_sem, e1, e2, e6, e7, e23, e24, hmt, hTl], by simp only [go_sem, e1, e2, e6, e7, e23, e24, hmt, hTl], by simp only [go_sem, e1, e2, e6, e7, e23, e24, hmt, hTl], by simp only [go_sem, List.length_map, e1, e2, e6, e7, e23, e24, hmt, hTl], (by simp only [go_sem, e1, e2, e6, e7, e23, e24, hmt, hTl]; rfl), R6e, R7e⟩, ?_⟩
    rintro ρ H ⟨k, hk, e1, e2, e6, e7, e23, e24, e55, e56, e57, R6, R7⟩
    simp only [go_sem, e1, e2, e6, e7, e23, e24, e55, e56, e57]
    refine acond_i (fun hlt => ?_) (fun hge => ?_)
    · have hlt2 := ltB (by simpa using hlt)
      obtain ⟨v, hv⟩ := getIn (show k < T.length by omega)
      have hvb := hmemT v (List.mem_of_getElem? hv)
      have hst := Sq.foldl_take (f := fun (s k : Int) => bitV .or .i64 s (shV .shl .i64 1 k)) (b := ((2 ^ k0 : Nat) : Int)) hv
      generalize (T.take k).foldl (fun s k => bitV .or .i64 s (shV .shl .i64 1 k)) ((2 ^ k0 : Nat) : Int) = cur at *
      have g1 := getD_map (f := encInt) hv
      have hcur : (L.set k0 cur)[k0]? = some cur := List.getElem?_set_self (show k0 < L.length by omega)
      have g2 := getD_map (f := encInt) hcur
      have b7 : (0 : Int) ≤ ((k0 : Nat) : Int) ∧ ((k0 : Nat) : Int) < (((L.set k0 cur).length : Nat) : Int) := by rw [List.length_set]; omega
      have b8 := inB (show k < T.length by omega)
      simp only [go_sem, e1, e2, e6, e7, e23, e24, e55, e56, e57, List.length_map, g1, b8]
      refine adraw_m [(0, true), (4, true), (5, true), (1, false), (2, false), (3, false), (6, true), (7, false), (8, false)] (by kernel_rfl) ?_
      simp only [go_sem, e1, e2, e6, e7, e23, e24, e55, e56, e57, R6, R7, List.length_map, b7, g2]
      refine ⟨by omega, ?_⟩
      refine ⟨by omega, ?_⟩
      refine wputE_1 so3 R6 ⟨(by rw [List.length_map, List.length_set]; omega : k0 < ((L.set k0 cur).map encInt).length), rfl, Nat.le_refl 1⟩ ?_
      simp only [go_sem, e1, e2, e6, e7, e23, e24, e55, e56, e57, wrapS (show k ≤ 4611686018427387904 by omega)]
      refine ⟨⟨k + 1, hlt2, rfl, ?_, ?_⟩, by simp only [natOf_int]; omega⟩
      · rw [hst]
        refine congrArg (fun l => some (⟨3, 1, l⟩ : Row)) ?_
        refine (hset (L.set k0 cur) _ (show k0 < (L.set k0 cur).length by omega)).trans ?_
        rw [List.set_set]
      · rw [updH_ne _ _ _ _ n67.symm]; exact R7
    have hge := geB hk (by simpa using hge)
    subst hge
    rw [List.take_of_length_le (by omega), ← hnsM] at R6
    simp only [go_sem, e1, e2, e6, e7, e23, e24, e55, e56, e57, wrapS (show k0 ≤ 4611686018427387904 by omega)]
    refine ⟨⟨k0 + 1, hlt, rfl, ?_⟩, by simp only [natOf_int]; omega⟩
    rw [R6]
    refine congrArg (fun l => some (iRow l)) ?_
    rw [← hL, set_rep _ (by rw [List.length_map, List.length_range]) (by omega), List.range_succ, List.map_append, ← hSe]
    rfl
  have hge := geB hk (by simpa using hge)
  subst hge
  simp only [go_sem, e1, e2, e6, e23, e24]
  rw [Nat.sub_self, List.replicate_zero, List.append_nil] at R6
  exact .tup _ _ (.cons _ _ _ _ (.row _ _ _ R6 (ConvE.refl _)) (.cons _ _ _ _ (.refl _) .nil))
end Go.Proofs.YtdlijlecpopadaaGreatDoor.Rx
