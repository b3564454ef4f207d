/- order.Visits, order.Stop; sequence: twice, paired, before, Check -/
import Derived.Test.YtbefdpmjpioijaaGreatDoorAuA
set_option linter.unusedSimpArgs false
set_option linter.unusedVariables false
namespace Go.Proofs.YtbefdpmjpioijaaGreatDoor.Sq
open Go.Aw Go.Aw.D Go.Proofs Ty
open Mv (convI convB convA NC.pc take_allP)
set_option maxRecDepth 100000

def visitsO (o : Order) (i : Int) : List Visit := (if decide (o.pick.place ≥ 0) = true then [⟨i, false⟩] else []) ++ (if decide (o.drop.place ≥ 0) = true then [⟨i, true⟩] else [])
def visP (os : List Order) (i : Int) : List Visit := if badNo i os.length = true then [] else match os[i.toNat]? with | some o => visitsO o i | none => []
theorem visitsO_len (o : Order) (i : Int) : (visitsO o i).length ≤ 2 := by unfold visitsO; split <;> split <;> simp
theorem visP_len (os : List Order) (i : Int) : (visP os i).length ≤ 2 := by
  unfold visP
  split
  · simp
  · split
    · exact visitsO_len _ _
    · simp
theorem ovisits_c (os : List Order) (i : Int) : PC Tryz.prog 119 [.sl (os.map encOrder), int i] (.sl ((visP os i).map encVisit)) := by
  refine PC.body (c := Tryz.f119.body.getD .skip) (fun t => t == 5) mixed Tryz.func119 rfl (by kernel_rfl) ?_
  unfold Tryz.f119
  simp only [Option.getD_some]
  simp only [go_sem]
  refine anew_i fun j hj => ?_
  simp only [go_sem]
  refine PC.use (there_c os i) ?_
  simp only [go_sem]
  refine acond_i (fun h0 => ?_) (fun h0 => ?_)
  · have hb : badNo i os.length = true := by simpa using h0
    simp only [go_sem]
    rw [visP, if_pos hb]
    exact .refl _
  have hb : badNo i os.length = false := by simpa using h0
  have b0 : 0 ≤ i ∧ i < (os.length : Int) := by simp only [badNo, Bool.or_eq_false_iff, decide_eq_false_iff_not] at hb; omega
  obtain ⟨o, ho⟩ := getIn (show i.toNat < os.length by omega)
  rw [visP, if_neg (by rw [hb]; simp), ho]
  simp only [go_sem, getD_map ho, b0]
  refine acond_i (fun h1 => ?_) (fun h1 => ?_)
  · simp only [go_sem, getD_map ho, b0]
    refine wappE_i (updH_same _ _ _) ⟨rfl, rfl⟩ ⟨rfl, trivial⟩ (by simp) (fun j' hj' => ?_)
    simp only [go_sem, getD_map ho, b0]
    refine acond_i (fun h2 => ?_) (fun h2 => ?_)
    · simp only [go_sem, getD_map ho, b0]
      refine wappE_i (updH_same _ _ _) ⟨rfl, rfl⟩ ⟨rfl, trivial⟩ (by simp) (fun j2 hj2 => ?_)
      simp only [go_sem]
      have e : visitsO o i = [⟨i, false⟩, ⟨i, true⟩] := by unfold visitsO; rw [if_pos h1, if_pos h2]; rfl
      rw [e]
      exact .row _ _ _ (updH_same _ _ _) (ConvE.refl _)
    · simp only [go_sem]
      have e : visitsO o i = [⟨i, false⟩] := by unfold visitsO; rw [if_pos h1, if_neg (by rw [h2]; simp)]; rfl
      rw [e]
      exact .row _ _ _ (updH_same _ _ _) (ConvE.refl _)
  · simp only [go_sem, getD_map ho, b0]
    refine acond_i (fun h2 => ?_) (fun h2 => ?_)
    · simp only [go_sem, getD_map ho, b0]
      refine wappE_i (updH_same _ _ _) ⟨rfl, rfl⟩ ⟨rfl, trivial⟩ (by simp) (fun j2 hj2 => ?_)
      simp only [go_sem]
      have e : visitsO o i = [⟨i, true⟩] := by unfold visitsO; rw [if_neg (by rw [h1]; simp), if_pos h2]; rfl
      rw [e]
      exact .row _ _ _ (updH_same _ _ _) (ConvE.refl _)
    · simp only [go_sem]
      have e : visitsO o i = [] := by unfold visitsO; rw [if_neg (by rw [h1]; simp), if_neg (by rw [h2]; simp)]; rfl
      rw [e]
      exact .row _ _ _ (updH_same _ _ _) (ConvE.refl _)
/-! ### sequence -/
def twiceAt (l : List Visit) (i : Nat) : Bool := decide (index16 (l.take i) (l.getD i ⟨0, false⟩) ≥ 0)
theorem visits_all : ∀ l : List Visit, allLen 2 (l.map encVisit)
  | [] => trivial
  | _ :: r => ⟨rfl, visits_all r⟩
theorem twice_c (l : List Visit) (hl : l.length ≤ 1048576) : PC Tryz.prog 82 [.sl (l.map encVisit)] (boo ((List.range l.length).any (twiceAt l))) := by
  refine PC.body (c := Tryz.f82.body.getD .skip) (fun _ => false) mixed Tryz.func82 rfl (by kernel_rfl) ?_
  unfold Tryz.f82
  simp only [Option.getD_some]
  simp only [go_sem]
  refine ⟨fun ρ _ => ∃ k : Nat, k ≤ l.length ∧ ρ 0 = .sl (l.map encVisit) ∧ ρ 5 = .sl (l.map encVisit) ∧ ρ 6 = int l.length ∧ ρ 7 = int k ∧ ∀ c ∈ (List.range l.length).take k, twiceAt l c = false, fun ρ _ => l.length - natOf (ρ 7), ⟨0, Nat.zero_le _, rfl, rfl, rfl, rfl, by simp⟩, ?_⟩
  rintro ρ H ⟨k, hk, h0, h5, h6, h7, hz⟩
  simp only [go_sem, h0, h5, h6, h7]
  refine acond_i (fun hlt => ?_) (fun hge => ?_)
  · have hlt := le_of_lt_b hlt
    obtain ⟨v, hv⟩ := getIn hlt
    have b1 := inB hlt
    simp only [go_sem, h0, h5, h6, h7, getD_map hv, b1]
    refine anew_i fun i4 hi40 => ?_
    simp only [go_sem, h0, h5, h6, h7]
    refine wputE_n (updH_same _ _ _) (by simp [encVisit_len]) ?_
    generalize hGi4 : updH (updH _ i4 _) i4 _ = HGi4
    have R4 : HGi4 i4 = some (⟨95, 2, [encVisit v]⟩) := by rw [← hGi4, updH_same]; rfl
    clear hGi4 hi40
    simp only [go_sem, h0, h5, h6, h7, R4]
    refine adraw_p [i4] [(0, true), (1, true), (2, true), (3, true), (4, true), (5, true)] (by simp [R4]) (by kernel_rfl) fun Hp Hr hp hr _ hr0 => ?_
    have P4 := (hp i4 (by simp)).trans R4
    simp only [go_sem, h0, h5, h6, h7, P4, ← List.map_take]
    refine ⟨by omega, _, (place_c (l.take k) v (by simp; omega)).q rfl, ?_⟩
    simp only [go_sem, h0, h5, h6, h7, P4]
    refine pinEnd_i fun _ Hm _ _ => ?_
    simp only [go_sem, h0, h5, h6, h7]
    have ed : twiceAt l k = decide (index16 (l.take k) v ≥ 0) := by simp [twiceAt, List.getD, hv]
    refine acond_i (fun hb => ?_) (fun hb => ?_)
    · simp only [go_sem]
      exact convB (List.any_eq_true.2 ⟨k, List.mem_range.2 hlt, ed.trans hb⟩).symm
    · simp only [go_sem, h0, h5, h6, h7, wrapS (show k ≤ 4611686018427387904 by omega)]
      exact ⟨⟨k + 1, hlt, rfl, take_allP (p := fun c => twiceAt l c = false) (range_get hlt) (ed.trans hb) hz⟩, by simp only [natOf_int]; omega⟩
  · have hge := eq_of_ge_b hk hge
    subst hge
    simp only [go_sem]
    refine convB ?_
    symm
    rw [List.any_eq_false]
    intro c hc
    rw [hz c (by rw [List.take_of_length_le (by simp)]; exact hc)]; simp
def posInc (l : List Visit) : List Visit → Int → Bool
  | [], _ => true
  | w :: r, last => decide (index16 l w > last) && posInc l r (index16 l w)
def pairV (os : List Order) (l : List Visit) (v : Visit) : Bool := inV (visP os v.order) v && posInc l (visP os v.order) (-1)
theorem drop_get {α : Type} {l : List α} {k : Nat} {x : α} (h : l[k]? = some x) : l.drop k = x :: l.drop (k + 1) := by
  obtain ⟨hlt, rfl⟩ := List.getElem?_eq_some_iff.1 h
  exact List.drop_eq_getElem_cons hlt
theorem paired_c (x : Instance) (l : List Visit) (hl : l.length ≤ 1048576) : PC Tryz.prog 83 [.agg (encInstance x), .sl (l.map encVisit)] (boo (l.all (pairV x.orders l))) := by
  refine PC.body (c := Tryz.f83.body.getD .skip) (fun _ => false) mixed Tryz.func83 rfl (by kernel_rfl) ?_
  unfold Tryz.f83
  simp only [Option.getD_some]
  simp only [go_sem]
  refine ⟨fun ρ _ => ∃ k : Nat, k ≤ l.length ∧ ρ 1 = .sl (l.map encVisit) ∧ ρ 2 = .rp (encInstance x) 0 ∧ ρ 12 = .sl (l.map encVisit) ∧ ρ 13 = int l.length ∧ ρ 14 = int k ∧ ∀ v ∈ l.take k, pairV x.orders l v = true, fun ρ _ => l.length - natOf (ρ 14), ⟨0, Nat.zero_le _, rfl, rfl, rfl, rfl, rfl, by simp⟩, ?_⟩
  rintro ρ H ⟨k, hk, h1, h2, h12, h13, h14, hz⟩
  simp only [go_sem, h1, h2, h12, h13, h14]
  refine acond_i (fun hlt => ?_) (fun hge => ?_)
  · have hlt := le_of_lt_b hlt
    obtain ⟨v, hv⟩ := getIn hlt
    have b1 := inB hlt
    simp only [go_sem, h1, h2, h12, h13, h14, getD_map hv, b1]
    refine anew_i fun i6 hi60 => ?_
    simp only [go_sem, h1, h2, h12, h13, h14]
    refine wputE_n (updH_same _ _ _) (by simp [encVisit_len]) ?_
    generalize hGi6 : updH (updH _ i6 _) i6 _ = HGi6
    have R6 : HGi6 i6 = some (⟨95, 2, [encVisit v]⟩) := by rw [← hGi6, updH_same]; rfl
    clear hGi6 hi60
    simp only [go_sem, h1, h2, h12, h13, h14, R6]
    refine PC.use (ovisits_c x.orders v.order) ?_
    have hvl := visP_len x.orders v.order
    simp only [go_sem, h1, h2, h12, h13, h14, R6]
    refine PC.use (contains_c (visP x.orders v.order) v (by omega)) ?_
    simp only [go_sem, h1, h2, h12, h13, h14, R6]
    refine acond_i (fun hb => ?_) (fun hb => ?_)
    · simp only [go_sem]
      refine convB ?_
      symm
      exact all_hit hv (by unfold pairV; rw [show inV (visP x.orders v.order) v = false by simpa using hb]; rfl)
    have hin : inV (visP x.orders v.order) v = true := by simpa using hb
    simp only [go_sem, h1, h2, h12, h13, h14, R6]
    refine ⟨fun ρ _ => ∃ (m : Nat) (last : Int), m ≤ (visP x.orders v.order).length ∧ ρ 1 = .sl (l.map encVisit) ∧ ρ 2 = .rp (encInstance x) 0 ∧ ρ 12 = .sl (l.map encVisit) ∧ ρ 13 = int l.length ∧ ρ 14 = int k ∧ ρ 27 = .sl ((visP x.orders v.order).map encVisit) ∧ ρ 28 = int (visP x.orders v.order).length ∧ ρ 29 = int m ∧ ρ 8 = int last ∧ posInc l (visP x.orders v.order) (-1) = posInc l ((visP x.orders v.order).drop m) last, fun ρ _ => (visP x.orders v.order).length - natOf (ρ 29),
      ⟨0, -1, Nat.zero_le _, by simp only [go_sem, h1], by simp only [go_sem, h2], by simp only [go_sem, h12], by simp only [go_sem, h13], by simp only [go_sem, h14], by simp only [go_sem], by simp only [go_sem, List.length_map], by simp only [go_sem]; rfl, by simp only [go_sem], rfl⟩, ?_⟩
    clear h1 h2 h12 h13 h14 R6
    rintro ρ H ⟨m, last, hm, h1, h2, h12, h13, h14, h27, h28, h29, h8, he⟩
    simp only [go_sem, h1, h2, h12, h13, h14, h27, h28, h29, h8]
    refine acond_i (fun hlt2 => ?_) (fun hge2 => ?_)
    · have hlt2 := le_of_lt_b hlt2
      obtain ⟨w, hw⟩ := getIn hlt2
      have b2 := inB hlt2
      simp only [go_sem, h1, h2, h12, h13, h14, h27, h28, h29, h8, getD_map hw, b2]
      refine anew_i fun i10 hi100 => ?_
      simp only [go_sem, h1, h2, h12, h13, h14, h27, h28, h29, h8]
      refine wputE_n (updH_same _ _ _) (by simp [encVisit_len]) ?_
      generalize hGi10 : updH (updH _ i10 _) i10 _ = HGi10
      have R10 : HGi10 i10 = some (⟨95, 2, [encVisit w]⟩) := by rw [← hGi10, updH_same]; rfl
      clear hGi10 hi100
      simp only [go_sem, h1, h2, h12, h13, h14, h27, h28, h29, h8, R10]
      refine PC.use (place_c l w hl) ?_
      simp only [go_sem, h1, h2, h12, h13, h14, h27, h28, h29, h8, R10]
      rw [drop_get hw] at he
      refine acond_i (fun hb => ?_) (fun hb => ?_)
      · simp only [go_sem]
        refine convB ?_
        symm
        refine all_hit hv ?_
        unfold pairV
        rw [hin, he, posInc]
        have : decide (index16 l w > last) = false := by simp at hb ⊢; exact hb
        rw [this]; rfl
      · simp only [go_sem, h1, h2, h12, h13, h14, h27, h28, h29, h8, wrapS (show m ≤ 4611686018427387904 by omega)]
        refine ⟨⟨m + 1, _, hlt2, rfl, rfl, ?_⟩, by simp only [natOf_int]; omega⟩
        rw [he, posInc]
        have : decide (index16 l w > last) = true := by simp at hb ⊢; exact hb
        rw [this]; rfl
    · have hge2 := eq_of_ge_b hm hge2
      subst hge2
      rw [List.drop_length, posInc] at he
      simp only [go_sem, h1, h2, h12, h13, h14, wrapS (show k ≤ 4611686018427387904 by omega)]
      exact ⟨⟨k + 1, hlt, rfl, take_allP (p := fun v => pairV x.orders l v = true) hv (by unfold pairV; rw [hin, he]; rfl) hz⟩, by simp only [natOf_int]; omega⟩
  · have hge := eq_of_ge_b hk hge
    subst hge
    simp only [go_sem]
    exact convB (all_none hz).symm
def befP (l : List Visit) (a b : Int) : Bool := decide (idxF (fun v : Visit => v.order == b) l 0 < 0) || (hasO l a && !hasO (l.drop (idxF (fun v : Visit => v.order == b) l 0).toNat) a)
theorem idxF_lt {α : Type} {p : α → Bool} : ∀ (l : List α) (n : Int), idxF p l n < n + l.length ∨ idxF p l n = -1
  | [], n => .inr rfl
  | a :: r, n => by
    unfold idxF
    split
    · left; simp; omega
    · rcases idxF_lt (p := p) r (n + 1) with h | h
      · left; simp; omega
      · right; exact h
theorem before_c (l : List Visit) (a b : Int) (hl : l.length ≤ 1048576) : PC Tryz.prog 85 [.sl (l.map encVisit), int a, int b] (boo (befP l a b)) := by
  refine PC.body (c := Tryz.f85.body.getD .skip) (fun _ => false) mixed Tryz.func85 rfl (by kernel_rfl) ?_
  unfold Tryz.f85
  simp only [Option.getD_some]
  simp only [go_sem]
  refine PC.use (indexFuncV_c (p := fun v => v.order == b) l hl (by simp only [go_sem]) fun v _ => before1_c b v) ?_
  simp only [go_sem]
  have hi := idxF_lt (p := fun v : Visit => v.order == b) l 0
  generalize hI : idxF (fun v : Visit => v.order == b) l 0 = I at hi
  refine acond_i (fun h0 => ?_) (fun h0 => ?_)
  · simp only [go_sem]
    refine convB ?_
    unfold befP
    rw [hI, h0]; rfl
  · have h0' : 0 ≤ I := by simp at h0; exact h0
    simp only [go_sem]
    refine PC.use (has_c l a hl) ?_
    simp only [go_sem, ← List.map_drop]
    refine ⟨fun _ => ⟨⟨h0', by omega⟩, visits_all l⟩, _, fun _ => (has_c (l.drop I.toNat) a (by simp; omega)).q rfl, ?_⟩
    simp only [go_sem]
    refine convB ?_
    unfold befP
    rw [hI, h0]; rfl
theorem check1_c (x : Instance) (v : Visit) : PC Tryz.prog 80 [.agg (encVisit v), .rp (encInstance x) 0] (boo (badNo v.order x.orders.length)) := by
  refine PC.body (c := Tryz.f80.body.getD .skip) (fun _ => false) mixed Tryz.func80 rfl (by kernel_rfl) ?_
  unfold Tryz.f80
  simp only [Option.getD_some]
  simp only [go_sem]
  exact .refl _
theorem check2_c (x : Instance) (v : Visit) (h : badNo v.order x.orders.length = false) : PC Tryz.prog 81 [.agg (encVisit v), .rp (encInstance x) 0] (boo (offAt x v.order)) := by
  have b0 : 0 ≤ v.order ∧ v.order < (x.orders.length : Int) := by simp only [badNo, Bool.or_eq_false_iff, decide_eq_false_iff_not] at h; omega
  obtain ⟨o, ho⟩ := getIn (show v.order.toNat < x.orders.length by omega)
  refine PC.body (c := Tryz.f81.body.getD .skip) (fun _ => false) mixed Tryz.func81 rfl (by kernel_rfl) ?_
  unfold Tryz.f81
  simp only [Option.getD_some]
  simp only [go_sem]
  simp only [go_sem, getD_map ho, b0]
  exact convB (by unfold offAt; rw [ho])
def seqP (x : Instance) (l : List Visit) : Int :=
  if ((l.length : Int) == 0 || l.any fun v => badNo v.order x.orders.length) = true then 2
  else if (l.any fun v => offAt x v.order) = true then 9
  else if ((List.range l.length).any (twiceAt l)) = true then 6
  else if (!l.all (pairV x.orders l)) = true then 19
  else if (x.apart.any fun q => hasO l q.a && hasO l q.b) = true then 20
  else if (x.before.any fun q => !befP l q.a q.b) = true then 21 else 0
theorem seqCheck_c (x : Instance) (r : Route) (hl : r.visits.length ≤ 1048576) (ha : x.apart.length ≤ 1048576) (hb : x.before.length ≤ 1048576) : PC Tryz.prog 49 [.agg (encInstance x), .agg (encRoute r)] (int (seqP x r.visits)) := by
  refine PC.body (c := Tryz.f49.body.getD .skip) (fun _ => false) mixed Tryz.func49 rfl (by kernel_rfl) ?_
  unfold Tryz.f49
  simp only [Option.getD_some]
  simp only [go_sem]
  refine ⟨_, fun _ => (containsFuncV_c (p := fun v => badNo v.order x.orders.length) r.visits hl (by simp only [go_sem]) fun v _ => check1_c x v).q rfl, ?_⟩
  simp only [go_sem]
  refine acond_i (fun c1 => ?_) (fun c1 => ?_)
  · simp only [go_sem]
    exact convI (by unfold seqP; rw [if_pos c1])
  have hin : ∀ v ∈ r.visits, badNo v.order x.orders.length = false := fun v hv => by
    rw [Bool.or_eq_false_iff] at c1
    have := List.any_eq_false.1 c1.2 v hv
    simpa using this
  have c1 : ¬ ((r.visits.length : Int) == 0 || r.visits.any fun v => badNo v.order x.orders.length) = true := by rw [c1]; simp
  simp only [go_sem]
  refine PC.use (containsFuncV_c (p := fun v => offAt x v.order) r.visits hl (by simp only [go_sem]) fun v hv => check2_c x v (hin v hv)) ?_
  simp only [go_sem]
  refine acond_i (fun c2 => ?_) (fun c2 => ?_)
  · simp only [go_sem]
    exact convI (by unfold seqP; rw [if_neg c1, if_pos c2])
  have c2 : ¬ (r.visits.any fun v => offAt x v.order) = true := by rw [c2]; simp
  simp only [go_sem]
  refine PC.use (twice_c r.visits hl) ?_
  simp only [go_sem]
  refine acond_i (fun c3 => ?_) (fun c3 => ?_)
  · simp only [go_sem]
    exact convI (by unfold seqP; rw [if_neg c1, if_neg c2, if_pos c3])
  have c3 : ¬ ((List.range r.visits.length).any (twiceAt r.visits)) = true := by rw [c3]; simp
  simp only [go_sem]
  refine PC.use (paired_c x r.visits hl) ?_
  simp only [go_sem]
  refine acond_i (fun c4 => ?_) (fun c4 => ?_)
  · simp only [go_sem]
    exact convI (by unfold seqP; rw [if_neg c1, if_neg c2, if_neg c3, if_pos c4])
  have c4 : ¬ (!r.visits.all (pairV x.orders r.visits)) = true := by rw [c4]; simp
  simp only [go_sem]
  refine ⟨fun ρ _ => ∃ k : Nat, k ≤ x.apart.length ∧ ρ 2 = .rp (encInstance x) 0 ∧ ρ 5 = .sl (r.visits.map encVisit) ∧ ρ 33 = .sl (x.apart.map encPair) ∧ ρ 34 = int x.apart.length ∧ ρ 35 = int k ∧ ∀ q ∈ x.apart.take k, (hasO r.visits q.a && hasO r.visits q.b) = false, fun ρ _ => x.apart.length - natOf (ρ 35), ⟨0, Nat.zero_le _, by simp only [go_sem], by simp only [go_sem], by simp only [go_sem], by simp only [go_sem], by simp only [go_sem]; rfl, by simp⟩, ?_⟩
  rintro ρ H ⟨k, hk, h2, h5, h33, h34, h35, hz⟩
  simp only [go_sem, h2, h5, h33, h34, h35]
  refine acond_i (fun hlt => ?_) (fun hge => ?_)
  · have hlt := le_of_lt_b hlt
    obtain ⟨q, hq⟩ := getIn hlt
    have b1 := inB hlt
    simp only [go_sem, h2, h5, h33, h34, h35, getD_map hq, b1]
    refine anew_i fun i7 hi70 => ?_
    simp only [go_sem, h2, h5, h33, h34, h35]
    refine wputE_n (updH_same _ _ _) (by simp [encPair_len]) ?_
    generalize hGi7 : updH (updH _ i7 _) i7 _ = HGi7
    have R7 : HGi7 i7 = some (⟨129, 2, [encPair q]⟩) := by rw [← hGi7, updH_same]; rfl
    clear hGi7 hi70
    simp only [go_sem, h2, h5, h33, h34, h35, R7]
    refine ⟨by decide, PC.use (has_c r.visits q.a hl) ?_⟩
    simp only [go_sem, h2, h5, h33, h34, h35, R7]
    refine ⟨fun _ => by decide, _, fun _ => (has_c r.visits q.b hl).q rfl, ?_⟩
    simp only [go_sem, h2, h5, h33, h34, h35]
    refine acond_i (fun hb' => ?_) (fun hb' => ?_)
    · simp only [go_sem]
      exact convI (by unfold seqP; rw [if_neg c1, if_neg c2, if_neg c3, if_neg c4, if_pos (List.any_eq_true.2 ⟨q, List.mem_of_getElem? hq, hb'⟩)])
    · simp only [go_sem, h2, h5, h33, h34, h35, wrapS (show k ≤ 4611686018427387904 by omega)]
      exact ⟨⟨k + 1, hlt, rfl, take_allP (p := fun q : Pair => (hasO r.visits q.a && hasO r.visits q.b) = false) hq hb' hz⟩, by simp only [natOf_int]; omega⟩
  have hge := eq_of_ge_b hk hge
  subst hge
  rw [List.take_length] at hz
  have c5 : ¬ (x.apart.any fun q => hasO r.visits q.a && hasO r.visits q.b) = true := by rw [any_no hz]; simp
  simp only [go_sem, h2, h5]
  refine ⟨fun ρ _ => ∃ k : Nat, k ≤ x.before.length ∧ ρ 5 = .sl (r.visits.map encVisit) ∧ ρ 51 = .sl (x.before.map encPair) ∧ ρ 52 = int x.before.length ∧ ρ 53 = int k ∧ ∀ q ∈ x.before.take k, (!befP r.visits q.a q.b) = false, fun ρ _ => x.before.length - natOf (ρ 53), ⟨0, Nat.zero_le _, by simp only [go_sem, h5], by simp only [go_sem], by simp only [go_sem], by simp only [go_sem]; rfl, by simp⟩, ?_⟩
  clear h2 h5 h33 h34 h35 hz hk
  rintro ρ H ⟨k, hk, h5, h51, h52, h53, hz⟩
  simp only [go_sem, h5, h51, h52, h53]
  refine acond_i (fun hlt => ?_) (fun hge => ?_)
  · have hlt := le_of_lt_b hlt
    obtain ⟨q, hq⟩ := getIn hlt
    have b1 := inB hlt
    simp only [go_sem, h5, h51, h52, h53, getD_map hq, b1]
    refine anew_i fun i9 hi90 => ?_
    simp only [go_sem, h5, h51, h52, h53]
    refine wputE_n (updH_same _ _ _) (by simp [encPair_len]) ?_
    generalize hGi9 : updH (updH _ i9 _) i9 _ = HGi9
    have R9 : HGi9 i9 = some (⟨129, 2, [encPair q]⟩) := by rw [← hGi9, updH_same]; rfl
    clear hGi9 hi90
    simp only [go_sem, h5, h51, h52, h53, R9]
    refine ⟨by decide, ⟨by decide, PC.use (before_c r.visits q.a q.b hl) ?_⟩⟩
    simp only [go_sem, h5, h51, h52, h53]
    refine acond_i (fun hb' => ?_) (fun hb' => ?_)
    · simp only [go_sem]
      exact convI (by unfold seqP; rw [if_neg c1, if_neg c2, if_neg c3, if_neg c4, if_neg c5, if_pos (List.any_eq_true.2 ⟨q, List.mem_of_getElem? hq, hb'⟩)])
    · simp only [go_sem, h5, h51, h52, h53, wrapS (show k ≤ 4611686018427387904 by omega)]
      exact ⟨⟨k + 1, hlt, rfl, take_allP (p := fun q : Pair => (!befP r.visits q.a q.b) = false) hq hb' hz⟩, by simp only [natOf_int]; omega⟩
  have hge := eq_of_ge_b hk hge
  subst hge
  rw [List.take_length] at hz
  simp only [go_sem]
  exact convI (by unfold seqP; rw [if_neg c1, if_neg c2, if_neg c3, if_neg c4, if_neg c5, if_neg (by rw [any_no hz]; simp)])
def stopV (x : Instance) (v : Visit) : Stop × Int := if (stop18 x v).2 = true then ((stop18 x v).1, 0) else (zeroStop, if badNo v.order x.orders.length = true then 2 else 19)
theorem ostop_c (x : Instance) (v : Visit) : PC Tryz.prog 107 [.sl (x.orders.map encOrder), .agg (encVisit v)] (.tup [.agg (encStop (stopV x v).1), int (stopV x v).2]) := by
  refine PC.body (c := Tryz.f107.body.getD .skip) (fun _ => false) mixed Tryz.func107 rfl (by kernel_rfl) ?_
  unfold Tryz.f107
  simp only [Option.getD_some]
  simp only [go_sem]
  refine anew_i fun i4 hi40 => ?_
  generalize hGi4 : updH _ i4 _ = HGi4
  have R4 : HGi4 i4 = some (stopRow zeroStop) := by rw [← hGi4, updH_same]; rfl
  clear hGi4 hi40
  simp only [go_sem, R4]
  refine PC.use (there_c x.orders v.order) ?_
  simp only [go_sem]
  refine acond_i (fun h1 => ?_) (fun h1 => ?_)
  · have h1 : badNo v.order x.orders.length = true := by simpa using h1
    have e : stopV x v = (zeroStop, 2) := by unfold stopV stop18; rw [if_pos h1, if_pos h1]; rfl
    rw [e]
    simp only [go_sem]
    refine wputE_n R4 (by simp) ?_
    simp only [go_sem]
    exact .refl _
  have h1 : badNo v.order x.orders.length = false := by simpa using h1
  have hin : 0 ≤ v.order ∧ v.order < (x.orders.length : Int) := by
    simp only [badNo, Bool.or_eq_false_iff, decide_eq_false_iff_not] at h1; omega
  obtain ⟨o, ho⟩ := getIn (show v.order.toNat < x.orders.length by omega)
  have e0 : stop18 x v = (stopO o v, decide ((stopO o v).place ≥ 0)) := by unfold stop18; rw [if_neg (by rw [h1]; simp), ho]
  have e : stopV x v = if (stopO o v).place < 0 then (zeroStop, 19) else (stopO o v, 0) := by
    unfold stopV
    rw [e0, if_neg (show ¬ badNo v.order x.orders.length = true by rw [h1]; simp)]
    by_cases h : (stopO o v).place < 0
    · rw [if_pos h, if_neg (by simp; omega)]
    · rw [if_neg h, if_pos (by simp; omega)]
  rw [e]
  simp only [go_sem, getD_map ho, hin]
  refine anew_i fun i6 hi60 => ?_
  have ne_i4_i6 : i4 ≠ i6 := ne_new R4 hi60
  simp only [go_sem, R4]
  refine wputE_n (updH_same _ _ _) (by simp [encStop_len]) ?_
  generalize hGi6 : updH (updH _ i6 _) i6 _ = HGi6
  replace R4 := (congrFun hGi6.symm i4).trans ((updH_ne _ _ _ _ ne_i4_i6).trans ((updH_ne _ _ _ _ ne_i4_i6).trans R4))
  have R6 : HGi6 i6 = some (stopRow o.pick) := by rw [← hGi6, updH_same]; rfl
  clear hGi6 hi60
  simp only [go_sem, R6, R4]
  refine acond_join (fun ρ' H' => ρ' 4 = .op i4 0 0 ∧ ρ' 6 = .op i6 0 0 ∧ H' i4 = some (stopRow zeroStop) ∧ H' i6 = some (stopRow (stopO o v))) ?_ fun K hK => acond_i (fun hb => ?_) (fun hb => ?_)
  · clear R4 R6
    rintro ρ H ⟨h4, h6, R4, R6⟩
    simp only [go_sem, h4, h6, R6]
    refine acond_i (fun hp => ?_) (fun hp => ?_)
    · have hp : (stopO o v).place < 0 := by simpa using hp
      rw [if_pos hp]
      simp only [go_sem, h4]
      refine wputE_n R4 (by simp) ?_
      simp only [go_sem, h4]
      exact .refl _
    · have hp : ¬ (stopO o v).place < 0 := by simpa using hp
      rw [if_neg hp]
      simp only [go_sem, h4, h6, R6]
      refine wputE_n R4 (by simp [encStop_len]) ?_
      simp only [go_sem, h4]
      exact .refl _
  · simp only [go_sem, getD_map ho, hin]
    refine wputE_n R6 (by simp [encStop_len]) ?_
    simp only [go_sem]
    refine hK _ _ ⟨by simp only [go_sem], by simp only [go_sem], by rw [updH_ne _ _ _ _ ne_i4_i6]; exact R4, ?_⟩
    rw [updH_same, stopO, if_pos hb]; rfl
  · simp only [go_sem]
    refine hK _ _ ⟨by simp only [go_sem], by simp only [go_sem], R4, ?_⟩
    rw [stopO, if_neg (by rw [hb]; simp)]; exact R6
end Go.Proofs.YtbefdpmjpioijaaGreatDoor.Sq
