/- DecideClashes: decisions that clash are fulfilled by no plan that serves what must be served and keeps the counts. -/
import Derived.Test.YtjlbikpgjejkjaaLawE
set_option linter.unusedSimpArgs false
set_option linter.unusedVariables false
namespace Go.Proofs.Ytjlbikpgjejkjaa.Dec
open Go.Aw Go.Aw.D Go.Proofs Ty
set_option maxRecDepth 100000

/-- no order below k that must be served is not served -/
def ServedTo (x : Instance) (p : Plan) (k : Nat) : Prop := ∀ i o, i < k → x.orders[i]? = some o → (!o.off && o.penalty == -1 && !servesAt p i) = false
/-- no type below k is used more often than it may be -/
def CountsTo (x : Instance) (p : Plan) (k : Nat) : Prop := ∀ i t, i < k → x.types[i]? = some t → decide ((countT p.routes i : Int) > t.count) = false
theorem must_served {x : Instance} {l : List Decision} {p : Plan} (hh : ∀ d ∈ l, holdsP d p = true) (hs : ServedTo x p x.orders.length) {i : Int} (hi : 0 ≤ i ∧ i < (x.orders.length : Int)) (hm : mustB x l i.toNat = true) : ∃ r ∈ p.routes, hasV r i = true := by
  unfold mustB at hm
  obtain ⟨o, ho⟩ := getIn (show i.toNat < x.orders.length by omega)
  rw [ho] at hm
  simp only [Bool.and_eq_true, Bool.or_eq_true, Bool.not_eq_true', List.any_eq_true] at hm
  obtain ⟨h1 | ⟨d, hd, h1⟩, h2⟩ := hm
  · have h3 := hs i.toNat o (by omega) ho
    rw [h2, h1, Int.toNat_of_nonneg hi.1] at h3
    simp only [Bool.not_false, Bool.true_and, Bool.not_eq_false'] at h3
    exact List.any_eq_true.1 h3
  · have h3 := hh d hd
    simp only [serveD, Bool.and_eq_true, beq_iff_eq] at h1
    unfold holdsP at h3
    rw [if_neg (by omega), if_neg (by omega), if_pos h1.1, h1.2, Int.toNat_of_nonneg hi.1] at h3
    exact List.any_eq_true.1 h3
theorem clash_none {x : Instance} {l : List Decision} {p : Plan} (ho : x.orders.length ≤ 10) (hk : ∀ d ∈ l, knownR x d = 0) (hp : Plain x p) (hs : ServedTo x p x.orders.length) (hc : CountsTo x p x.types.length) :
    (!clashG x l (hasR (mustN x l x.orders.length : Nat)) || !HoldsR x l p) = true := by
  rw [clash_same ho hk]
  cases hC : clashG x l (fun i => mustB x l i.toNat) with
  | false => rfl
  | true =>
    cases hH : HoldsR x l p with
    | false => rfl
    | true =>
      exfalso
      have hh : ∀ d ∈ l, holdsP d p = true := fun d hd => by
        rw [← holds_plain ho (hk d hd) hp]; exact List.all_eq_true.1 hH d hd
      obtain ⟨a, ha, h⟩ := List.any_eq_true.1 hC
      have hka := known_spec (hk a ha)
      have hha := hh a ha
      simp only [Bool.or_eq_true] at h
      rcases h with (h | h) | h
      · simp only [Bool.and_eq_true, beq_iff_eq] at h
        obtain ⟨r, hr, hv⟩ := must_served hh hs (by rcases hka with h' | h' | h' <;> omega) h.2
        unfold holdsP at hha
        rw [if_neg (by omega), if_neg (by omega), if_neg (by omega), if_pos h.1] at hha
        have := List.all_eq_true.1 hha r hr
        rw [hv] at this
        simp at this
      · simp only [overR, Bool.and_eq_true, beq_iff_eq, decide_eq_true_eq] at h
        obtain ⟨⟨⟨h4, h0⟩, h1⟩, h2⟩ := h
        obtain ⟨t, ht⟩ := getIn (show a.a.toNat < x.types.length by omega)
        have h3 := hc a.a.toNat t (by omega) ht
        rw [Int.toNat_of_nonneg h0] at h3
        have e : countAt x a.a = t.count := by unfold countAt; rw [ht]
        rw [e] at h2
        unfold holdsP at hha
        rw [if_neg (by omega), if_neg (by omega), if_neg (by omega), if_neg (by omega), if_neg (by omega)] at hha
        simp only [decide_eq_true_eq, decide_eq_false_iff_not] at hha h3
        omega
      · obtain ⟨b, hb, h⟩ := List.any_eq_true.1 h
        have hhb := hh b hb
        unfold againstG at h
        split at h
        · rename_i hab
          simp only [Bool.and_eq_true, beq_iff_eq] at hab
          simp only [sameR, Bool.and_eq_true, Bool.or_eq_true, beq_iff_eq] at h
          obtain ⟨hsame, hm⟩ := h
          have ra : (0 ≤ a.a ∧ a.a < (x.orders.length : Int)) ∧ (0 ≤ a.b ∧ a.b < (x.orders.length : Int)) := by rcases hka with h' | h' | h' <;> omega
          unfold holdsP at hha hhb
          rw [if_pos hab.1] at hha
          rw [if_neg (by omega), if_pos hab.2] at hhb
          have key : ∃ r ∈ p.routes, hasV r a.a = true ∧ hasV r a.b = true := by
            rcases hm with hm | hm
            · obtain ⟨r, hr, hv⟩ := must_served hh hs ra.1 hm
              have := List.all_eq_true.1 hha r hr
              rw [hv] at this
              exact ⟨r, hr, hv, by simpa using this⟩
            · obtain ⟨r, hr, hv⟩ := must_served hh hs ra.2 hm
              have := List.all_eq_true.1 hha r hr
              rw [hv] at this
              exact ⟨r, hr, by simpa using this, hv⟩
          obtain ⟨r, hr, h1, h2⟩ := key
          have := List.all_eq_true.1 hhb r hr
          rcases hsame with ⟨e1, e2⟩ | ⟨e1, e2⟩
          · rw [← e1, ← e2, h1, h2] at this; simp at this
          · rw [← e1, ← e2, h1, h2] at this; simp at this
        · simp only [Bool.and_eq_true, beq_iff_eq, decide_eq_true_eq] at h
          unfold holdsP at hha hhb
          rw [if_neg (by omega), if_neg (by omega), if_neg (by omega), if_neg (by omega), if_pos (by omega)] at hha
          rw [if_neg (by omega), if_neg (by omega), if_neg (by omega), if_neg (by omega), if_neg (by omega)] at hhb
          simp only [decide_eq_true_eq] at hha hhb
          rw [← h.2.1] at hhb
          omega
theorem clashesLaw_c (x : Instance) (l : List Decision) (p : Plan) (hx : bInstance 1048576 x) (hl : bL bDecision 1048576 l) (hp : bPlan 1048576 p) :
    PC Try.prog 10 [.agg (encInstance x), .sl (l.map encDecision), .agg (encPlan p)] (.v (.bool true)) := by
  have hpb := planB hp
  have hbx := hx
  have hty := bI_types hx
  refine PC.body (c := Try.f10.body.getD .skip) (fun _ => false) mixed Try.func10 rfl (by kernel_rfl) ?_
  unfold Try.f10
  simp only [Option.getD_some]
  simp only [go_sem]
  refine PC.use (right_c x l (inB_of hx) hl.1) ?_
  simp only [go_sem]
  refine ⟨_, fun _ => (plain_c x p hpb.1 hpb.2).q rfl, ?_⟩
  simp only [go_sem]
  refine acond_i (fun hb => ?_) (fun hb => ?_)
  · simp only [go_sem]
    refine PC.use examples_c ?_
    simp only [go_sem]
    exact .refl _
  have hb2 := hb
  simp only [Bool.or_eq_false_iff, Bool.not_eq_false'] at hb2
  obtain ⟨h1, h2⟩ := hb2
  obtain ⟨_, _, ho, hk0⟩ := right_spec h1
  have hpl := plain_spec h2
  simp only [go_sem]
  refine ⟨fun ρ _ => ∃ k : Nat, k ≤ x.orders.length ∧ ρ 1 = .sl (l.map encDecision) ∧ ρ 3 = .rp (encInstance x) 0 ∧ ρ 5 = .rp (encPlan p) 0 ∧ ρ 26 = .sl (x.orders.map encOrder) ∧ ρ 27 = int x.orders.length ∧ ρ 28 = int k ∧ ServedTo x p k, fun ρ _ => x.orders.length - natOf (ρ 28), ⟨0, Nat.zero_le _, rfl, rfl, rfl, rfl, rfl, rfl, fun i _ h => absurd h (Nat.not_lt_zero _)⟩, ?_⟩
  rintro ρ H ⟨k, hk, h1, h3, h5, h26, h27, h28, hS⟩
  simp only [go_sem, h1, h3, h5, h26, h27, h28]
  refine acond_i (fun hlt => ?_) (fun hge => ?_)
  · have hlt := le_of_lt_b hlt
    obtain ⟨o, hok⟩ := getIn hlt
    have b1 := inB hlt
    simp only [go_sem, h1, h3, h5, h26, h27, h28, getD_map hok, b1]
    refine anew_i fun j hj => ?_
    simp only [go_sem, h1, h3, h5, h26, h27, h28, getD_map hok, b1]
    refine wputE_n (updH_same _ _ _) (by simp [encOrder_len]) ?_
    simp only [go_sem, h1, h3, h5, h26, h27, h28, getD_map hok, b1]
    refine ⟨_, fun _ => (serves_c p k hpb.1 hpb.2).q rfl, ?_⟩
    simp only [go_sem, h1, h3, h5, h26, h27, h28, getD_map hok, b1]
    refine acond_i (fun hb => ?_) (fun hb => ?_)
    · simp only [go_sem]
      refine PC.use examples_c ?_
      simp only [go_sem]
      exact .refl _
    · simp only [go_sem, h1, h3, h5, h26, h27, h28, wrapS (show k ≤ 4611686018427387904 by omega)]
      refine ⟨⟨k + 1, hlt, rfl, ?_⟩, by simp only [natOf_int]; omega⟩
      intro i o' hi ho'
      by_cases e : i = k
      · subst e; rw [hok] at ho'; injection ho' with e2; subst e2; exact hb
      · exact hS i o' (by omega) ho'
  · have hge := eq_of_ge_b hk hge
    subst hge
    simp only [go_sem, h1, h3, h5]
    refine ⟨fun ρ _ => ∃ k : Nat, k ≤ x.types.length ∧ ρ 1 = .sl (l.map encDecision) ∧ ρ 3 = .rp (encInstance x) 0 ∧ ρ 5 = .rp (encPlan p) 0 ∧ ρ 50 = .sl (x.types.map encVType) ∧ ρ 51 = int x.types.length ∧ ρ 52 = int k ∧ CountsTo x p k, fun ρ _ => x.types.length - natOf (ρ 52), ⟨0, Nat.zero_le _, by simp only [go_sem, h1], by simp only [go_sem, h3], by simp only [go_sem, h5], by simp only [go_sem], by simp only [go_sem], by simp only [go_sem]; rfl, fun i _ h => absurd h (Nat.not_lt_zero _)⟩, ?_⟩
    clear h1 h3 h5 h26 h27 h28 hk
    rintro ρ H ⟨k, hk, h1, h3, h5, h50, h51, h52, hC⟩
    simp only [go_sem, h1, h3, h5, h50, h51, h52]
    refine acond_i (fun hlt => ?_) (fun hge => ?_)
    · have hlt := le_of_lt_b hlt
      obtain ⟨t, htk⟩ := getIn hlt
      have b1 := inB hlt
      simp only [go_sem, h1, h3, h5, h50, h51, h52, getD_map htk, b1]
      refine anew_i fun j hj => ?_
      simp only [go_sem, h1, h3, h5, h50, h51, h52, getD_map htk, b1]
      refine wputE_n (updH_same _ _ _) (by simp [encVType_len]) ?_
      simp only [go_sem, h1, h3, h5, h50, h51, h52, getD_map htk, b1]
      refine ⟨fun ρ H => ∃ i : Nat, i ≤ p.routes.length ∧ ρ 1 = .sl (l.map encDecision) ∧ ρ 3 = .rp (encInstance x) 0 ∧ ρ 5 = .rp (encPlan p) 0 ∧ ρ 9 = int k ∧ ρ 10 = .op j 0 0 ∧ ρ 50 = .sl (x.types.map encVType) ∧ ρ 51 = int x.types.length ∧ ρ 52 = int k ∧ ρ 58 = .sl (p.routes.map encRoute) ∧ ρ 59 = int p.routes.length ∧ ρ 60 = int i ∧ ρ 11 = int (countT (p.routes.take i) k : Nat) ∧ H j = some ⟨78, 14, [encVType t]⟩, fun ρ _ => p.routes.length - natOf (ρ 60), ⟨0, Nat.zero_le _, by simp only [go_sem, h1], by simp only [go_sem, h3], by simp only [go_sem, h5], by simp only [go_sem], by simp only [go_sem], by simp only [go_sem, h50], by simp only [go_sem, h51], by simp only [go_sem, h52], by simp only [go_sem], by simp only [go_sem], by simp only [go_sem]; rfl, by simp only [go_sem]; rfl, updH_same _ _ _⟩, ?_⟩
      clear h1 h3 h5 h50 h51 h52 hj
      rintro ρ H ⟨i, hi, h1, h3, h5, h9, h10, h50, h51, h52, h58, h59, h60, h11, hj⟩
      simp only [go_sem, h1, h3, h5, h9, h10, h50, h51, h52, h58, h59, h60, h11]
      refine acond_i (fun hlt2 => ?_) (fun hge2 => ?_)
      · have hlt2 := le_of_lt_b hlt2
        obtain ⟨r, hr⟩ := getIn hlt2
        have b2 := inB hlt2
        have hc : countT (p.routes.take i) k ≤ i := Nat.le_trans List.countP_le_length (by simp; omega)
        have hcs := countP_succ (p := fun r => r.type == (k : Int)) hr
        simp only [go_sem, h1, h3, h5, h9, h10, h50, h51, h52, h58, h59, h60, h11, getD_map hr, b2]
        refine anew_i fun i2 hi2 => ?_
        have hne : j ≠ i2 := ne_new hj hi2
        simp only [go_sem, h1, h3, h5, h9, h10, h50, h51, h52, h58, h59, h60, h11, getD_map hr, b2]
        refine wputE_n (updH_same _ _ _) (by simp [encRoute_len]) ?_
        simp only [go_sem, h1, h3, h5, h9, h10, h50, h51, h52, h58, h59, h60, h11, getD_map hr, b2]
        generalize hG : updH (updH H i2 _) i2 _ = HG
        have hj' : HG j = some ⟨78, 14, [encVType t]⟩ := by rw [← hG, updH_ne _ _ _ _ hne, updH_ne _ _ _ _ hne]; exact hj
        clear hG
        refine acond_joinL (fun ρ' H' => ρ' 1 = .sl (l.map encDecision) ∧ ρ' 3 = .rp (encInstance x) 0 ∧ ρ' 5 = .rp (encPlan p) 0 ∧ ρ' 9 = int k ∧ ρ' 10 = .op j 0 0 ∧ ρ' 50 = .sl (x.types.map encVType) ∧ ρ' 51 = int x.types.length ∧ ρ' 52 = int k ∧ ρ' 58 = .sl (p.routes.map encRoute) ∧ ρ' 59 = int p.routes.length ∧ ρ' 60 = int i ∧ ρ' 11 = int (countT (p.routes.take (i + 1)) k : Nat) ∧ H' j = some ⟨78, 14, [encVType t]⟩) ?_ fun K hK _ _ => acond_i (fun hb => ?_) (fun hb => ?_)
        · clear h1 h3 h5 h9 h10 h50 h51 h52 h58 h59 h60 h11 hj
          rintro ρ H ⟨h1, h3, h5, h9, h10, h50, h51, h52, h58, h59, h60, h11, hj⟩
          simp only [go_sem, h1, h3, h5, h9, h10, h50, h51, h52, h58, h59, h60, h11, wrapS (show i ≤ 4611686018427387904 by omega)]
          exact ⟨⟨i + 1, hlt2, rfl, rfl, hj⟩, by simp only [natOf_int]; omega⟩
        · simp only [go_sem, h1, h3, h5, h9, h10, h50, h51, h52, h58, h59, h60, h11, wrapS (show countT (p.routes.take i) k ≤ 4611686018427387904 by omega)]
          refine hK _ _ ⟨by simp only [go_sem, h1], by simp only [go_sem, h3], by simp only [go_sem, h5], by simp only [go_sem, h9], by simp only [go_sem, h10], by simp only [go_sem, h50], by simp only [go_sem, h51], by simp only [go_sem, h52], by simp only [go_sem, h58], by simp only [go_sem, h59], by simp only [go_sem, h60], ?_, hj'⟩
          simp only [go_sem]; rw [if_pos hb] at hcs; unfold countT; rw [hcs]
        · simp only [go_sem, h1, h3, h5, h9, h10, h50, h51, h52, h58, h59, h60, h11]
          refine hK _ _ ⟨by simp only [go_sem, h1], by simp only [go_sem, h3], by simp only [go_sem, h5], by simp only [go_sem, h9], by simp only [go_sem, h10], by simp only [go_sem, h50], by simp only [go_sem, h51], by simp only [go_sem, h52], by simp only [go_sem, h58], by simp only [go_sem, h59], by simp only [go_sem, h60], ?_, hj'⟩
          simp only [go_sem, h11]; rw [if_neg (by rw [hb]; simp)] at hcs; unfold countT; rw [hcs]; rfl
      · have hge2 := eq_of_ge_b hi hge2
        subst hge2
        rw [List.take_length] at h11
        simp only [go_sem, h1, h3, h5, h9, h10, h50, h51, h52, h11, hj]
        refine acond_i (fun hb => ?_) (fun hb => ?_)
        · simp only [go_sem]
          refine PC.use examples_c ?_
          simp only [go_sem]
          exact .refl _
        · simp only [go_sem, h1, h3, h5, h50, h51, h52, wrapS (show k ≤ 4611686018427387904 by omega)]
          refine ⟨⟨k + 1, hlt, rfl, ?_⟩, by simp only [natOf_int]; omega⟩
          intro i t' hi ht'
          by_cases e : i = k
          · subst e; rw [htk] at ht'; injection ht' with e2; subst e2; exact hb
          · exact hC i t' (by omega) ht'
    · have hge := eq_of_ge_b hk hge
      subst hge
      have law := clash_none ho hk0 hpl hS hC
      simp only [go_sem, h1, h3, h5]
      refine PC.use (Clash_c x l (by omega) hl.1) ?_
      simp only [go_sem, h1, h3, h5]
      refine ⟨_, fun _ => (Holds_c x l p hty hl.1 hpb.1 hpb.2).q rfl, ?_⟩
      simp only [go_sem]
      refine ⟨_, fun _ => examples_c.q rfl, ?_⟩
      simp only [go_sem]
      refine convB ?_
      simpa using law
end Go.Proofs.Ytjlbikpgjejkjaa.Dec
