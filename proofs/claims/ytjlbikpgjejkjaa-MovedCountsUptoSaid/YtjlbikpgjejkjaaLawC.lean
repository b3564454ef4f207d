/- DecideAllows, DecideHolds, DecideOpposes: the laws' functions answer true. -/
import Derived.Test.YtjlbikpgjejkjaaLawB
set_option linter.unusedSimpArgs false
set_option linter.unusedVariables false
namespace Go.Proofs.Ytjlbikpgjejkjaa.Dec
open Go.Aw Go.Aw.D Go.Proofs Ty
set_option maxRecDepth 100000

theorem decB_of {n : Nat} {d : Decision} (h : bDecision n d) : decB d := h
theorem allowsLaw_c (x : Instance) (l : List Decision) (c : Column) (hx : bInstance 1048576 x) (hl : bL bDecision 1048576 l) (hc : bColumn 1048576 c) :
    PC Try.prog 7 [.agg (encInstance x), .sl (l.map encDecision), .agg (encColumn c)] (.v (.bool true)) := by
  refine PC.body (c := Try.f7.body.getD .skip) (fun _ => false) mixed Try.func7 rfl (by kernel_rfl) ?_
  unfold Try.f7
  simp only [Option.getD_some]
  simp only [go_sem]
  refine PC.use (right_c x l (inB_of hx) hl.1) ?_
  simp only [go_sem]
  refine acond_i (fun hb => ?_) (fun hb => ?_)
  · simp only [go_sem]
    refine PC.use examples_c ?_
    simp only [go_sem]
    exact .refl _
  · have hb2 := hb
    simp only [Bool.or_eq_false_iff, Bool.not_eq_false', decide_eq_false_iff_not] at hb2
    obtain ⟨h1, h2⟩ := hb2
    obtain ⟨_, _, ho, hk⟩ := right_spec h1
    simp only [go_sem]
    refine adraw_q (by rfl) (by kernel_rfl) ?_
    simp only [go_sem]
    refine ⟨_, (Allows_c l c hl.1).q rfl, ?_⟩
    simp only [go_sem]
    refine ⟨_, (Allows29_c l c hl.1 (fun d hd => decB_of (hl.2 d hd)) (by omega) hc.2.1.2).q rfl, ?_⟩
    simp only [go_sem]
    refine ⟨_, fun _ => examples_c.q rfl, ?_⟩
    simp only [go_sem]
    refine convB ?_
    rw [all_congr (q := fun d => !forbidsR d c.set) fun d hd => allows_forbids ho (hk d hd)]
    simp
theorem planB {p : Plan} (h : bPlan 1048576 p) : p.routes.length ≤ 1048576 ∧ ∀ r ∈ p.routes, r.visits.length ≤ 1048576 := ⟨h.1.1, fun r hr => (h.1.2 r hr).2.2.2.1⟩
theorem bI_types {x : Instance} (h : bInstance 1048576 x) : x.types.length ≤ 1048576 := h.2.1.1
theorem holdsLaw_c (x : Instance) (l : List Decision) (p : Plan) (hx : bInstance 1048576 x) (hl : bL bDecision 1048576 l) (hp : bPlan 1048576 p) :
    PC Try.prog 8 [.agg (encInstance x), .sl (l.map encDecision), .agg (encPlan p)] (.v (.bool true)) := by
  have hpb := planB hp
  refine PC.body (c := Try.f8.body.getD .skip) (fun _ => false) mixed Try.func8 rfl (by kernel_rfl) ?_
  unfold Try.f8
  simp only [Option.getD_some]
  simp only [go_sem]
  refine PC.use (right_c x l (inB_of hx) hl.1) ?_
  simp only [go_sem]
  refine ⟨_, fun _ => (plain_c x p hpb.1 hpb.2).q rfl, ?_⟩
  simp only [go_sem]
  refine acond_i (fun hb => ?_) (fun hb => ?_)
  · simp only [go_sem]
    refine PC.use examples_c ?_
    simp only [go_sem]
    exact .refl _
  · have hb2 := hb
    simp only [Bool.or_eq_false_iff, Bool.not_eq_false'] at hb2
    obtain ⟨h1, h2⟩ := hb2
    obtain ⟨_, _, ho, hk⟩ := right_spec h1
    have hpl := plain_spec h2
    simp only [go_sem]
    refine adraw_q (by rfl) (by kernel_rfl) ?_
    simp only [go_sem]
    refine ⟨_, (Holds_c x l p (bI_types hx) hl.1 hpb.1 hpb.2).q rfl, ?_⟩
    simp only [go_sem]
    refine ⟨_, (Holds29_c x l p hl.1 (fun d hd => decB_of (hl.2 d hd)) hpb.1 (fun r hr => hpl.small ho hr)).q rfl, ?_⟩
    simp only [go_sem]
    refine ⟨_, fun _ => (Clash_c x l (by omega) hl.1).q rfl, ?_⟩
    simp only [go_sem]
    refine ⟨_, fun _ => (Clash29_c x l hl.1 (fun a ha => refOk_of (hk a ha))).q rfl, ?_⟩
    simp only [go_sem]
    refine ⟨_, fun _ => examples_c.q rfl, ?_⟩
    simp only [go_sem]
    refine convB ?_
    have e1 : HoldsR x l p = l.all fun d => holds29R d p := all_congr fun d hd => (holds_plain ho (hk d hd) hpl).trans (holds29_plain ho (hk d hd) hpl).symm
    rw [e1, clash_same ho hk]
    simp

/-! ### a decision or its opposite -/
theorem opp_opp {x : Instance} {d : Decision} (h : knownR x d = 0) : oppR (oppR d) = d := by
  obtain ⟨k, a, b, n⟩ := d
  rcases known_spec h with ⟨hk, _⟩ | ⟨hk, _⟩ | ⟨hk, _, h1, h2⟩
  · simp only at hk
    rcases hk with hk | hk <;> subst hk <;> simp [oppR]
  · simp only at hk
    rcases hk with hk | hk <;> subst hk <;> simp [oppR]
  · simp only at hk h1 h2
    rcases hk with hk | hk
    · subst hk
      simp only [oppR]
      simp
      rw [wrap_in (n := n + 1) (by omega), wrap_in (by omega)]
      omega
    · subst hk
      simp only [oppR]
      simp
      rw [wrap_in (n := n - 1) (by omega), wrap_in (by omega)]
      omega
theorem and_zero_bit {a b i : Nat} (h : a &&& b = 0) (ha : a.testBit i = true) : b.testBit i = false := by
  have := congrArg (fun z => z.testBit i) h
  simp only [Nat.testBit_and, Nat.zero_testBit, ha, Bool.true_and] at this
  exact this
/-- an order is on one route at most -/
theorem single_spec {x : Instance} {p : Plan} (ho : x.orders.length ≤ 10) (hp : Plain x p) (hs : singleR p = true) {i j : Nat} {r s : Route} (hi : p.routes[i]? = some r) (hj : p.routes[j]? = some s) {o : Int} (h0 : 0 ≤ o) (hr : hasV r o = true) (hso : hasV s o = true) : i = j := by
  have key : ∀ {i j : Nat} {r s : Route}, p.routes[i]? = some r → p.routes[j]? = some s → hasV r o = true → hasV s o = true → i < j → False := by
    intro i j r s hi hj hr hso hlt
    have hj' : j < p.routes.length := (List.getElem?_eq_some_iff.1 hj).1
    have ha := List.all_eq_true.1 hs j (by simpa using hj')
    unfold aloneAt at ha
    rw [hj] at ha
    simp only [beq_iff_eq] at ha
    have hb : (accN (p.routes.take j)).testBit o.toNat = true := by
      rw [accN_bit, List.any_eq_true]
      refine ⟨r, ?_, ?_⟩
      · have : (p.routes.take j)[i]? = some r := by rw [List.getElem?_take, if_pos hlt]; exact hi
        exact List.mem_of_getElem? this
      · rw [← hasN_nat, has_set (hp.small ho (List.mem_of_getElem? hi)) h0]; exact hr
    have hc := and_zero_bit ha hb
    rw [← hasN_nat, has_set (hp.small ho (List.mem_of_getElem? hj)) h0, hso] at hc
    simp at hc
  rcases Nat.lt_trichotomy i j with h | h | h
  · exact (key hi hj hr hso h).elim
  · exact h
  · exact (key hj hi hso hr h).elim
def otherR (d : Decision) (v : Bool) : Bool :=
  if (d.kind == 3 && decide (d.n = 10)) = true then true
  else if (d.kind == 3 && decide (d.n < 10) || d.kind == 4 && decide (d.n > 0)) = true then v
  else d.kind != 4 && d.kind != 3 && v
theorem known_opp {x : Instance} {d : Decision} (h : knownR x d = 0) (hn : (d.kind = 3 → d.n < 10) ∧ (d.kind = 4 → 0 < d.n)) : knownR x (oppR d) = 0 := by
  obtain ⟨k, a, b, n⟩ := d
  simp only at hn
  rcases known_spec h with ⟨hk, ha, hb, hne⟩ | ⟨hk, ha⟩ | ⟨hk, ha, h1, h2⟩
  · simp only at hk ha hb hne
    rcases hk with hk | hk <;> subst hk <;> simp [oppR, knownR, orderR, ha, hb, hne]
  · simp only at hk ha
    rcases hk with hk | hk <;> subst hk <;> simp [oppR, knownR, orderR, ha]
  · simp only at hk ha h1 h2
    rcases hk with hk | hk
    · subst hk
      have := hn.1 rfl
      simp only [oppR, knownR]
      simp
      rw [wrap_in (n := n + 1) (by omega)]
      omega
    · subst hk
      have := hn.2 rfl
      simp only [oppR, knownR]
      simp
      rw [wrap_in (n := n - 1) (by omega)]
      omega
theorem opposes {x : Instance} {d : Decision} {p : Plan} (ho : x.orders.length ≤ 10) (h : knownR x d = 0) (hp : Plain x p) (hs : singleR p = true) : (otherR d (HoldsR x [oppR d] p) || HoldsR x [d] p) = true := by
  have hd : HoldsR x [d] p = holdsP d p := by simp only [HoldsR, List.all_cons, List.all_nil, Bool.and_true]; exact holds_plain ho h hp
  rw [hd]
  have hopp : (d.kind = 3 → d.n < 10) ∧ (d.kind = 4 → 0 < d.n) → HoldsR x [oppR d] p = holdsP (oppR d) p := fun hn => by
    simp only [HoldsR, List.all_cons, List.all_nil, Bool.and_true]; exact holds_plain ho (known_opp h hn) hp
  obtain ⟨k, a, b, n⟩ := d
  -- a plan in which a and b are not always together has them never together
  have together : ∀ {a b : Int}, 0 ≤ a → 0 ≤ b → (p.routes.all fun r => hasV r a == hasV r b) = false → (p.routes.all fun r => !hasV r a || !hasV r b) = true := by
    intro a b ha hb hf
    rw [List.all_eq_false] at hf
    obtain ⟨r, hr, hne⟩ := hf
    obtain ⟨i, hi⟩ := List.mem_iff_getElem?.1 hr
    rw [List.all_eq_true]
    intro s hs2
    obtain ⟨j, hj⟩ := List.mem_iff_getElem?.1 hs2
    cases hsa : hasV s a with
    | false => rfl
    | true =>
      cases hsb : hasV s b with
      | false => rfl
      | true =>
        exfalso
        have e : i = j := by
          cases hra : hasV r a with
          | true => exact single_spec ho hp hs hi hj ha hra hsa
          | false =>
            cases hrb : hasV r b with
            | true => exact single_spec ho hp hs hi hj hb hrb hsb
            | false => rw [hra, hrb] at hne; simp at hne
        subst e
        rw [hi] at hj
        injection hj with hj
        subst hj
        rw [hsa, hsb] at hne
        simp at hne
  have oth : ∀ (k : Int) (v : Bool), k ≠ 3 → k ≠ 4 → otherR ⟨k, a, b, n⟩ v = v := fun k v h3 h4 => by simp [otherR, h3, h4]
  rcases known_spec h with ⟨hk, ha, hb, hne⟩ | ⟨hk, ha⟩ | ⟨hk, ha, h1, h2⟩
  · simp only at hk ha hb hne
    rcases hk with hk | hk <;> subst hk
    · rw [hopp ⟨by simp, by simp⟩, oth _ _ (by decide) (by decide)]
      have e1 : holdsP (oppR ⟨1, a, b, n⟩) p = p.routes.all fun r => !hasV r a || !hasV r b := rfl
      have e2 : holdsP ⟨1, a, b, n⟩ p = p.routes.all fun r => hasV r a == hasV r b := rfl
      rw [e1, e2]
      cases hf : p.routes.all fun r => hasV r a == hasV r b with
      | true => rw [Bool.or_true]
      | false => rw [together ha.1 hb.1 hf]; rfl
    · rw [hopp ⟨by simp, by simp⟩, oth _ _ (by decide) (by decide)]
      have e1 : holdsP ⟨2, a, b, n⟩ p = p.routes.all fun r => !hasV r a || !hasV r b := rfl
      have e2 : holdsP (oppR ⟨2, a, b, n⟩) p = p.routes.all fun r => hasV r a == hasV r b := rfl
      rw [e1, e2]
      cases hf : p.routes.all fun r => hasV r a == hasV r b with
      | true => rfl
      | false => rw [together ha.1 hb.1 hf]; rfl
  · simp only at hk ha
    have nn : (p.routes.all fun r => !hasV r a) = !(p.routes.any fun r => hasV r a) := (List.not_any_eq_all_not ..).symm
    rcases hk with hk | hk <;> subst hk
    · rw [hopp ⟨by simp, by simp⟩, oth _ _ (by decide) (by decide)]
      have e1 : holdsP ⟨5, a, b, n⟩ p = p.routes.any fun r => hasV r a := rfl
      have e2 : holdsP (oppR ⟨5, a, b, n⟩) p = p.routes.all fun r => !hasV r a := rfl
      rw [e1, e2, nn]
      cases p.routes.any fun r => hasV r a <;> rfl
    · rw [hopp ⟨by simp, by simp⟩, oth _ _ (by decide) (by decide)]
      have e1 : holdsP (oppR ⟨6, a, b, n⟩) p = p.routes.any fun r => hasV r a := rfl
      have e2 : holdsP ⟨6, a, b, n⟩ p = p.routes.all fun r => !hasV r a := rfl
      rw [e1, e2, nn]
      cases p.routes.any fun r => hasV r a <;> rfl
  · simp only at hk ha h1 h2
    rcases hk with hk | hk <;> subst hk
    · by_cases e : n = 10
      · subst e; simp [otherR]
      · rw [hopp ⟨fun _ => by simp only; omega, by simp⟩]
        simp only [otherR, oppR, holdsP]
        simp
        rw [wrap_in (by omega)]
        omega
    · by_cases e : n = 0
      · subst e
        simp [otherR, holdsP]
      · rw [hopp ⟨by simp, fun _ => by simp only; omega⟩]
        simp only [otherR, oppR, holdsP]
        simp
        rw [wrap_in (by omega)]
        omega
end Go.Proofs.Ytjlbikpgjejkjaa.Dec
