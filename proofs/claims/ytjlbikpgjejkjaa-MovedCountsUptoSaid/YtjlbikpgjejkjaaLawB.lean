/- decide: the plain laws: what the functions compute answers as the statements say. -/
import Derived.Test.YtjlbikpgjejkjaaLawA
set_option linter.unusedSimpArgs false
set_option linter.unusedVariables false
namespace Go.Proofs.Ytjlbikpgjejkjaa.Dec
open Go.Aw Go.Aw.D Go.Proofs Ty
set_option maxRecDepth 100000

theorem opt_nil {α : Type} {b : Bool} {f : α} (h : opt b f = []) : b = false := by cases b <;> simp [opt] at h ⊢
theorem few_orders {x : Instance} (h : checkR x = []) : x.orders.length ≤ 10 := by
  simp only [checkR, List.append_eq_nil_iff, List.map_eq_nil_iff] at h
  have h1 := h.1.2
  simp only [ordersR, List.append_eq_nil_iff] at h1
  have h2 := opt_nil h1.1
  simp at h2
  omega
theorem right_spec {x : Instance} {l : List Decision} (h : rightR x l = true) : l.length ≤ 40 ∧ checkR x = [] ∧ x.orders.length ≤ 10 ∧ ∀ d ∈ l, knownR x d = 0 := by
  simp only [rightR, Bool.and_eq_true, decide_eq_true_eq, beq_iff_eq] at h
  obtain ⟨⟨h1, h2⟩, h3⟩ := h
  have h0 : checkR x = [] := List.eq_nil_of_length_eq_zero (by omega)
  refine ⟨by omega, h0, few_orders h0, ?_⟩
  unfold chkR at h3
  split at h3
  · simp at h3
  · intro d hd
    exact firstErr_zero h3 _ (List.mem_map_of_mem hd)
/-- what is known of an accepted decision -/
theorem known_spec {x : Instance} {d : Decision} (h : knownR x d = 0) :
    ((d.kind = 1 ∨ d.kind = 2) ∧ (0 ≤ d.a ∧ d.a < (x.orders.length : Int)) ∧ (0 ≤ d.b ∧ d.b < (x.orders.length : Int)) ∧ d.a ≠ d.b) ∨
    ((d.kind = 5 ∨ d.kind = 6) ∧ (0 ≤ d.a ∧ d.a < (x.orders.length : Int))) ∨
    ((d.kind = 3 ∨ d.kind = 4) ∧ (0 ≤ d.a ∧ d.a < (x.types.length : Int)) ∧ 0 ≤ d.n ∧ d.n ≤ 10) := by
  unfold knownR at h
  split at h
  · rename_i hk
    split at h
    · rename_i hc
      left
      simp only [orderR, Bool.and_eq_true, decide_eq_true_eq, bne_iff_ne, ne_eq] at hc
      exact ⟨hk, ⟨hc.1.1.1, hc.1.1.2⟩, ⟨hc.1.2.1, hc.1.2.2⟩, hc.2⟩
    · simp at h
  · split at h
    · rename_i hk
      split at h
      · rename_i hc
        right; left
        simp only [orderR, Bool.and_eq_true, decide_eq_true_eq] at hc
        exact ⟨hk, hc.1, hc.2⟩
      · simp at h
    · split at h
      · rename_i hk
        split at h
        · rename_i hc
          right; right
          simp only [Bool.and_eq_true, decide_eq_true_eq] at hc
          exact ⟨hk, ⟨hc.1.1.1, hc.1.1.2⟩, hc.1.2, hc.2⟩
        · simp at h
      · simp at h
theorem hasR_hasN {s i : Int} (h : 0 ≤ i ∧ i ≤ 62) : hasR s i = hasN s i := by
  unfold hasR hasN
  have h1 : decide (i ≥ 0) = true := by simpa using h.1
  have h2 : decide (i ≤ 62) = true := by simpa using h.2
  rw [h1, h2]; rfl
theorem allows_forbids {x : Instance} {d : Decision} {s : Int} (ho : x.orders.length ≤ 10) (h : knownR x d = 0) : allowsR d s = !forbidsR d s := by
  unfold allowsR forbidsR
  rcases known_spec h with ⟨hk, ha, hb, _⟩ | ⟨hk, ha⟩ | ⟨hk, _⟩
  · rw [hasR_hasN (s := s) (i := d.a) (by omega), hasR_hasN (s := s) (i := d.b) (by omega)]
    rcases hk with hk | hk <;> simp [hk]
    generalize hasN s d.a = p; generalize hasN s d.b = q; cases p <;> cases q <;> rfl
  · rw [hasR_hasN (s := s) (i := d.a) (by omega)]
    rcases hk with hk | hk <;> simp [hk]
  · rcases hk with hk | hk <;> simp [hk]
theorem all_congr {α : Type} {p q : α → Bool} {l : List α} (h : ∀ x ∈ l, p x = q x) : l.all p = l.all q := by
  rw [Bool.eq_iff_iff, List.all_eq_true, List.all_eq_true]
  exact ⟨fun hp x hx => (h x hx) ▸ hp x hx, fun hp x hx => (h x hx).symm ▸ hp x hx⟩

/-- a plan whose visits are of existing orders -/
structure Plain (x : Instance) (p : Plan) : Prop where
  routes : p.routes.length ≤ 20
  visits : ∀ r ∈ p.routes, r.visits.length ≤ 20 ∧ ∀ v ∈ r.visits, 0 ≤ v.order ∧ v.order < (x.orders.length : Int)
theorem plain_spec {x : Instance} {p : Plan} (h : plainR x p = true) : Plain x p := by
  simp only [plainR, Bool.and_eq_true, Bool.not_eq_true', decide_eq_false_iff_not, List.all_eq_true] at h
  obtain ⟨h1, h2⟩ := h
  refine ⟨by omega, fun r hr => ?_⟩
  have := h2 r hr
  simp only [plainRt, Bool.and_eq_true, Bool.not_eq_true', decide_eq_false_iff_not, List.all_eq_true] at this
  refine ⟨by omega, fun v hv => ?_⟩
  have := this.2 v hv
  simp only [badV, Bool.or_eq_false_iff, decide_eq_false_iff_not] at this
  omega
theorem Plain.small {x : Instance} {p : Plan} (h : Plain x p) (ho : x.orders.length ≤ 10) {r : Route} (hr : r ∈ p.routes) : smallV r :=
  ⟨by have := (h.visits r hr).1; omega, fun v hv => by have := (h.visits r hr).2 v hv; omega⟩
def hasV (r : Route) (i : Int) : Bool := r.visits.any fun v => v.order == i
theorem has_set {r : Route} (h : smallV r) {i : Int} (hi : 0 ≤ i) : hasN (setN r.visits : Nat) i = hasV r i := by
  rw [hasN_nat, setN_bit]
  unfold hasV
  rw [Bool.eq_iff_iff, List.any_eq_true, List.any_eq_true]
  constructor
  · rintro ⟨v, hv, e⟩
    refine ⟨v, hv, ?_⟩
    have := h.2 v hv
    simp only [beq_iff_eq] at e ⊢
    omega
  · rintro ⟨v, hv, e⟩
    refine ⟨v, hv, ?_⟩
    simp only [beq_iff_eq] at e ⊢
    omega
theorem has_setR {r : Route} (h : smallV r) {i : Int} (hi : 0 ≤ i ∧ i ≤ 62) : hasR (setN r.visits : Nat) i = hasV r i := (hasR_hasN hi).trans (has_set h hi.1)
theorem sets_eq {l : List Route} (h : ∀ r ∈ l, smallV r) : setsR l = l.map fun r => ((setN r.visits : Nat) : Int) := by
  unfold setsR
  refine List.map_congr_left fun r hr => ?_
  unfold ordersV
  rw [if_pos]
  rw [List.all_eq_true]
  intro v hv
  have := (h r hr).2 v hv
  simp [okV]
  omega
theorem orN_acc {l : List Route} (h : ∀ r ∈ l, smallV r) : orN (l.map fun r => ((setN r.visits : Nat) : Int)) = (accN l : Nat) := by
  suffices ∀ (l : List Route) (s : Nat), s < 2 ^ 62 → (∀ r ∈ l, smallV r) → (l.map fun r => ((setN r.visits : Nat) : Int)).foldl (bitV .or .i64) (s : Int) = ((l.foldl (fun s r => s ||| setN r.visits) s : Nat) : Int) from this l 0 (by decide) h
  intro l
  induction l with
  | nil => intro s _ _; rfl
  | cons r l ih =>
    intro s hs hl
    have h1 := smallV_lt (hl r (by simp))
    rw [List.map_cons, List.foldl_cons, List.foldl_cons, or_nat (by omega) (by omega)]
    exact ih _ (Nat.or_lt_two_pow hs h1) fun r hr => hl r (by simp [hr])
theorem accN_bit (l : List Route) (i : Nat) : (accN l).testBit i = l.any fun r => (setN r.visits).testBit i := by
  suffices ∀ (l : List Route) (s : Nat), (l.foldl (fun s r => s ||| setN r.visits) s).testBit i = (s.testBit i || l.any fun r => (setN r.visits).testBit i) from by
    have := this l 0
    simpa [accN] using this
  intro l
  induction l with
  | nil => intro s; simp
  | cons r l ih => intro s; rw [List.foldl_cons, ih, Nat.testBit_or, List.any_cons, Bool.or_assoc]
theorem any_congr {α : Type} {p q : α → Bool} {l : List α} (h : ∀ x ∈ l, p x = q x) : l.any p = l.any q := by
  rw [Bool.eq_iff_iff, List.any_eq_true, List.any_eq_true]
  exact ⟨fun ⟨x, hx, hp⟩ => ⟨x, hx, (h x hx) ▸ hp⟩, fun ⟨x, hx, hp⟩ => ⟨x, hx, (h x hx).symm ▸ hp⟩⟩
theorem has_or {l : List Route} (h : ∀ r ∈ l, smallV r) {i : Int} (hi : 0 ≤ i ∧ i ≤ 62) : hasR (orN (setsR l)) i = l.any fun r => hasV r i := by
  rw [sets_eq h, orN_acc h, hasR_hasN hi, hasN_nat, accN_bit]
  refine any_congr fun r hr => ?_
  rw [← has_set (h r hr) hi.1, hasN_nat]
theorem used_at (n : Nat) (l : List Route) (hl : l.length ≤ 1048576) {a : Int} (ha : 0 ≤ a ∧ a < (n : Int)) : usedAt (usedR n l) a = (countT l a : Nat) := by
  have hlen := usedR_len n l
  have e : usedAt (usedR n l) a = (usedR n l).getD a.toNat 0 := by
    unfold usedAt; rw [if_pos]; simp; omega
  rw [e]
  suffices ∀ (l : List Route) (us : List Int) (c : Nat), us.length = n → us.getD a.toNat 0 = (c : Int) → c + l.length ≤ 4000000 → (l.foldl (fun us r => incR us r.type) us).getD a.toNat 0 = ((c + countT l a : Nat) : Int) from by
    have := this l (List.replicate n 0) 0 (by simp) (by simp [List.getD, List.getElem?_replicate]; split <;> rfl) (by omega)
    rw [Nat.zero_add] at this
    exact this
  intro l
  induction l with
  | nil => intro us c h1 h2 _; simpa [countT] using h2
  | cons r l ih =>
    intro us c h1 h2 h3
    rw [List.foldl_cons]
    have hc : countT (r :: l) a = countT l a + (if r.type == a then 1 else 0) := by simp [countT, List.countP_cons]
    rw [hc]
    simp only [List.length_cons] at h3
    by_cases e : r.type = a
    · have e1 : (incR us r.type).getD a.toNat 0 = ((c + 1 : Nat) : Int) := by
        unfold incR
        rw [e, if_pos (by simp; omega), h2]
        have : a.toNat < us.length := by omega
        simp [List.getD, this]
        rw [wrap_in (by omega)]
      rw [ih _ (c + 1) (by rw [incR_len]; exact h1) e1 (by omega)]
      simp [e]; omega
    · have e1 : (incR us r.type).getD a.toNat 0 = (c : Int) := by
        unfold incR
        split
        · rename_i hc
          simp only [Bool.and_eq_true, decide_eq_true_eq] at hc
          have : r.type.toNat ≠ a.toNat := by omega
          simpa [List.getD, List.getElem?_set, this] using h2
        · exact h2
      rw [ih _ c (by rw [incR_len]; exact h1) e1 (by omega)]
      simp [e]
/-- what it means that a plan fulfils an accepted decision -/
def holdsP (d : Decision) (p : Plan) : Bool :=
  if d.kind = 1 then p.routes.all fun r => hasV r d.a == hasV r d.b
  else if d.kind = 2 then p.routes.all fun r => !hasV r d.a || !hasV r d.b
  else if d.kind = 5 then p.routes.any fun r => hasV r d.a
  else if d.kind = 6 then p.routes.all fun r => !hasV r d.a
  else if d.kind = 3 then decide ((countT p.routes d.a : Int) ≤ d.n)
  else decide ((countT p.routes d.a : Int) ≥ d.n)
theorem holds_plain {x : Instance} {d : Decision} {p : Plan} (ho : x.orders.length ≤ 10) (h : knownR x d = 0) (hp : Plain x p) : holdsR d (setsR p.routes) (usedR x.types.length p.routes) = holdsP d p := by
  have hs : ∀ r ∈ p.routes, smallV r := fun r hr => hp.small ho hr
  have hall : (setsR p.routes).all (allowsR d) = p.routes.all fun r => allowsR d (setN r.visits : Nat) := by
    rw [sets_eq hs, List.all_map]; rfl
  have hT : (p.routes.all fun _ => true) = true := by simp
  unfold holdsR
  rw [hall]
  unfold holdsP kindR allowsR
  rcases known_spec h with ⟨hk, ha, hb, _⟩ | ⟨hk, ha⟩ | ⟨hk, ha, _⟩
  · rcases hk with hk | hk
    · simp only [hk]
      simp
      refine all_congr fun r hr => ?_
      rw [has_setR (i := d.a) (hs r hr) (by omega), has_setR (i := d.b) (hs r hr) (by omega)]
    · simp only [hk]
      simp
      refine all_congr fun r hr => ?_
      rw [has_setR (i := d.a) (hs r hr) (by omega), has_setR (i := d.b) (hs r hr) (by omega)]
  · rcases hk with hk | hk
    · simp only [hk]
      simp
      rw [hT, Bool.true_and]
      exact has_or (i := d.a) hs (by omega)
    · simp only [hk]
      simp
      refine all_congr fun r hr => ?_
      rw [has_setR (i := d.a) (hs r hr) (by omega)]
  · have hu := used_at x.types.length p.routes (by have := hp.routes; omega) ha
    rcases hk with hk | hk
    · simp only [hk, hu]
      simp
    · simp only [hk, hu]
      simp
theorem holds29_plain {x : Instance} {d : Decision} {p : Plan} (ho : x.orders.length ≤ 10) (h : knownR x d = 0) (hp : Plain x p) : holds29R d p = holdsP d p := by
  have hs : ∀ r ∈ p.routes, smallV r := fun r hr => hp.small ho hr
  have hT : (p.routes.all fun _ => true) = true := by simp
  unfold holds29R holdsP kind29R routeOk forbidsR servedR
  rcases known_spec h with ⟨hk, ha, hb, _⟩ | ⟨hk, ha⟩ | ⟨hk, ha, _⟩
  · rcases hk with hk | hk
    · simp only [hk]
      simp
      refine all_congr fun r hr => ?_
      rw [has_set (hs r hr) ha.1, has_set (hs r hr) hb.1]
      cases hasV r d.a <;> cases hasV r d.b <;> rfl
    · simp only [hk]
      simp
      refine all_congr fun r hr => ?_
      rw [has_set (hs r hr) ha.1, has_set (hs r hr) hb.1]
  · rcases hk with hk | hk
    · simp only [hk]
      simp
      rw [hT, Bool.true_and]
      refine any_congr fun r hr => ?_
      rw [has_set (hs r hr) ha.1]
    · simp only [hk]
      simp
      rw [hT, Bool.true_and, ← List.not_any_eq_all_not]
      congr 1
      refine any_congr fun r hr => ?_
      rw [has_set (hs r hr) ha.1]
  · rcases hk with hk | hk
    · simp only [hk]
      simp
    · simp only [hk]
      simp
theorem must_has {x : Instance} {l : List Decision} (ho : x.orders.length ≤ 10) {i : Int} (hi : 0 ≤ i ∧ i < (x.orders.length : Int)) : hasR (mustN x l x.orders.length : Nat) i = mustB x l i.toNat := by
  rw [hasR_hasN (by omega), hasN_nat, mustN_bit]
  have : decide (i.toNat < x.orders.length) = true := by simp; omega
  rw [this]; rfl
theorem clash_same {x : Instance} {l : List Decision} (ho : x.orders.length ≤ 10) (hl : ∀ d ∈ l, knownR x d = 0) : clashG x l (hasR (mustN x l x.orders.length : Nat)) = clashG x l (fun i => mustB x l i.toNat) := by
  unfold clashG
  refine any_congr fun a ha => ?_
  have h := known_spec (hl a ha)
  have e1 : (a.kind == 6 && hasR (mustN x l x.orders.length : Nat) a.a) = (a.kind == 6 && mustB x l a.a.toNat) := by
    by_cases hk : a.kind = 6
    · rw [must_has ho (by rcases h with h | h | h <;> omega)]
    · have : (a.kind == 6) = false := by simpa using hk
      rw [this]; rfl
  rw [e1]
  congr 1
  refine any_congr fun b hb => ?_
  unfold againstG
  split
  · rename_i hk
    have hk1 : a.kind = 1 := by simp at hk; exact hk.1
    rw [must_has ho (by rcases h with h | h | h <;> omega), must_has ho (by rcases h with h | h | h <;> omega)]
  · rfl
theorem refOk_of {x : Instance} {a : Decision} (h : knownR x a = 0) : refOk x a := by
  rcases known_spec h with h | h | h
  · exact ⟨fun _ => ⟨h.2.1, h.2.2.1.1, h.2.2.1.2⟩, fun e => by omega, fun e => by omega⟩
  · exact ⟨fun e => by omega, fun _ => h.2, fun e => by omega⟩
  · exact ⟨fun e => by omega, fun e => by omega, fun _ => h.2.1⟩
end Go.Proofs.Ytjlbikpgjejkjaa.Dec
