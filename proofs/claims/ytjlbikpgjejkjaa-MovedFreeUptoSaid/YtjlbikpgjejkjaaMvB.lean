/- moved.Kinds: the plain law of what it computes. -/
import Derived.Test.YtjlbikpgjejkjaaMvA
set_option linter.unusedSimpArgs false
set_option linter.unusedVariables false
namespace Go.Proofs.Ytjlbikpgjejkjaa.Mv
open Go.Aw Go.Aw.D Go.Proofs Ty
set_option maxRecDepth 100000

/-- the last route that serves an order, or -1 -/
def lastI (l : List Route) (o : Int) : Int := l.zipIdx.foldl (fun a r => if servesR r.1 o = true then (r.2 : Int) else a) (-1)
theorem lastI_app (l : List Route) (r : Route) (o : Int) : lastI (l ++ [r]) o = if servesR r o = true then (l.length : Int) else lastI l o := by
  unfold lastI
  rw [List.zipIdx_append, List.foldl_append]
  simp
theorem snoc_ind {α : Type} {P : List α → Prop} (h0 : P []) (h1 : ∀ l x, P l → P (l ++ [x])) (l : List α) : P l := by
  have : ∀ l : List α, P l.reverse := fun l => by
    induction l with
    | nil => exact h0
    | cons x l ih => rw [List.reverse_cons]; exact h1 _ _ ih
  have h := this l.reverse
  rwa [List.reverse_reverse] at h
def cntS (l : List Route) (o : Int) : Nat := l.countP fun r => servesR r o
theorem cntS_app (l : List Route) (r : Route) (o : Int) : cntS (l ++ [r]) o = cntS l o + (if servesR r o = true then 1 else 0) := by
  unfold cntS
  rw [List.countP_append, List.countP_singleton]
theorem lastI_lt (l : List Route) (o : Int) : -1 ≤ lastI l o ∧ lastI l o < (l.length : Int) := by
  induction l using snoc_ind with
  | h0 => simp [lastI]
  | h1 l r ih =>
    rw [lastI_app, List.length_append]
    simp only [List.length_cons, List.length_nil]
    split <;> omega
theorem lastI_none (l : List Route) (o : Int) : lastI l o = -1 ↔ cntS l o = 0 := by
  induction l using snoc_ind with
  | h0 => simp [lastI, cntS]
  | h1 l r ih =>
    rw [lastI_app, cntS_app]
    split
    · omega
    · rw [ih]; omega
/-- the last route that serves an order: its type is the order's, if there is no other -/
theorem lastI_kind (l : List Route) (o : Int) (h : cntS l o ≤ 1) : (0 ≤ lastI l o → ∃ r, l[(lastI l o).toNat]? = some r ∧ r.type = kindR l o) ∧ (¬ 0 ≤ lastI l o → kindR l o = -1) := by
  induction l using snoc_ind with
  | h0 => simp [lastI, kindR]
  | h1 l r ih =>
    rw [lastI_app]
    rw [cntS_app] at h
    by_cases hs : servesR r o = true
    · rw [if_pos hs] at h ⊢
      refine ⟨fun _ => ⟨r, by simp, ?_⟩, fun h => by omega⟩
      have h0 : ∀ r ∈ l, servesR r o = false := fun r hr => by
        have : cntS l o = 0 := by omega
        have := List.countP_eq_zero.1 this r hr
        simpa using this
      exact (kindR_hit (l := l ++ [r]) (k := l.length) (by simpa using h0) (by simp) hs).symm
    · rw [if_neg hs] at h ⊢
      have hf : servesR r o = false := by simpa using hs
      have hk : kindR (l ++ [r]) o = kindR l o := by
        unfold kindR
        rw [List.find?_append]
        cases l.find? fun x => servesR x o <;> simp [List.find?, hf]
      rw [hk]
      obtain ⟨i1, i2⟩ := ih (by omega)
      refine ⟨fun h => ?_, i2⟩
      obtain ⟨r', h1, h2⟩ := i1 h
      exact ⟨r', by rw [List.getElem?_append_left (List.getElem?_eq_some_iff.1 h1).1]; exact h1, h2⟩
def listL (n : Nat) (l : List Route) : List Int := (List.range n).map fun o : Nat => lastI l o
def twiceL (n : Nat) (l : List Route) : Bool := (List.range n).any fun o : Nat => decide (cntS l o > 1)
theorem listL_len (n : Nat) (l : List Route) : (listL n l).length = n := by simp [listL]
theorem listL_get {n : Nat} (l : List Route) {o : Nat} (h : o < n) : (listL n l)[o]? = some (lastI l o) := by simp [listL, h]
def withV (r : Route) (vs : List Visit) : Route := { r with visits := vs }
theorem serves_withV (r : Route) (vs : List Visit) (v : Visit) (o : Int) : servesR (withV r (vs ++ [v])) o = (servesR (withV r vs) o || v.order == o) := by
  simp [servesR, withV, List.any_append]
theorem listL_nil (n : Nat) (l : List Route) (r : Route) : listL n (l ++ [withV r []]) = listL n l := by
  unfold listL
  refine List.map_congr_left fun o _ => ?_
  rw [lastI_app]; rfl
theorem twiceL_nil (n : Nat) (l : List Route) (r : Route) : twiceL n (l ++ [withV r []]) = twiceL n l := by
  unfold twiceL
  refine any_congr fun o _ => ?_
  rw [cntS_app]; rfl
theorem listL_step {n : Nat} (l : List Route) (r : Route) (vs : List Visit) (v : Visit) (h : 0 ≤ v.order ∧ v.order < (n : Int)) :
    listL n (l ++ [withV r (vs ++ [v])]) = (listL n (l ++ [withV r vs])).set v.order.toNat (l.length : Int) := by
  apply List.ext_getElem?
  intro o
  by_cases ho : o < n
  · rw [listL_get _ ho, List.getElem?_set, lastI_app, serves_withV]
    by_cases e : v.order.toNat = o
    · have e2 : (v.order == (o : Int)) = true := by simp; omega
      rw [e2, Bool.or_true, if_pos rfl, if_pos e, if_pos (by rw [listL_len]; omega)]
    · have e2 : (v.order == (o : Int)) = false := by simp; omega
      rw [if_neg e, listL_get _ ho, lastI_app, e2, Bool.or_false]
  · rw [List.getElem?_eq_none (by rw [listL_len]; omega), List.getElem?_eq_none (by rw [List.length_set, listL_len]; omega)]
theorem twiceL_step {n : Nat} (l : List Route) (r : Route) (vs : List Visit) (v : Visit) (h : 0 ≤ v.order ∧ v.order < (n : Int)) :
    twiceL n (l ++ [withV r (vs ++ [v])]) = (twiceL n (l ++ [withV r vs]) || (lastI (l ++ [withV r vs]) v.order != -1 && lastI (l ++ [withV r vs]) v.order != (l.length : Int))) := by
  have hl := lastI_lt l v.order
  have hn := lastI_none l v.order
  have key : (lastI (l ++ [withV r vs]) v.order != -1 && lastI (l ++ [withV r vs]) v.order != (l.length : Int)) = (!servesR (withV r vs) v.order && decide (0 < cntS l v.order)) := by
    rw [lastI_app]
    cases hs : servesR (withV r vs) v.order with
    | true => simp
    | false =>
      simp only [Bool.not_false, Bool.true_and]
      rw [if_neg (by simp), Bool.eq_iff_iff]
      simp only [Bool.and_eq_true, bne_iff_ne, ne_eq, decide_eq_true_eq]
      omega
  rw [key]
  unfold twiceL
  rw [Bool.eq_iff_iff]
  simp only [Bool.or_eq_true, List.any_eq_true, List.mem_range, decide_eq_true_eq, Bool.and_eq_true, Bool.not_eq_true', cntS_app, serves_withV, Bool.or_eq_true]
  constructor
  · rintro ⟨o, ho, hc⟩
    by_cases e : v.order = (o : Int)
    · rw [e]
      cases hs : servesR (withV r vs) (o : Int) with
      | true => left; exact ⟨o, ho, by rw [hs] at hc ⊢; simpa using hc⟩
      | false => right; rw [hs] at hc; refine ⟨rfl, ?_⟩; have : (v.order == (o : Int)) = true := by simpa using e
                 rw [this] at hc; simp at hc; exact hc
    · left
      have : (v.order == (o : Int)) = false := by simpa using e
      rw [this] at hc
      exact ⟨o, ho, by simpa using hc⟩
  · rintro (⟨o, ho, hc⟩ | ⟨hs, hc⟩)
    · refine ⟨o, ho, ?_⟩
      cases hs : servesR (withV r vs) (o : Int) with
      | true => rw [hs] at hc; simpa using hc
      | false => rw [hs] at hc; simp at hc; split <;> omega
    · refine ⟨v.order.toNat, by omega, ?_⟩
      rw [Int.toNat_of_nonneg h.1, hs]
      simp
      exact hc
theorem times_cnt {l : List Route} (h : ∀ r ∈ l, 0 ≤ r.type) (o : Nat) : timesR l o = cntS l o := by
  unfold timesR cntS
  refine List.countP_congr fun r hr => ?_
  have := h r hr
  cases hs : servesR r (o : Int) with
  | true => simp [kindR, List.find?, hs, this]
  | false => simp [kindR, List.find?, hs]
end Go.Proofs.Ytjlbikpgjejkjaa.Mv
