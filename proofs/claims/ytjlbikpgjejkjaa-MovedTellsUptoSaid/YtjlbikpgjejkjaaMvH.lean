/- MovedTells -/
import Derived.Test.YtjlbikpgjejkjaaMvG
import Derived.Test.YtjlbikpgjejkjaaMvD
set_option linter.unusedSimpArgs false
set_option linter.unusedVariables false
namespace Go.Proofs.Ytjlbikpgjejkjaa.Mv
open Go.Aw Go.Aw.D Go.Proofs Ty
set_option maxRecDepth 100000

theorem sameB_of {x : Instance} (h : InB x) : SameB x := ⟨h.places, h.arcs, h.arc, h.types, fun t ht => (h.type t ht).2, h.orders, fun o ho => (h.order o ho).2, h.apart, h.before⟩
theorem sameB_ch {f : Order → Int → Order} (hf : ∀ o n, (f o n).load = o.load) {x : Instance} {p : Plan} (h : InB x) : SameB (chR f x p) := by
  unfold chR
  by_cases hw : (wrongR x p != 0) = true
  · rw [if_pos hw]
    exact ⟨by decide, by decide, by decide, by decide, by decide, by decide, by decide, by decide, by decide⟩
  · rw [if_neg hw]
    have hl := kindsR_len (x := x) (p := p) (by simpa using hw)
    have hs := sameB_of h
    refine ⟨hs.places, hs.arcs, hs.arc, hs.types, hs.cap, ?_, ?_, hs.apart, hs.before⟩
    · show (chL f x.orders (kindsR x p)).length ≤ _
      rw [chL_len hl]; exact hs.orders
    · intro o ho
      have ho : o ∈ chL f x.orders (kindsR x p) := ho
      obtain ⟨k, hk⟩ := List.mem_iff_getElem?.1 ho
      have hlt := (List.getElem?_eq_some_iff.1 hk).1
      rw [chL_len hl] at hlt
      obtain ⟨o', ho'⟩ := getIn hlt
      obtain ⟨n, hn⟩ := getIn (show k < (kindsR x p).length by omega)
      rw [chL_get ho' hn] at hk
      injection hk with hk
      rw [← hk, hf]
      exact hs.load o' (List.mem_of_getElem? ho')
theorem tellsLaw_c (x : Instance) (p : Plan) (hx : bInstance 1048576 x) (hp : bPlan 1048576 p) :
    PC Try.prog 4 [.agg (encInstance x), .agg (encPlan p)] (.v (.bool true)) := by
  have hB := inB_of hx
  have hI := NC.pc (check_c x hB)
  have ho : x.orders.length ≤ 1048576 := hx.2.2.1.1
  have bp := planB_of hp
  have S1 := Same_c (chR nowO x p) (sameB_ch (f := nowO) (fun _ _ => rfl) hB)
  have S2 := Same_c (chR lastO x p) (sameB_ch (f := lastO) (fun _ _ => rfl) hB)
  refine PC.body (c := Try.f4.body.getD .skip) (fun _ => false) mixed Try.func4 rfl (by kernel_rfl) ?_
  unfold Try.f4
  simp only [Option.getD_some]
  simp only [go_sem]
  refine PC.use hI ?_
  simp only [go_sem]
  refine ⟨_, fun _ => (few_c p bp.routes).q rfl, ?_⟩
  simp only [go_sem]
  refine acond_i (fun hb => ?_) (fun hb => ?_)
  · simp only [go_sem]
    refine PC.use awake_c ?_
    simp only [go_sem]
    exact .refl _
  clear hb
  simp only [go_sem]
  refine PC.use (Kinds_c x p ho bp.routes bp.visits) ?_
  simp only [go_sem]
  refine PC.use (kinds_c x p ho bp.routes bp.visits) ?_
  simp only [go_sem]
  refine acond_i (fun hb => by simp at hb) (fun hb => ?_)
  clear hb
  have hkl : (kindsR x p).length ≤ 1048576 := by
    cases h : (wrongR x p != 0) with
    | true => rw [kinds_nil (by simpa using h)]; simp
    | false => rw [kindsR_len h]; exact ho
  generalize hks : kindsR x p = ks at hkl
  simp only [go_sem]
  refine ⟨fun ρ _ => ∃ k : Nat, k ≤ ks.length ∧ ρ 2 = .rp (encInstance x) 0 ∧ ρ 3 = .rp (encPlan p) 0 ∧ ρ 5 = .sl (ks.map encInt) ∧ ρ 7 = .sl (ks.map encInt) ∧ ρ 9 = int k, fun ρ _ => ks.length - natOf (ρ 9), ⟨0, Nat.zero_le _, rfl, rfl, rfl, rfl, rfl⟩, ?_⟩
  rintro ρ H ⟨k, hk, h2, h3, h5, h7, h9⟩
  simp only [go_sem, h2, h3, h5, h7, h9]
  refine acond_i (fun hlt => ?_) (fun hge => ?_)
  · have hlt := le_of_lt_b hlt
    obtain ⟨n, hn⟩ := getIn hlt
    have b1 := inB hlt
    simp only [go_sem]
    refine adraw_q (by rfl) (by kernel_rfl) ?_
    simp only [go_sem, h2, h3, h5, h7, h9, getD_map hn, b1]
    refine acond_i (fun hb => by simp at hb) (fun _ => ?_)
    simp only [go_sem, h2, h3, h5, h7, h9, wrapS (show k ≤ 4611686018427387904 by omega)]
    exact ⟨⟨k + 1, hlt, rfl⟩, by simp only [natOf_int]; omega⟩
  · clear h5 h7 h9 hge
    simp only [go_sem, h2, h3]
    refine PC.use (With_c x p ho bp.routes bp.visits) ?_
    simp only [go_sem, h2, h3]
    refine anew_i fun j1 hj1 => ?_
    simp only [go_sem, h2, h3]
    refine wputE_n (updH_same _ _ _) (by simp [encInstance_len]) ?_
    simp only [go_sem, h2, h3, encInstance_len]
    generalize hG : updH (updH H j1 _) j1 _ = H1
    have R1 : H1 j1 = some ⟨30, 6, [encInstance (chR nowO x p)]⟩ := by rw [← hG, updH_same]
    clear hG hj1
    refine PC.use (With46_c x p ho bp.routes bp.visits) ?_
    simp only [go_sem, h2, h3]
    refine anew_i fun j2 hj2 => ?_
    have n12 : j1 ≠ j2 := ne_new R1 hj2
    simp only [go_sem, h2, h3]
    refine wputE_n (updH_same _ _ _) (by simp [encInstance_len]) ?_
    simp only [go_sem, h2, h3, encInstance_len]
    generalize hG : updH (updH H1 j2 _) j2 _ = H2
    have R2 : H2 j2 = some ⟨30, 6, [encInstance (chR nowO x p)]⟩ := by rw [← hG, updH_same]
    have R1 : H2 j1 = some ⟨30, 6, [encInstance (chR nowO x p)]⟩ := by rw [← hG, updH_ne _ _ _ _ n12, updH_ne _ _ _ _ n12]; exact R1
    clear hG hj2
    refine PC.use (Last_c x p ho bp.routes bp.visits) ?_
    simp only [go_sem, h2, h3]
    refine anew_i fun j3 hj3 => ?_
    have n13 : j1 ≠ j3 := ne_new R1 hj3
    have n23 : j2 ≠ j3 := ne_new R2 hj3
    simp only [go_sem, h2, h3]
    refine wputE_n (updH_same _ _ _) (by simp [encInstance_len]) ?_
    simp only [go_sem, h2, h3, encInstance_len]
    generalize hG : updH (updH H2 j3 _) j3 _ = H3
    have R3 : H3 j3 = some ⟨30, 6, [encInstance (chR lastO x p)]⟩ := by rw [← hG, updH_same]
    have R1 : H3 j1 = some ⟨30, 6, [encInstance (chR nowO x p)]⟩ := by rw [← hG, updH_ne _ _ _ _ n13, updH_ne _ _ _ _ n13]; exact R1
    have R2 : H3 j2 = some ⟨30, 6, [encInstance (chR nowO x p)]⟩ := by rw [← hG, updH_ne _ _ _ _ n23, updH_ne _ _ _ _ n23]; exact R2
    clear hG hj3
    refine PC.use (Last46_c x p ho bp.routes bp.visits) ?_
    simp only [go_sem, h2, h3]
    refine anew_i fun j4 hj4 => ?_
    have n14 : j1 ≠ j4 := ne_new R1 hj4
    have n24 : j2 ≠ j4 := ne_new R2 hj4
    have n34 : j3 ≠ j4 := ne_new R3 hj4
    simp only [go_sem, h2, h3]
    refine wputE_n (updH_same _ _ _) (by simp [encInstance_len]) ?_
    simp only [go_sem, h2, h3, encInstance_len]
    generalize hG : updH (updH H3 j4 _) j4 _ = H4
    have R4 : H4 j4 = some ⟨30, 6, [encInstance (chR lastO x p)]⟩ := by rw [← hG, updH_same]
    have R1 : H4 j1 = some ⟨30, 6, [encInstance (chR nowO x p)]⟩ := by rw [← hG, updH_ne _ _ _ _ n14, updH_ne _ _ _ _ n14]; exact R1
    have R2 : H4 j2 = some ⟨30, 6, [encInstance (chR nowO x p)]⟩ := by rw [← hG, updH_ne _ _ _ _ n24, updH_ne _ _ _ _ n24]; exact R2
    have R3 : H4 j3 = some ⟨30, 6, [encInstance (chR lastO x p)]⟩ := by rw [← hG, updH_ne _ _ _ _ n34, updH_ne _ _ _ _ n34]; exact R3
    clear hG hj4
    simp only [go_sem, R1, R2, R3, R4, encInstance_len]
    refine ⟨_, fun _ => S1.q rfl, ?_⟩
    simp only [go_sem, R1, R2, R3, R4, encInstance_len]
    refine ⟨_, fun _ => S2.q rfl, ?_⟩
    simp only [go_sem]
    refine ⟨_, fun _ => awake_c.q rfl, ?_⟩
    simp only [go_sem]
    refine convB ?_
    simp
end Go.Proofs.Ytjlbikpgjejkjaa.Mv
