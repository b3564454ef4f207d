/- decide: whether a plan fulfils decisions. -/
import Derived.Test.YtjlbikpgjejkjaaDecC
set_option linter.unusedSimpArgs false
set_option linter.unusedVariables false
namespace Go.Proofs.Ytjlbikpgjejkjaa.Dec
open Go.Aw Go.Aw.D Go.Proofs Ty
set_option maxRecDepth 100000

def orN (rs : List Int) : Int := rs.foldl (bitV .or .i64) 0
theorem foldl_take {α β : Type} {f : β → α → β} {b : β} {l : List α} {k : Nat} {x : α} (h : l[k]? = some x) : (l.take (k + 1)).foldl f b = f ((l.take k).foldl f b) x := by rw [take_succ h, List.foldl_append]; rfl
theorem orN_succ {l : List Int} {k : Nat} {x : Int} (h : l[k]? = some x) : orN (l.take (k + 1)) = bitV .or .i64 (orN (l.take k)) x := foldl_take h
def usedAt (us : List Int) (a : Int) : Int := if (decide (a ≥ 0) && decide (a < (us.length : Int))) = true then us.getD a.toNat 0 else 0
def kindR (d : Decision) (served : Bool) (n : Int) : Bool := if d.kind = 5 then served else if d.kind = 3 then decide (n ≤ d.n) else if d.kind = 4 then decide (n ≥ d.n) else true
def holdsR (d : Decision) (rs us : List Int) : Bool := rs.all (allowsR d) && kindR d (hasR (orN rs) d.a) (usedAt us d.a)
theorem holds_c (d : Decision) (rs us : List Int) (hl : rs.length ≤ 1048576) : PC Try.prog 67 [.agg (encDecision d), .sl (rs.map encInt), .sl (us.map encInt)] (boo (holdsR d rs us)) := by
  refine PC.body (c := Try.f67.body.getD .skip) (fun _ => false) mixed Try.func67 rfl (by kernel_rfl) ?_
  unfold Try.f67
  simp only [Option.getD_some]
  simp only [go_sem]
  refine ⟨fun ρ _ => ∃ k : Nat, k ≤ rs.length ∧ ρ 2 = .sl (us.map encInt) ∧ ρ 3 = .rp (encDecision d) 0 ∧ ρ 11 = .sl (rs.map encInt) ∧ ρ 12 = int rs.length ∧ ρ 13 = int k ∧ ρ 7 = int (orN (rs.take k)) ∧ ∀ r ∈ rs.take k, allowsR d r = true, fun ρ _ => rs.length - natOf (ρ 13), ⟨0, Nat.zero_le _, rfl, rfl, rfl, rfl, rfl, rfl, by simp⟩, ?_⟩
  rintro ρ H ⟨k, hk, h2, h3, h11, h12, h13, h7, hz⟩
  simp only [go_sem, h2, h3, h11, h12, h13, h7]
  refine acond_i (fun hlt => ?_) (fun hge => ?_)
  · have hlt := le_of_lt_b hlt
    obtain ⟨r, hr⟩ := getIn hlt
    have b1 := inB hlt
    simp only [go_sem, h2, h3, h11, h12, h13, h7, getD_map hr, b1]
    refine PC.use (allows_c d r) ?_
    simp only [go_sem, h2, h3, h11, h12, h13, h7]
    refine acond_i (fun hb => ?_) (fun hb => ?_)
    · simp only [go_sem]
      exact convB (by unfold holdsR; rw [all_hit hr (by simpa using hb)]; rfl)
    · simp only [go_sem, h2, h3, h11, h12, h13, h7, wrapS (show k ≤ 4611686018427387904 by omega)]
      exact ⟨⟨k + 1, hlt, rfl, by rw [orN_succ hr], take_all hr (by simpa using hb) hz⟩, by simp only [natOf_int]; omega⟩
  · have hge := eq_of_ge_b hk hge
    subst hge
    have hall : holdsR d rs us = kindR d (hasR (orN rs) d.a) (usedAt us d.a) := by unfold holdsR; rw [all_none hz]; rfl
    rw [List.take_length] at h7
    rw [hall]
    simp only [go_sem, h2, h3, h7]
    refine acond_i (fun hb => ?_) (fun hb => ?_)
    · have hr := hb
      simp only [Bool.and_eq_true, decide_eq_true_eq] at hr
      obtain ⟨u, hu⟩ := getIn (show d.a.toNat < us.length by omega)
      have e : usedAt us d.a = u := by unfold usedAt; rw [if_pos hb]; simp [List.getD, hu]
      simp only [go_sem, h2, h3, h7, getD_map hu]
      refine ⟨⟨by omega, by omega⟩, ?_⟩
      rw [e]
      repeat' (first | (refine PC.use (has_c _ _) ?_) | (refine ⟨_, fun _ => PC.q (has_c _ _) rfl, ?_⟩) | (refine ⟨_, PC.q (has_c _ _) rfl, ?_⟩) | (refine acond_i (fun hb => ?_) (fun hb => ?_)) | (simp only [go_sem, h2, h3, h7]))
      all_goals (refine convB ?_; unfold kindR; simp_all)
    · have e : usedAt us d.a = 0 := by unfold usedAt; rw [if_neg (by rw [hb]; simp)]
      simp only [go_sem, h2, h3, h7]
      rw [e]
      repeat' (first | (refine PC.use (has_c _ _) ?_) | (refine ⟨_, fun _ => PC.q (has_c _ _) rfl, ?_⟩) | (refine ⟨_, PC.q (has_c _ _) rfl, ?_⟩) | (refine acond_i (fun hb => ?_) (fun hb => ?_)) | (simp only [go_sem, h2, h3, h7]))
      all_goals (refine convB ?_; unfold kindR; simp_all)

abbrev iRow (l : List Int) : Row := ⟨3, 1, l.map encInt⟩
def setsR (l : List Route) : List Int := l.map fun r => (ordersV r.visits).1
def incR (us : List Int) (t : Int) : List Int := if (decide (t ≥ 0) && decide (t < (us.length : Int))) = true then us.set t.toNat (IntKind.i64.wrap (us.getD t.toNat 0 + 1)) else us
def usedR (n : Nat) (l : List Route) : List Int := l.foldl (fun us r => incR us r.type) (List.replicate n 0)
theorem incR_len (us : List Int) (t : Int) : (incR us t).length = us.length := by unfold incR; split <;> simp
theorem usedR_len (n : Nat) (l : List Route) : (usedR n l).length = n := by
  suffices ∀ (l : List Route) (us : List Int), (l.foldl (fun us r => incR us r.type) us).length = us.length from by
    have := this l (List.replicate n 0); simpa [usedR] using this
  intro l
  induction l with
  | nil => intro us; rfl
  | cons r l ih => intro us; rw [List.foldl_cons, ih, incR_len]
theorem usedR_succ {n : Nat} {l : List Route} {k : Nat} {r : Route} (h : l[k]? = some r) : usedR n (l.take (k + 1)) = incR (usedR n (l.take k)) r.type := foldl_take h
def HoldsR (x : Instance) (l : List Decision) (p : Plan) : Bool := l.all fun d => holdsR d (setsR p.routes) (usedR x.types.length p.routes)
theorem Holds_c (x : Instance) (l : List Decision) (p : Plan) (hx : x.types.length ≤ 1048576) (hl : l.length ≤ 1048576) (hp : p.routes.length ≤ 1048576) (hv : ∀ r ∈ p.routes, r.visits.length ≤ 1048576) :
    PC Try.prog 35 [.agg (encInstance x), .sl (l.map encDecision), .agg (encPlan p)] (boo (HoldsR x l p)) := by
  refine PC.body (c := Try.f35.body.getD .skip) (fun t => t == 7) mixed Try.func35 rfl (by kernel_rfl) ?_
  unfold Try.f35
  simp only [Option.getD_some]
  simp only [go_sem]
  refine anew_i fun j7 hj7 => ?_
  simp only [go_sem]
  refine ⟨by omega, ?_⟩
  refine anew_i fun j8 hj8 => ?_
  have hne : j7 ≠ j8 := ne_new (updH_same _ _ _) hj8
  simp only [go_sem]
  refine ⟨fun ρ H => ∃ k : Nat, k ≤ p.routes.length ∧ ρ 1 = .sl (l.map encDecision) ∧ ρ 20 = .sl (p.routes.map encRoute) ∧ ρ 21 = int p.routes.length ∧ ρ 22 = int k ∧ ∃ j7 j8, j7 ≠ j8 ∧ ρ 7 = .os j7 ∧ ρ 8 = .os j8 ∧ H j7 = some (iRow (setsR (p.routes.take k))) ∧ H j8 = some (iRow (usedR x.types.length (p.routes.take k))), fun ρ _ => p.routes.length - natOf (ρ 22), ⟨0, Nat.zero_le _, rfl, rfl, rfl, rfl, j7, j8, hne, rfl, rfl, ?_, ?_⟩, ?_⟩
  · rw [updH_ne _ _ _ _ hne, updH_same]; rfl
  · rw [updH_same]; simp [usedR, encInt]
  clear hj7 hj8 hne
  rintro ρ H ⟨k, hk, h1, h20, h21, h22, j7, j8, hne, h7, h8, H7, H8⟩
  simp only [go_sem, h1, h20, h21, h22, h7, h8]
  refine acond_i (fun hlt => ?_) (fun hge => ?_)
  · have hlt := le_of_lt_b hlt
    obtain ⟨r, hr⟩ := getIn hlt
    have b1 := inB hlt
    simp only [go_sem, h1, h20, h21, h22, h7, h8, getD_map hr, b1]
    refine anew_i fun j hj => ?_
    have hj7 : j7 ≠ j := ne_new H7 hj
    have hj8 : j8 ≠ j := ne_new H8 hj
    simp only [go_sem, h1, h20, h21, h22, h7, h8, getD_map hr, b1]
    refine wputE_n (updH_same _ _ _) (by simp [encRoute_len]) ?_
    simp only [go_sem, h1, h20, h21, h22, h7, h8, getD_map hr, b1]
    refine PC.use (orders_c r (hv r (List.mem_of_getElem? hr))) ?_
    simp only [go_sem, h1, h20, h21, h22, h7, h8, getD_map hr, b1]
    refine wappE_i (r := iRow (setsR (p.routes.take k))) (by rw [updH_ne _ _ _ _ hj7, updH_ne _ _ _ _ hj7]; exact H7) ⟨rfl, rfl⟩ (by simp only [go_sem]) (by simp only [setsR, List.length_map, List.length_take, List.length_cons, List.length_nil]; omega) (fun j' hj' => ?_)
    generalize hA : updH (updH H j _) j _ = HA at hj' ⊢
    have A7 : HA j7 = some (iRow (setsR (p.routes.take k))) := by rw [← hA, updH_ne _ _ _ _ hj7, updH_ne _ _ _ _ hj7]; exact H7
    have A8 : HA j8 = some (iRow (usedR x.types.length (p.routes.take k))) := by rw [← hA, updH_ne _ _ _ _ hj8, updH_ne _ _ _ _ hj8]; exact H8
    have Aj : HA j = some ⟨64, 4, [encRoute r]⟩ := by rw [← hA, updH_same]
    clear hA
    have e8 : j8 ≠ j' := ne_new A8 hj'
    have ej : j ≠ j' := ne_new Aj hj'
    generalize hB : updH (updH HA j7 none) j' _ = HB
    have B7 : HB j' = some (iRow (setsR (p.routes.take (k + 1)))) := by
      rw [← hB, updH_same, take_succ hr]; simp [setsR, encInt]
    have B8 : HB j8 = some (iRow (usedR x.types.length (p.routes.take k))) := by rw [← hB, updH_ne _ _ _ _ e8, updH_ne _ _ _ _ hne.symm]; exact A8
    have Bj : HB j = some ⟨64, 4, [encRoute r]⟩ := by rw [← hB, updH_ne _ _ _ _ ej, updH_ne _ _ _ _ hj7.symm]; exact Aj
    clear hB A7 A8 Aj
    simp only [go_sem, h1, h20, h21, h22, h7, h8, B7, B8, Bj]
    refine acond_joinL (fun ρ' H' => ρ' 1 = .sl (l.map encDecision) ∧ ρ' 20 = .sl (p.routes.map encRoute) ∧ ρ' 21 = int p.routes.length ∧ ρ' 22 = int k ∧ ρ' 7 = .os j' ∧ ρ' 8 = .os j8 ∧ H' j' = some (iRow (setsR (p.routes.take (k + 1)))) ∧ H' j8 = some (iRow (usedR x.types.length (p.routes.take (k + 1))))) ?_ fun K hK _ _ => acond_i (fun hb => ?_) (fun hb => ?_)
    · clear h1 h20 h21 h22 h7 h8 H7 H8 B7 B8 Bj
      rintro ρ H ⟨h1, h20, h21, h22, h7, h8, H7, H8⟩
      simp only [go_sem, h1, h20, h21, h22, h7, h8, wrapS (show k ≤ 4611686018427387904 by omega)]
      exact ⟨⟨k + 1, hlt, rfl, _, _, e8.symm, rfl, rfl, H7, H8⟩, by simp only [natOf_int]; omega⟩
    · have hb' := hb
      simp only [Bool.and_eq_true, decide_eq_true_eq, map_len] at hb'
      obtain ⟨u, hu⟩ := getIn (show r.type.toNat < (usedR x.types.length (p.routes.take k)).length by omega)
      simp only [go_sem, h1, h20, h21, h22, h7, h8, B7, B8, Bj, getD_map hu]
      refine ⟨⟨by omega, by omega⟩, by omega, ⟨by omega, by omega⟩, ?_⟩
      refine wputE_1 so3 B8 (by simp; omega) ?_
      simp only [go_sem]
      refine hK _ _ ⟨by simp only [go_sem, h1], by simp only [go_sem, h20], by simp only [go_sem, h21], by simp only [go_sem, h22], by simp only [go_sem, h7], by simp only [go_sem, h8], ?_, ?_⟩
      · rw [updH_ne _ _ _ _ e8.symm]; exact B7
      · rw [updH_same, usedR_succ hr]
        unfold incR
        rw [if_pos (by simpa using hb')]
        simp [encInt, List.getD, hu, List.map_set, setAt]
    · simp only [go_sem]
      refine hK _ _ ⟨by simp only [go_sem, h1], by simp only [go_sem, h20], by simp only [go_sem, h21], by simp only [go_sem, h22], by simp only [go_sem, h7], by simp only [go_sem, h8], B7, ?_⟩
      rw [B8, usedR_succ hr]
      unfold incR
      rw [if_neg (by rw [hb]; simp)]
  · have hge := eq_of_ge_b hk hge
    subst hge
    rw [List.take_length] at H7 H8
    simp only [go_sem, h1, h20, h21, h22, h7, h8]
    refine ⟨fun ρ H => ∃ k : Nat, k ≤ l.length ∧ ρ 7 = .os j7 ∧ ρ 8 = .os j8 ∧ ρ 53 = .sl (l.map encDecision) ∧ ρ 54 = int l.length ∧ ρ 55 = int k ∧ H j7 = some (iRow (setsR p.routes)) ∧ H j8 = some (iRow (usedR x.types.length p.routes)) ∧ ∀ d ∈ l.take k, holdsR d (setsR p.routes) (usedR x.types.length p.routes) = true, fun ρ _ => l.length - natOf (ρ 55), ⟨0, Nat.zero_le _, by simp only [go_sem, h7], by simp only [go_sem, h8], rfl, rfl, rfl, H7, H8, by simp⟩, ?_⟩
    clear h1 h20 h21 h22 h7 h8 H7 H8 hk
    rintro ρ H ⟨k, hk, h7, h8, h53, h54, h55, H7, H8, hz⟩
    simp only [go_sem, h7, h8, h53, h54, h55]
    refine acond_i (fun hlt => ?_) (fun hge => ?_)
    · have hlt := le_of_lt_b hlt
      obtain ⟨d, hd⟩ := getIn hlt
      have b1 := inB hlt
      simp only [go_sem, h7, h8, h53, h54, h55, getD_map hd, b1]
      refine anew_i fun j hj => ?_
      have hj7 : j7 ≠ j := ne_new H7 hj
      have hj8 : j8 ≠ j := ne_new H8 hj
      simp only [go_sem, h7, h8, h53, h54, h55, getD_map hd, b1]
      refine wputE_n (updH_same _ _ _) (by simp [encDecision_len]) ?_
      simp only [go_sem, h7, h8, h53, h54, h55, getD_map hd, b1]
      refine QCalls.use ⟨[.agg (encDecision d), .sl ((setsR p.routes).map encInt), .sl ((usedR x.types.length p.routes).map encInt)], .cons _ _ _ _ (.refl _) (.cons _ _ _ _ (.row _ _ _ (by rw [updH_ne _ _ _ _ hj7, updH_ne _ _ _ _ hj7]; exact H7) (ConvE.refl _)) (.cons _ _ _ _ (.row _ _ _ (by rw [updH_ne _ _ _ _ hj8, updH_ne _ _ _ _ hj8]; exact H8) (ConvE.refl _)) .nil)), holds_c d _ _ (by simpa [setsR] using hp), rfl⟩ ?_
      simp only [go_sem, h7, h8, h53, h54, h55]
      refine acond_i (fun hb => ?_) (fun hb => ?_)
      · simp only [go_sem]
        exact convB (all_hit hd (by simpa using hb)).symm
      · simp only [go_sem, h7, h8, h53, h54, h55, wrapS (show k ≤ 4611686018427387904 by omega)]
        exact ⟨⟨k + 1, hlt, rfl, by rw [updH_ne _ _ _ _ hj7, updH_ne _ _ _ _ hj7]; exact H7, by rw [updH_ne _ _ _ _ hj8, updH_ne _ _ _ _ hj8]; exact H8, take_all hd (by simpa using hb) hz⟩, by simp only [natOf_int]; omega⟩
    · have hge := eq_of_ge_b hk hge
      subst hge
      simp only [go_sem]
      exact convB (all_none hz).symm
end Go.Proofs.Ytjlbikpgjejkjaa.Dec
