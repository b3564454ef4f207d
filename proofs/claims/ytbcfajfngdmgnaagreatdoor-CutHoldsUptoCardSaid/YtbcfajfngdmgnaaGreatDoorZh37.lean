/- Texts joined by a program: CuJ, CuK, CuL, CuM. -/
import Derived.Test.YtbcfajfngdmgnaaGreatDoorZh30
import Derived.Test.YtbcfajfngdmgnaaGreatDoorZh32
import Derived.Test.YtbcfajfngdmgnaaGreatDoorZh35
import Derived.Test.YtbcfajfngdmgnaaGreatDoorZh36

section
set_option linter.unusedSimpArgs false
set_option linter.unusedVariables false
namespace Go.Proofs.YtbcfajfngdmgnaaGreatDoor.Nu
open Go.Aw Go.Aw.D Go.Proofs Ty Go.Nu Go.So Go.Sb
set_option maxRecDepth 100000
def threeC (s : Nat) : Cut := ⟨1, s, 1⟩
def coverC (x : Instance) (d : Nat) (s : Nat) : Option Cut := if tripsP x d s > 0 then some ⟨2, s, tripsP x d s⟩ else none
def possP (x : Instance) (d : Nat) : List Cut := (threeL (allO x)).map threeC ++ (subsL (mustO x)).filterMap (coverC x d)
abbrev cutRow (l : List Cut) : Row := ⟨23, 3, l.map encCut⟩
theorem pop_bound {s n : Nat} (hs : s < 2 ^ n) : ∀ w, pop w s ≤ n := by
  intro w
  rcases Nat.lt_or_ge w n with h | h
  · exact Nat.le_trans (pop_le w s) (by omega)
  · have : pop w s = pop n s := by
      induction w with
      | zero => have : n = 0 := by omega
                subst this; rfl
      | succ w ih =>
        rcases (by omega : n ≤ w ∨ n = w + 1) with h2 | h2
        · rw [pop_more (Nat.lt_of_lt_of_le hs (Nat.pow_le_pow_right (by decide) h2)), ih h2]
        · rw [h2]
    rw [this]; exact pop_le n s
theorem allO_lt (x : Instance) : allO x < 2 ^ x.orders.length := suchN_lt _ _
theorem mustO_lt (x : Instance) : mustO x < 2 ^ x.orders.length := suchN_lt _ _
theorem possible_c (x : Instance) (d : Nat) (h : LoadsOk x d) (ht : x.types ≠ []) (hx : x.orders.length ≤ 10) : PC Tryz.prog 70 [.agg (encInstance x)] (.sl ((possP x d).map encCut)) := by
  have hpow : 2 ^ x.orders.length ≤ 2 ^ 10 := Nat.pow_le_pow_right (by decide) hx
  have ha := allO_lt x
  have hm := mustO_lt x
  have hpm : 2 ^ pop 64 (mustO x) ≤ 2 ^ 10 := Nat.pow_le_pow_right (by decide) (Nat.le_trans (pop_bound hm 64) hx)
  have hTl : (threeL (allO x)).length ≤ 1024 := by
    unfold threeL
    rw [List.length_map]
    refine Nat.le_trans (List.length_filter_le _ _) ?_
    rw [List.length_range]
    exact Nat.pow_le_pow_right (by decide) (Nat.le_trans (pop_bound ha 64) hx)
  have hSl : (subsL (mustO x)).length ≤ 1024 := by unfold subsL; rw [List.length_map, List.length_range]; exact hpm
  unfold possP
  refine PC.body (c := Tryz.f70.body.getD .skip) (fun t => t == 3) mixed Tryz.func70 rfl (by kernel_rfl) ?_
  unfold Tryz.f70
  simp only [Option.getD_some]
  simp only [go_sem]
  refine anew_i fun j hj => ?_
  simp only [go_sem]
  refine PC.use (all_c x (by omega)) ?_
  simp only [go_sem]
  refine PC.use (sized_c (allO x) (by omega)) ?_
  simp only [go_sem]
  generalize threeL (allO x) = T at *
  refine ⟨fun ρ H => ∃ (k : Nat) (j : Nat), k ≤ T.length ∧ ρ 1 = .rp (encInstance x) 0 ∧ ρ 19 = .sl (T.map fun x : Nat => encInt (x : Int)) ∧ ρ 20 = int (T.length : Nat) ∧ ρ 21 = int k ∧ ρ 3 = .os j ∧ H j = some (cutRow ((T.take k).map threeC)), fun ρ _ => T.length - natOf (ρ 21), ⟨0, j, Nat.zero_le _, by simp only [go_sem], by simp only [go_sem], by simp only [go_sem, List.length_map], (by simp only [go_sem]; rfl), by simp only [go_sem], updH_same _ _ _⟩, ?_⟩
  rintro ρ H ⟨k, j, hk, e1, e19, e20, e21, e3, R⟩
  simp only [go_sem, e1, e19, e20, e21, e3]
  refine acond_i (fun hlt => ?_) (fun hge => ?_)
  · have hlt := ltB hlt
    obtain ⟨s, hs⟩ := getIn hlt
    have b1 := inB hlt
    simp only [go_sem, e1, e19, e20, e21, e3, getD_map (f := fun x : Nat => encInt (x : Int)) hs, b1]
    refine wappE_i R ⟨rfl, rfl⟩ ⟨rfl, trivial⟩ (by simp; omega) (fun j' hj' => ?_)
    simp only [go_sem, e1, e19, e20, e21, e3, wrapS (show k ≤ 4611686018427387904 by omega)]
    refine ⟨⟨k + 1, j', hlt, rfl, rfl, ?_⟩, by simp only [natOf_int]; omega⟩
    rw [take_succ hs, List.map_append]
    exact row_appG rfl
  have hge := geB hk hge
  subst hge
  rw [List.take_length] at R
  simp only [go_sem, e1, e19, e20, e21, e3]
  refine PC.use (must_c x (by omega)) ?_
  simp only [go_sem, e1, e19, e20, e21, e3]
  refine PC.use (subsets_c (mustO x) (by omega) (by omega)) ?_
  simp only [go_sem, e1, e19, e20, e21, e3]
  generalize subsL (mustO x) = U at *
  refine ⟨fun ρ H => ∃ (k : Nat) (j : Nat), k ≤ U.length ∧ ρ 1 = .rp (encInstance x) 0 ∧ ρ 37 = .sl (U.map fun x : Nat => encInt (x : Int)) ∧ ρ 38 = int (U.length : Nat) ∧ ρ 39 = int k ∧ ρ 3 = .os j ∧ H j = some (cutRow (T.map threeC ++ (U.take k).filterMap (coverC x d))), fun ρ _ => U.length - natOf (ρ 39), ⟨0, j, Nat.zero_le _, by simp only [go_sem, e1, e19, e20, e21, e3], by simp only [go_sem, e1, e19, e20, e21, e3], by simp only [go_sem, List.length_map, e1, e19, e20, e21, e3], (by simp only [go_sem, e1, e19, e20, e21, e3]; rfl), by simp only [go_sem, e3], by simpa using R⟩, ?_⟩
  rintro ρ H ⟨k, j, hk, e1, e37, e38, e39, e3, R⟩
  simp only [go_sem, e1, e37, e38, e39, e3]
  refine acond_i (fun hlt => ?_) (fun hge => ?_)
  · have hlt := ltB hlt
    obtain ⟨s, hs⟩ := getIn hlt
    have b1 := inB hlt
    have hfl : ((U.take k).filterMap (coverC x d)).length ≤ k := Nat.le_trans (List.length_filterMap_le _ _) (by rw [List.length_take]; omega)
    simp only [go_sem, e1, e37, e38, e39, e3, getD_map (f := fun x : Nat => encInt (x : Int)) hs, b1]
    refine PC.use (tripsA_c x d s h ht) ?_
    simp only [go_sem, e1, e37, e38, e39, e3]
    refine acond_i (fun hb => ?_) (fun hb => ?_)
    · have hc : coverC x d s = some ⟨2, s, tripsP x d s⟩ := if_pos (by simpa using hb)
      simp only [go_sem, e1, e37, e38, e39, e3]
      refine wappE_i R ⟨rfl, rfl⟩ ⟨rfl, trivial⟩ (by simp only [List.length_map, List.length_append, List.length_cons, List.length_nil]; omega) (fun j' hj' => ?_)
      simp only [go_sem, e1, e37, e38, e39, e3, wrapS (show k ≤ 4611686018427387904 by omega)]
      refine ⟨⟨k + 1, j', hlt, rfl, rfl, ?_⟩, by simp only [natOf_int]; omega⟩
      have e : (U.take (k + 1)).filterMap (coverC x d) = (U.take k).filterMap (coverC x d) ++ [⟨2, s, tripsP x d s⟩] := by
        rw [take_succ hs, List.filterMap_append]
        simp only [List.filterMap_cons, hc, List.filterMap_nil]
      rw [e, ← List.append_assoc]
      exact row_appG rfl
    · have hc : coverC x d s = none := if_neg (by simpa using hb)
      simp only [go_sem, e1, e37, e38, e39, e3, wrapS (show k ≤ 4611686018427387904 by omega)]
      refine ⟨⟨k + 1, j, hlt, rfl, rfl, ?_⟩, by simp only [natOf_int]; omega⟩
      rw [R, take_succ hs, List.filterMap_append]
      simp only [List.filterMap_cons, hc, List.filterMap_nil, List.append_nil]
  · have hge := geB hk hge
    subst hge
    rw [List.take_length] at R
    simp only [go_sem, e1, e37, e38, e39, e3]
    exact .row _ _ _ R (ConvE.refl _)
def ltBr (a b : Broken) : Bool :=
  if valR b.by_ < valR a.by_ then true else if valR a.by_ < valR b.by_ then false else
  if a.cut.kind < b.cut.kind then true else if b.cut.kind < a.cut.kind then false else decide (a.cut.set < b.cut.set)
theorem rat_tri (x y : Rat) : x < y ∨ x = y ∨ y < x := by
  rcases (Rat.le_total : x ≤ y ∨ y ≤ x) with h | h
  · by_cases e : x = y
    · exact .inr (.inl e)
    · exact .inl (Rat.lt_of_le_of_ne h e)
  · by_cases e : x = y
    · exact .inr (.inl e)
    · exact .inr (.inr (Rat.lt_of_le_of_ne h fun h2 => e h2.symm))
theorem ltBr_iff {a b : Broken} : ltBr a b = true ↔ valR b.by_ < valR a.by_ ∨ (valR a.by_ = valR b.by_ ∧ (a.cut.kind < b.cut.kind ∨ (a.cut.kind = b.cut.kind ∧ a.cut.set < b.cut.set))) := by
  unfold ltBr
  rcases rat_tri (valR a.by_) (valR b.by_) with h | h | h
  · rw [if_neg (fun h2 => absurd (Std.lt_trans h h2) (Rat.lt_irrefl)), if_pos h]
    constructor
    · intro h2; cases h2
    · rintro (h2 | ⟨h2, _⟩)
      · exact absurd (Std.lt_trans h h2) Rat.lt_irrefl
      · rw [h2] at h; exact absurd h Rat.lt_irrefl
  · rw [if_neg (by rw [h]; exact Rat.lt_irrefl), if_neg (by rw [h]; exact Rat.lt_irrefl)]
    constructor
    · intro h2
      refine .inr ⟨h, ?_⟩
      split at h2
      · next h3 => exact .inl h3
      · next h3 =>
        split at h2
        · cases h2
        · next h4 => exact .inr ⟨by omega, of_decide_eq_true h2⟩
    · rintro (h2 | ⟨_, h2⟩)
      · rw [h] at h2; exact absurd h2 Rat.lt_irrefl
      · rcases h2 with h2 | ⟨h2, h3⟩
        · rw [if_pos h2]
        · rw [if_neg (by omega), if_neg (by omega)]; simpa using h3
  · rw [if_pos h]
    exact ⟨fun _ => .inl h, fun _ => rfl⟩
theorem ltBr_swo : SWO ltBr where
  asym a b h := by
    cases hb : ltBr b a with
    | false => rfl
    | true =>
      exfalso
      rw [ltBr_iff] at h hb
      rcases h with h | ⟨e, h⟩ <;> rcases hb with hb | ⟨e', hb⟩
      · exact absurd (Std.lt_trans h hb) Rat.lt_irrefl
      · rw [e'] at h; exact absurd h Rat.lt_irrefl
      · rw [e] at hb; exact absurd hb Rat.lt_irrefl
      · omega
  neg a b c h1 h2 := by
    cases h3 : ltBr a c with
    | false => rfl
    | true =>
      exfalso
      have h1' : ¬ ltBr a b = true := by rw [h1]; simp
      have h2' : ¬ ltBr b c = true := by rw [h2]; simp
      rw [ltBr_iff] at h3 h1' h2'
      have n1 : ¬ valR b.by_ < valR a.by_ := fun h => h1' (.inl h)
      have n2 : ¬ valR c.by_ < valR b.by_ := fun h => h2' (.inl h)
      have l1 : valR a.by_ ≤ valR b.by_ := Rat.not_lt.1 n1
      have l2 : valR b.by_ ≤ valR c.by_ := Rat.not_lt.1 n2
      rcases h3 with h3 | ⟨e, h3⟩
      · exact absurd h3 (Rat.not_lt.2 (Rat.le_trans l1 l2))
      · have e1 : valR a.by_ = valR b.by_ := Rat.le_antisymm l1 (e ▸ l2)
        have e2 : valR b.by_ = valR c.by_ := e1.symm.trans e
        have m1 : ¬ (a.cut.kind < b.cut.kind ∨ (a.cut.kind = b.cut.kind ∧ a.cut.set < b.cut.set)) := fun h => h1' (.inr ⟨e1, h⟩)
        have m2 : ¬ (b.cut.kind < c.cut.kind ∨ (b.cut.kind = c.cut.kind ∧ b.cut.set < c.cut.set)) := fun h => h2' (.inr ⟨e2, h⟩)
        omega
end Go.Proofs.YtbcfajfngdmgnaaGreatDoor.Nu
end

section
set_option linter.unusedSimpArgs false
set_option linter.unusedVariables false
namespace Go.Proofs.YtbcfajfngdmgnaaGreatDoor.Nu
open Go.Aw Go.Aw.D Go.Proofs Ty Go.Nu Go.So Go.Sb
set_option maxRecDepth 100000
def orI : List Int → Int
  | [] => 0
  | a :: l => if a = 0 then orI l else a
theorem or_c (l : List Int) (hl : l.length ≤ 1048576) : PC Tryz.prog 73 [.sl (l.map encInt)] (int (orI l)) := by
  refine PC.body (c := Tryz.f73.body.getD .skip) (fun _ => false) mixed Tryz.func73 rfl (by kernel_rfl) ?_
  unfold Tryz.f73
  simp only [Option.getD_some]
  simp only [go_sem]
  refine ⟨fun ρ H => ∃ (k : Nat), k ≤ l.length ∧ ρ 3 = int 0 ∧ ρ 6 = .sl (l.map encInt) ∧ ρ 7 = int (l.length : Nat) ∧ ρ 8 = int k ∧ orI l = orI (l.drop k), fun ρ _ => l.length - natOf (ρ 8), ⟨0, Nat.zero_le _, by simp only [go_sem], by simp only [go_sem], by simp only [go_sem, List.length_map], (by simp only [go_sem]; rfl), rfl⟩, ?_⟩
  rintro ρ H ⟨k, hk, e3, e6, e7, e8, hz⟩
  simp only [go_sem, e3, e6, e7, e8]
  refine acond_i (fun hlt => ?_) (fun hge => ?_)
  · have hlt := ltB hlt
    obtain ⟨u, hu⟩ := getIn hlt
    have b1 := inB hlt
    rw [drop_at hu, orI] at hz
    simp only [go_sem, e3, e6, e7, e8, getD_map hu, b1]
    refine acond_i (fun hb => ?_) (fun hb => ?_)
    · simp only [go_sem, e3, e6, e7, e8]
      exact cI (by rw [hz, if_neg (by simpa using hb)])
    · rw [if_pos (by simpa using hb)] at hz
      simp only [go_sem, e3, e6, e7, e8, wrapS (show k ≤ 4611686018427387904 by omega)]
      exact ⟨⟨k + 1, hlt, rfl, hz⟩, by simp only [natOf_int]; omega⟩
  · have hge := geB hk hge
    subst hge
    simp only [go_sem, e3, e6, e7, e8]
    exact cI (by rw [hz, List.drop_length]; rfl)
def okBr (b : Broken) : Prop := rightR b.by_ = true
theorem find1_c (a b : Broken) (ha : okBr a) (hb : okBr b) : ∃ n : Int, decide (n < 0) = ltBr a b ∧ PC Tryz.prog 72 [.agg (encBroken a), .agg (encBroken b)] (int n) := by
  have sa := right_size' ha
  have sb := right_size' hb
  refine ⟨orI [cmpR b.by_ a.by_, cmpI a.cut.kind b.cut.kind, cmpI a.cut.set b.cut.set], ?_, ?_⟩
  · unfold okBr at ha hb
    have e : cmpR b.by_ a.by_ = cmpQ (valR b.by_) (valR a.by_) := by unfold cmpR; rw [ha, hb]; rfl
    rw [e]
    unfold ltBr cmpQ cmpI
    simp only [orI]
    by_cases h1 : valR b.by_ < valR a.by_
    · simp [h1]
    · by_cases h2 : valR a.by_ < valR b.by_
      · simp [h1, h2]
      · simp only [h1, h2, if_false]
        by_cases h3 : a.cut.kind < b.cut.kind
        · simp [h3]
        · by_cases h4 : b.cut.kind < a.cut.kind
          · simp [h3, h4]
          · simp only [h3, h4, if_false]
            by_cases h5 : a.cut.set < b.cut.set
            · simp [h5]
            · by_cases h6 : b.cut.set < a.cut.set
              · simp [h5, h6]
              · simp [h5, h6]
  ·
    refine PC.body (c := Tryz.f72.body.getD .skip) (fun _ => false) mixed Tryz.func72 rfl (by kernel_rfl) ?_
    unfold Tryz.f72
    simp only [Option.getD_some]
    simp only [go_sem]
    refine adraw_h (by kernel_rfl) ?_
    simp only [go_sem]
    refine ⟨_, (rCompare_c b.by_ a.by_ (by omega) (by omega)).q rfl, ?_⟩
    simp only [go_sem]
    refine ⟨_, (cmpI_c a.cut.kind b.cut.kind).q rfl, ?_⟩
    simp only [go_sem]
    refine ⟨_, (cmpI_c a.cut.set b.cut.set).q rfl, ?_⟩
    simp only [go_sem]
    refine PC.use (or_c [cmpR b.by_ a.by_, cmpI a.cut.kind b.cut.kind, cmpI a.cut.set b.cut.set] (by simp)) ?_
    simp only [go_sem]
    exact .refl _
theorem cmpBr : CmpOk 72 ltBr okBr := ⟨by kernel_rfl, find1_c⟩
def foundL (cols : List Column) (rates : List ByteArray) (l : List Cut) : List Broken := (l.filter fun c => decide (signR (brokenP c cols rates).1 > 0)).map fun c => ⟨c, (brokenP c cols rates).1⟩
def errC (cols : List Column) (rates : List ByteArray) (l : List Cut) : Option Int := (l.map fun c => (brokenP c cols rates).2).find? fun e => e != 0
def findP (x : Instance) (d : Nat) (cols : List Column) (rates : List ByteArray) : List Cut × Int :=
  if ((brokenP ⟨1, 0, 0⟩ cols rates).2 == 2 || (brokenP ⟨1, 0, 0⟩ cols rates).2 == 3) = true then ([], (brokenP ⟨1, 0, 0⟩ cols rates).2) else
  match errC cols rates (possP x d) with
  | some e => ([], e)
  | none => (((ssort ltBr (foundL cols rates (possP x d))).take 24).map Broken.cut, 0)
theorem poss_ok (x : Instance) (d : Nat) (h : LoadsOk x d) (hx : x.orders.length ≤ 10) : ∀ c ∈ possP x d, okCut c ∧ c.set < 1024 := by
  intro c hc
  have hpow : 2 ^ x.orders.length ≤ 2 ^ 10 := Nat.pow_le_pow_right (by decide) hx
  have ha := allO_lt x
  have hm := mustO_lt x
  unfold possP at hc
  rcases List.mem_append.1 hc with hc | hc
  · obtain ⟨s, hs, rfl⟩ := List.mem_map.1 hc
    unfold threeL at hs
    obtain ⟨p, _, rfl⟩ := List.mem_map.1 hs
    have := dep_le 64 (allO x) p
    unfold threeC okCut
    simp only
    omega
  · obtain ⟨s, hs, he⟩ := List.mem_filterMap.1 hc
    unfold subsL at hs
    obtain ⟨p, _, rfl⟩ := List.mem_map.1 hs
    have := dep_le 64 (mustO x) p
    unfold coverC at he
    split at he
    · next hp =>
      cases he
      have htr : tripsP x d (dep 64 (mustO x) p : Nat) ≤ 63001 := by
        unfold tripsP
        split
        · omega
        · next hst =>
          split
          · omega
          · have hex : (dep 64 (mustO x) p) < 2 ^ x.orders.length := by omega
            exact (dimF_in h (memS_in hex (by omega)) (memU_len _ _) d (Nat.le_refl _)).2
      unfold okCut
      simp only
      omega
    · cases he
theorem foundL_snoc (cols : List Column) (rates : List ByteArray) (l : List Cut) (c : Cut) : foundL cols rates (l ++ [c]) = foundL cols rates l ++ if signR (brokenP c cols rates).1 > 0 then [⟨c, (brokenP c cols rates).1⟩] else [] := by
  unfold foundL
  rw [List.filter_append, List.map_append]
  congr 1
  by_cases h : signR (brokenP c cols rates).1 > 0
  · simp [h]
  · simp [h]
theorem broken_right {c : Cut} {cols : List Column} {rates : List ByteArray} (h : (brokenP c cols rates).2 = 0) : rightR (brokenP c cols rates).1 = true := by
  unfold brokenP at h ⊢
  split at h
  · cases h
  · next h1 =>
    rw [if_neg h1]
    split at h
    · next h2 => exact absurd h h2
    · next h2 =>
      rw [if_neg h2]
      split at h
      · next h3 => exact absurd h h3
      · next h3 =>
        rw [if_neg h3]
        split
        · exact zero_right
        · exact over_right (times_right (by simpa using h2)) (by simpa using h3)
structure ColsOk (cols : List Column) (rates : List ByteArray) : Prop where
  set : ∀ c ∈ cols, 0 ≤ c.set ∧ c.set ≤ 9223372036854775807
  cl : cols.length ≤ 1048576
  rl : rates.length ≤ 1048576
  rs : ∀ s ∈ rates, s.size ≤ 1048576
theorem broken_a {c : Cut} {cols : List Column} {rates : List ByteArray} (h : ColsOk cols rates) (hc : okCut c) : PC Tryz.prog 15 [.agg (encCut c), .sl (cols.map encColumn), .sl (rates.map Go.Aw.D.encStr)] (.tup [str (brokenP c cols rates).1, int (brokenP c cols rates).2]) :=
  broken_c c cols rates hc h.set h.cl h.rl h.rs
theorem poss_len (x : Instance) (d : Nat) (hx : x.orders.length ≤ 10) : (possP x d).length ≤ 2048 := by
  have hpow : 2 ^ x.orders.length ≤ 2 ^ 10 := Nat.pow_le_pow_right (by decide) hx
  have hTl : (threeL (allO x)).length ≤ 1024 := by
    unfold threeL
    rw [List.length_map]
    refine Nat.le_trans (List.length_filter_le _ _) ?_
    rw [List.length_range]
    exact Nat.pow_le_pow_right (by decide) (Nat.le_trans (pop_bound (allO_lt x) 64) hx)
  have hSl : (subsL (mustO x)).length ≤ 1024 := by
    unfold subsL
    rw [List.length_map, List.length_range]
    exact Nat.pow_le_pow_right (by decide) (Nat.le_trans (pop_bound (mustO_lt x) 64) hx)
  have := List.length_filterMap_le (coverC x d) (subsL (mustO x))
  unfold possP
  rw [List.length_append, List.length_map]
  omega
theorem ssort_len {α : Type} (lt : α → α → Bool) (l : List α) : (ssort lt l).length = l.length := by
  have : ∀ (l acc : List α), (l.foldl (fun a x => ins lt x a) acc).length = acc.length + l.length := by
    intro l
    induction l with
    | nil => intro acc; simp
    | cons x l ih => intro acc; rw [List.foldl_cons, ih, (ins_perm lt x acc).length_eq, List.length_cons, List.length_cons]; omega
  unfold ssort
  rw [this l []]; simp
set_option maxHeartbeats 2000000 in
theorem find_c (x : Instance) (d : Nat) (cols : List Column) (rates : List ByteArray) (h : LoadsOk x d) (ht : x.types ≠ []) (hx : x.orders.length ≤ 10) (hc : ColsOk cols rates) :
    PC Tryz.prog 19 [.agg (encInstance x), .sl (cols.map encColumn), .sl (rates.map Go.Aw.D.encStr)] (.tup [.sl ((findP x d cols rates).1.map encCut), int (findP x d cols rates).2]) := by
  have hpl := poss_len x d hx
  have hpo := poss_ok x d h hx
  refine PC.body (c := Tryz.f19.body.getD .skip) (fun t => t == 10 || t == 15 || t == 61) mixed Tryz.func19 rfl (by kernel_rfl) ?_
  unfold Tryz.f19
  simp only [Option.getD_some]
  simp only [go_sem]
  refine PC.use (broken_a hc (c := ⟨1, 0, 0⟩) (by unfold okCut; simp)) ?_
  unfold findP
  generalize brokenP ⟨1, 0, 0⟩ cols rates = B0
  simp only [go_sem]
  refine acond_i (fun hb => ?_) (fun hb => ?_)
  · rw [if_pos hb]
    simp only [go_sem]
    exact .refl _
  rw [if_neg (by rw [hb]; simp)]
  simp only [go_sem]
  refine anew_i fun j hj => ?_
  simp only [go_sem]
  refine PC.use (possible_c x d h ht hx) ?_
  simp only [go_sem]
  generalize possP x d = l at *
  refine ⟨fun ρ H => ∃ (k : Nat) (j : Nat), k ≤ l.length ∧ ρ 1 = .sl (cols.map encColumn) ∧ ρ 2 = .sl (rates.map Go.Aw.D.encStr) ∧ ρ 33 = .sl (l.map encCut) ∧ ρ 34 = int (l.length : Nat) ∧ ρ 35 = int k ∧ ρ 10 = .os j ∧ H j = some (brRow (foundL cols rates (l.take k))) ∧ ∀ c ∈ l.take k, (brokenP c cols rates).2 = 0, fun ρ _ => l.length - natOf (ρ 35), ⟨0, j, Nat.zero_le _, by simp only [go_sem], by simp only [go_sem], by simp only [go_sem], by simp only [go_sem, List.length_map], (by simp only [go_sem]; rfl), by simp only [go_sem], updH_same _ _ _, by simp⟩, ?_⟩
  rintro ρ H ⟨k, j, hk, e1, e2, e33, e34, e35, e10, R, hz⟩
  simp only [go_sem, e1, e2, e33, e34, e35, e10]
  refine acond_i (fun hlt => ?_) (fun hge => ?_)
  · have hlt := ltB hlt
    obtain ⟨c, hcl⟩ := getIn hlt
    have b1 := inB hlt
    have hco := hpo c (List.mem_of_getElem? hcl)
    have hfl : (foundL cols rates (l.take k)).length ≤ k := by
      unfold foundL
      rw [List.length_map]
      refine Nat.le_trans (List.length_filter_le _ _) ?_
      rw [List.length_take]; omega
    simp only [go_sem, e1, e2, e33, e34, e35, e10, getD_map hcl, b1]
    refine anew_i fun i hi0 => ?_
    have ne_j_i : j ≠ i := ne_new R hi0
    simp only [go_sem, e1, e2, e33, e34, e35, e10, R]
    refine wputE_n (updH_same _ _ _) (by simp [encCut_len]) ?_
    generalize hGi : updH (updH _ i _) i _ = HGi
    replace R := (congrFun hGi.symm j).trans ((updH_ne _ _ _ _ ne_j_i).trans ((updH_ne _ _ _ _ ne_j_i).trans R))
    have Ri : HGi i = some (⟨23, 3, [encCut c]⟩) := by rw [← hGi, updH_same]; rfl
    clear hGi hi0
    simp only [go_sem, e1, e2, e33, e34, e35, e10, Ri, R]
    refine PC.use (broken_a hc hco.1) ?_
    simp only [go_sem, e1, e2, e33, e34, e35, e10]
    refine acond_i (fun hb => ?_) (fun hb => ?_)
    · have he : errC cols rates l = some (brokenP c cols rates).2 := by
        unfold errC
        have hb : (brokenP c cols rates).2 ≠ 0 := by simpa using hb
        have hsp : l = l.take k ++ c :: l.drop (k + 1) := by rw [← drop_at hcl, List.take_append_drop]
        rw [hsp, List.map_append, List.find?_append, List.map_cons, List.find?_cons]
        have h0 : ((l.take k).map fun c => (brokenP c cols rates).2).find? (fun e => e != 0) = none := by
          rw [List.find?_eq_none]
          intro e hm
          obtain ⟨c', hc', rfl⟩ := List.mem_map.1 hm
          rw [hz c' hc']; simp
        rw [h0, bne_iff_ne.2 hb]
        rfl
      simp only [go_sem, e1, e2, e33, e34, e35, e10]
      rw [he]
      exact .refl _
    have hb0 : (brokenP c cols rates).2 = 0 := by simpa using hb
    have hr := broken_right hb0
    have hrs := right_size' hr
    have hsn := foundL_snoc cols rates (l.take k) c
    rw [← take_succ hcl] at hsn
    simp only [go_sem, e1, e2, e33, e34, e35, e10]
    refine PC.use (rsign_c _ (by omega)) ?_
    simp only [go_sem, e1, e2, e33, e34, e35, e10]
    refine acond_i (fun hp => ?_) (fun hp => ?_)
    · rw [if_pos (by simpa using hp)] at hsn
      simp only [go_sem, e1, e2, e33, e34, e35, e10, Ri]
      change withO (some (encBroken ⟨c, (brokenP c cols rates).1⟩)) _
      simp only [go_sem, e1, e2, e33, e34, e35, e10]
      refine wappE_i R ⟨rfl, rfl⟩ ⟨rfl, trivial⟩ (by simp only [List.length_map, List.length_cons, List.length_nil]; omega) (fun j' hj' => ?_)
      simp only [go_sem, e1, e2, e33, e34, e35, e10, wrapS (show k ≤ 4611686018427387904 by omega)]
      refine ⟨⟨k + 1, j', hlt, rfl, rfl, ?_, take_all' hcl hb0 hz⟩, by simp only [natOf_int]; omega⟩
      rw [hsn]
      exact row_appG rfl
    · rw [if_neg (by simpa using hp), List.append_nil] at hsn
      simp only [go_sem, e1, e2, e33, e34, e35, e10, wrapS (show k ≤ 4611686018427387904 by omega)]
      refine ⟨⟨k + 1, j, hlt, rfl, rfl, ?_, take_all' hcl hb0 hz⟩, by simp only [natOf_int]; omega⟩
      rw [hsn]; exact R
  have hge := geB hk hge
  subst hge
  rw [List.take_length] at R hz
  have he : errC cols rates l = none := by
    unfold errC
    rw [List.find?_eq_none]
    intro e hm
    obtain ⟨c, hc, rfl⟩ := List.mem_map.1 hm
    rw [hz c hc]; simp
  rw [he]
  have hfl : (foundL cols rates l).length ≤ l.length := by
    unfold foundL
    rw [List.length_map]
    exact List.length_filter_le _ _
  have hfo : ∀ b ∈ foundL cols rates l, okBr b := by
    intro b hb
    unfold foundL at hb
    obtain ⟨c, hc, rfl⟩ := List.mem_map.1 hb
    exact broken_right (hz c (List.mem_filter.1 hc).1)
  have hsl : (ssort ltBr (foundL cols rates l)).length = (foundL cols rates l).length := ssort_len _ _
  simp only [go_sem, e1, e2, e33, e34, e35, e10]
  refine sortStable_c ltBr_swo cmpBr (foundL cols rates l) j H _ (by omega) hfo R fun r => ?_
  generalize ssort ltBr (foundL cols rates l) = S at *
  simp only [go_sem, e1, e2, e33, e34, e35, e10]
  refine anew_i fun i hi => ?_
  have nji : j ≠ i := fun e => by rw [← e, updH_same] at hi; cases hi
  simp only [go_sem, e1, e2, e33, e34, e35, e10]
  refine afreeze_i (j := j) (r := brRow S) (by simp only [go_sem, e1, e2, e33, e34, e35, e10]) (by rw [updH_ne _ _ _ _ nji]; exact updH_same _ _ _) fun Hr hr0 hr1 => ?_
  have Ri : Hr i = some (cutRow []) := by rw [hr1 i nji.symm, updH_same]; rfl
  have hmin : imin ((S.length : Nat) : Int) 24 = ((min S.length 24 : Nat) : Int) := by unfold imin; split <;> omega
  have htk : (S.map encBroken).take (min S.length 24) = (S.take 24).map encBroken := by
    rw [← List.map_take]
    congr 1
    rcases Nat.le_total S.length 24 with h | h
    · rw [Nat.min_eq_left h, List.take_of_length_le (Nat.le_refl _), List.take_of_length_le h]
    · rw [Nat.min_eq_right h]
  have hX24 : (S.take 24).length ≤ 24 := by rw [List.length_take]; omega
  simp only [go_sem, e1, e2, e33, e34, e35, e10, List.length_map, hmin, htk]
  generalize S.take 24 = X at *
  refine ⟨by omega, ?_⟩
  refine ⟨fun ρ H => ∃ (k : Nat) (i : Nat), k ≤ X.length ∧ ρ 65 = .sl (X.map encBroken) ∧ ρ 66 = int (X.length : Nat) ∧ ρ 67 = int k ∧ ρ 15 = .os i ∧ H i = some (cutRow ((X.take k).map Broken.cut)), fun ρ _ => X.length - natOf (ρ 67), ⟨0, i, Nat.zero_le _, by simp only [go_sem], by simp only [go_sem, List.length_map], (by simp only [go_sem]; rfl), by simp only [go_sem], Ri⟩, ?_⟩
  rintro ρ H ⟨k, i, hk, e65, e66, e67, e15, Rs⟩
  simp only [go_sem, e65, e66, e67, e15]
  refine acond_i (fun hlt => ?_) (fun hge => ?_)
  · have hlt := ltB hlt
    obtain ⟨b, hb⟩ := getIn hlt
    have b1 := inB hlt
    simp only [go_sem, e65, e66, e67, e15, getD_map hb, b1]
    refine anew_i fun m hm0 => ?_
    have ne_i_m : i ≠ m := ne_new Rs hm0
    simp only [go_sem, e65, e66, e67, e15, Rs]
    refine wputE_n (updH_same _ _ _) (by simp [encBroken_len]) ?_
    generalize hGm : updH (updH _ m _) m _ = HGm
    replace Rs := (congrFun hGm.symm i).trans ((updH_ne _ _ _ _ ne_i_m).trans ((updH_ne _ _ _ _ ne_i_m).trans Rs))
    have Rm : HGm m = some (brRow [b]) := by rw [← hGm, updH_same]; rfl
    clear hGm hm0
    simp only [go_sem, e65, e66, e67, e15, Rm, Rs]
    refine wappE_i Rs ⟨rfl, rfl⟩ ⟨rfl, trivial⟩ (by simp only [List.length_map, List.length_take, List.length_cons, List.length_nil]; omega) (fun j' hj' => ?_)
    simp only [go_sem, e65, e66, e67, e15, wrapS (show k ≤ 4611686018427387904 by omega)]
    refine ⟨⟨k + 1, j', hlt, rfl, rfl, ?_⟩, by simp only [natOf_int]; omega⟩
    rw [take_succ hb, List.map_append]
    exact row_appG rfl
  · have hge := geB hk hge
    subst hge
    rw [List.take_length] at Rs
    simp only [go_sem, e65, e66, e67, e15]
    exact .tup _ _ (.cons _ _ _ _ (.row _ _ _ Rs (ConvE.refl _)) (.cons _ _ _ _ (.refl _) .nil))
end Go.Proofs.YtbcfajfngdmgnaaGreatDoor.Nu
end

section
set_option linter.unusedSimpArgs false
set_option linter.unusedVariables false
namespace Go.Proofs.YtbcfajfngdmgnaaGreatDoor.Nu
open Go.Aw Go.Aw.D Go.Proofs Ty Go.Nu Go.So Go.Sb
set_option maxRecDepth 100000
abbrev hlf : ByteArray := ⟨#[49, 47, 50]⟩
def exCol (s : Int) : Column := ⟨0, s, 0, ⟨0, 0, [], []⟩⟩
theorem ex_broken : brokenP ⟨1, 7, 1⟩ [exCol 3, exCol 6, exCol 5] [hlf, hlf, hlf] = (hlf, 0) := by decide +kernel
def exType : VType := ⟨⟨#[118]⟩, 1, 0, 0, [5], 0, 0, 0, 9, 9, 0, 0, 0, 0⟩
def exOrder (s : ByteArray) : Order := ⟨s, [1], ⟨-1, 0, 0, 0⟩, ⟨0, 0, 9, 0⟩, 0, 0, 1, -1, -1, false⟩
def exNames : List ByteArray := [⟨#[111]⟩, ⟨#[112]⟩, ⟨#[113]⟩]
def exInst : Instance := ⟨⟨[⟨#[97]⟩], []⟩, [exType], exNames.map exOrder, [], []⟩
theorem ex_find : findP exInst 1 [exCol 3, exCol 6, exCol 5] [hlf, hlf, hlf] = ([⟨1, 7, 1⟩], 0) := by decide +kernel
theorem ex_loads : LoadsOk exInst 1 where
  dims := by decide
  orders := by decide
  types := by decide
  load := by
    intro o ho
    simp [exInst, exNames, exOrder] at ho
    rcases ho with rfl | rfl | rfl <;> simp
  cap := by
    intro t ht
    simp [exInst, exType] at ht
    subst ht
    simp
abbrev insRow (o r t : Nat) : Row := ⟨42, 6, [[.sl [[str ⟨#[97]⟩]], .sl [], .sl [encVType exType], .os o, .os r, .os t]]⟩
abbrev ordRow (l : List Order) : Row := ⟨96, 16, l.map encOrder⟩
abbrev noPairs : Row := ⟨247, 2, []⟩
theorem awake28_c : PC Tryz.prog 14 [] (boo true) := by
  refine PC.body (c := Tryz.f14.body.getD .skip) (fun t => t == 14) mixed Tryz.func14 rfl (by kernel_rfl) ?_
  unfold Tryz.f14
  simp only [Option.getD_some]
  simp only [go_sem]
  refine anew_i fun a _ => ?_
  generalize updH noRows a _ = Ha
  refine anew_i fun b _ => ?_
  generalize updH Ha b _ = Hb
  refine anew_i fun c _ => ?_
  generalize updH Hb c _ = Hc
  refine anew_i fun o ho => ?_
  have Ro : updH Hc o (some (⟨96, 16, []⟩ : Row)) o = some (ordRow []) := updH_same _ _ _
  generalize updH Hc o _ = H1 at Ro ⊢
  refine anew_i fun r hr => ?_
  have nor : o ≠ r := ne_new Ro hr
  have Ro := keep_new (r' := noPairs) Ro hr
  have Rr := updH_same H1 r (some noPairs)
  generalize updH H1 r _ = H2 at Ro Rr ⊢
  refine anew_i fun t ht => ?_
  have nto : o ≠ t := ne_new Ro ht
  have nrt : r ≠ t := ne_new Rr ht
  have Ro := keep_new (r' := noPairs) Ro ht
  have Rr := keep_new (r' := noPairs) Rr ht
  have Rt := updH_same H2 t (some noPairs)
  generalize updH H2 t _ = H3 at Ro Rr Rt ⊢
  refine anew_i fun i hi => ?_
  have noi : o ≠ i := ne_new Ro hi
  have nri : r ≠ i := ne_new Rr hi
  have nti : t ≠ i := ne_new Rt hi
  simp only [go_sem]
  refine wputE_n (updH_same _ _ _) (by simp) ?_
  generalize hG : updH (updH H3 i _) i _ = H4
  have Ro4 : H4 o = some (ordRow []) := by rw [← hG, updH_ne _ _ _ _ noi, updH_ne _ _ _ _ noi]; exact Ro
  have Rr4 : H4 r = some noPairs := by rw [← hG, updH_ne _ _ _ _ nri, updH_ne _ _ _ _ nri]; exact Rr
  have Rt4 : H4 t = some noPairs := by rw [← hG, updH_ne _ _ _ _ nti, updH_ne _ _ _ _ nti]; exact Rt
  have Ri4 : H4 i = some (insRow o r t) := by rw [← hG, updH_same]; rfl
  clear hG Ro Rr Rt hi
  simp only [go_sem]
  have en : exNames.map Go.Aw.D.encStr = [[str ⟨#[111]⟩], [str ⟨#[112]⟩], [str ⟨#[113]⟩]] := rfl
  have el : exNames.length = 3 := rfl
  refine ⟨fun ρ H => ∃ (k : Nat) (o : Nat), k ≤ exNames.length ∧ ρ 1 = .op i 0 0 ∧ ρ 15 = .sl (exNames.map Go.Aw.D.encStr) ∧ ρ 16 = int (exNames.length : Nat) ∧ ρ 17 = int k ∧ H i = some (insRow o r t) ∧ H o = some (ordRow ((exNames.take k).map exOrder)) ∧ H r = some noPairs ∧ H t = some noPairs ∧ o ≠ i ∧ o ≠ r ∧ o ≠ t, fun ρ _ => exNames.length - natOf (ρ 17), ⟨0, o, Nat.zero_le _, by simp only [go_sem, en, el], by simp only [go_sem, en, el], by simp only [go_sem, List.length_map, en, el], (by simp only [go_sem, en, el]; rfl), Ri4, Ro4, Rr4, Rt4, noi, nor, nto⟩, ?_⟩
  rintro ρ H ⟨k, o, hk, e1, e15, e16, e17, Ri, Ro, Rr, Rt, noi, nor, nto⟩
  simp only [go_sem, e1, e15, e16, e17]
  refine acond_i (fun hlt => ?_) (fun hge => ?_)
  · have hlt := ltB hlt
    obtain ⟨s, hs⟩ := getIn hlt
    have b1 := inB hlt
    have hk3 : k < 3 := hlt
    simp only [go_sem, e1, e15, e16, e17, getD_map hs, b1, Ri]
    refine wappE_i Ro ⟨rfl, rfl⟩ ⟨rfl, trivial⟩ (by simp only [List.length_map, List.length_take, List.length_cons, List.length_nil]; omega) (fun j' hj' => ?_)
    have nji : i ≠ j' := ne_new Ri hj'
    have njr : r ≠ j' := ne_new Rr hj'
    have njt : t ≠ j' := ne_new Rt hj'
    have Ri2 := keep_app (r' := (⟨96, 16, ((exNames.take k).map exOrder).map encOrder ++ [encOrder (exOrder s)]⟩ : Row)) Ri noi hj'
    have Rr2 := keep_app (r' := (⟨96, 16, ((exNames.take k).map exOrder).map encOrder ++ [encOrder (exOrder s)]⟩ : Row)) Rr nor hj'
    have Rt2 := keep_app (r' := (⟨96, 16, ((exNames.take k).map exOrder).map encOrder ++ [encOrder (exOrder s)]⟩ : Row)) Rt nto hj'
    have Rj2 : updH (updH H o none) j' (some (⟨96, 16, ((exNames.take k).map exOrder).map encOrder ++ [encOrder (exOrder s)]⟩ : Row)) j' = some (ordRow ((exNames.take (k + 1)).map exOrder)) := by
      rw [take_succ hs, List.map_append]
      exact row_appG rfl
    simp only [go_sem, e1, e15, e16, e17]
    refine wputE_1 so39 Ri2 ⟨by simp, rfl, by simp⟩ ?_
    generalize hP : updH (updH (updH H o none) j' _) i _ = HP
    simp only [go_sem, e1, e15, e16, e17, wrapS (show k ≤ 4611686018427387904 by omega)]
    refine ⟨⟨k + 1, j', hlt, rfl, ?_, ?_, ?_, ?_, nji.symm, njr.symm, njt.symm⟩, by simp only [natOf_int]; omega⟩
    · rw [← hP, updH_same]; rfl
    · rw [← hP, updH_ne _ _ _ _ nji.symm]; exact Rj2
    · rw [← hP, updH_ne _ _ _ _ nri]; exact Rr2
    · rw [← hP, updH_ne _ _ _ _ nti]; exact Rt2
  have hge := geB hk hge
  subst hge
  rw [List.take_length] at Ro
  simp only [go_sem, e1, e15, e16, e17, Ri]
  have hcols : ColsOk [exCol 3, exCol 6, exCol 5] [hlf, hlf, hlf] := ⟨by simp [exCol], by decide, by decide, by simp [hlf]; decide⟩
  have hf := find_c exInst 1 [exCol 3, exCol 6, exCol 5] [hlf, hlf, hlf] ex_loads (by simp [exInst]) (by decide) hcols
  have hbk := broken_a hcols (c := ⟨1, 7, 1⟩) (by unfold okCut; simp)
  rw [ex_find] at hf
  rw [ex_broken] at hbk
  refine PC.useF [o, r, t] (args' := [.agg (encInstance exInst), .sl ([exCol 3, exCol 6, exCol 5].map encColumn), .sl ([hlf, hlf, hlf].map Go.Aw.D.encStr)]) (.cons _ _ _ _ (.agg _ _ (.cons _ _ _ _ (.refl _) (.cons _ _ _ _ (.refl _) (.cons _ _ _ _ (.refl _) (.cons _ _ _ _ (.row _ _ _ (by simp; exact Ro) (ConvE.refl _)) (.cons _ _ _ _ (.row _ _ _ (by simp; exact Rr) (ConvE.refl _)) (.cons _ _ _ _ (.row _ _ _ (by simp; exact Rt) (ConvE.refl _)) .nil))))))) (.cons _ _ _ _ (.refl _) (.cons _ _ _ _ (.refl _) .nil))) hf ?_
  simp only [go_sem]
  refine PC.use hbk ?_
  simp only [go_sem]
  refine ⟨fun _ => by omega, ?_⟩
  exact cB (a := true) rfl
end Go.Proofs.YtbcfajfngdmgnaaGreatDoor.Nu
end

section
set_option linter.unusedSimpArgs false
set_option linter.unusedVariables false
namespace Go.Proofs.YtbcfajfngdmgnaaGreatDoor.Nu
open Go.Aw Go.Aw.D Go.Proofs Ty Go.Nu Go.So Go.Sb
set_option maxRecDepth 100000
theorem capR_of {l : List Int} {d : Int} (h : capR l d = true) : 1 ≤ (l.length : Int) ∧ (l.length : Int) ≤ 3 ∧ (l.length : Int) = d ∧ ∀ n ∈ l, 0 ≤ n ∧ n ≤ 1000 := by
  unfold capR at h
  split at h
  · cases h
  · next h1 =>
    simp only [Bool.or_eq_true, not_or, Bool.not_eq_true, Bool.not_eq_false', bne_eq_false_iff_eq] at h1
    have e := inR_iff.1 h1.1
    exact ⟨e.1, e.2, h1.2, fun n hn => inR_iff.1 (List.all_eq_true.1 h n hn)⟩
theorem rightL_of {l : List Int} {d : Int} (h : rightL l d = true) : (l.length : Int) = d ∧ ∀ n ∈ l, 0 ≤ n ∧ n ≤ 1000 := by
  unfold rightL at h
  split at h
  · next h1 =>
    refine ⟨h1, fun n hn => ?_⟩
    have := List.all_eq_true.1 h n hn
    simp at this
    omega
  · cases h
theorem loadsOk_of {x : Instance} (h : Acc x) : LoadsOk x (dimsR x.types).toNat ∧ x.types ≠ [] := by
  have hne : x.types ≠ [] := by
    intro h0
    have := h.types
    rw [h0] at this
    simp at this
  obtain ⟨t, r, ht⟩ := List.exists_cons_of_ne_nil hne
  have hd : dimsR x.types = t.cap.length := by rw [ht]; rfl
  have ht1 := capR_of (h.type t (by rw [ht]; exact List.mem_cons_self)).cap
  have e : ((dimsR x.types).toNat : Int) = dimsR x.types := by omega
  refine ⟨⟨by omega, by have := h.orders; omega, by have := h.types; omega, fun o ho => ?_, fun t ht => ?_⟩, hne⟩
  · have := rightL_of (h.order o ho).load
    exact ⟨by omega, this.2⟩
  · have := capR_of (h.type t ht).cap
    exact ⟨by omega, this.2.2.2⟩
end Go.Proofs.YtbcfajfngdmgnaaGreatDoor.Nu
end
