/- Texts joined by a program: MaD, MaE. -/
import Derived.Test.YtbcfajfngdmgnaaGreatDoorZk31

section
set_option linter.unusedSimpArgs false
set_option linter.unusedVariables false
namespace Go.Proofs.YtbcfajfngdmgnaaGreatDoor.Nu
open Go.Aw Go.Aw.D Go.Proofs Ty Go.Nu
open Dec (chkR knownR allowsR forbidsR decB hasN)
set_option maxRecDepth 100000
theorem getM_put (m : List (Int × Int)) (o v q : Int) : getM (putM m o v) q = if q = o then v else getM m q := by
  unfold getM putM idxM
  induction m with
  | nil =>
    by_cases h : q = o
    · subst h; simp
    · have h2 : (o == q) = false := by simpa using fun e => h e.symm
      simp [h, h2]
  | cons p m ih =>
    rw [List.findIdx?_cons]
    cases hp : p.1 == o with
    | true =>
      have hpe : p.1 = o := by simpa using hp
      simp only [if_true, List.set_cons_zero, List.find?_cons]
      by_cases h : q = o
      · subst h; simp
      · have h2 : (o == q) = false := by simpa using fun e => h e.symm
        have h3 : (p.1 == q) = false := by rw [hpe]; exact h2
        simp [h, h2, h3]
    | false =>
      have hpe : p.1 ≠ o := by simpa using hp
      cases hi : m.findIdx? (fun p => p.1 == o) with
      | none =>
        rw [hi] at ih
        simp only [Bool.false_eq_true, if_false, Option.map_none, List.cons_append, List.find?_cons]
        cases hq : p.1 == q with
        | true =>
          have : q ≠ o := fun e => hpe ((by simpa using hq : p.1 = q).trans e)
          simp [this]
        | false => simpa using ih
      | some j =>
        rw [hi] at ih
        simp only [Bool.false_eq_true, if_false, Option.map_some, List.set_cons_succ, List.find?_cons]
        cases hq : p.1 == q with
        | true =>
          have : q ≠ o := fun e => hpe ((by simpa using hq : p.1 = q).trans e)
          simp [this]
        | false => simpa using ih
theorem mcnt_c (d : Decision) : PC Tryz.prog 164 [.agg (encDecision d)] (boo (cntD d)) := by
  refine PC.body (c := Tryz.f164.body.getD .skip) (fun _ => false) mixed Tryz.func164 rfl (by kernel_rfl) ?_
  unfold Tryz.f164
  simp only [Option.getD_some]
  simp only [go_sem]
  exact .refl _
theorem one_c (b : Bool) : PC Tryz.prog 100 [boo b] (int (bitI b)) := by
  refine PC.body (c := Tryz.f100.body.getD .skip) (fun _ => false) mixed Tryz.func100 rfl (by kernel_rfl) ?_
  unfold Tryz.f100
  simp only [Option.getD_some]
  simp only [go_sem]
  refine acond_i (fun hb => ?_) (fun hb => ?_)
  · simp only [go_sem]
    subst hb
    exact .refl _
  · simp only [go_sem]
    subst hb
    exact .refl _
theorem coefs_c (x : Instance) (c : Column) (cuts : List Cut) (ds : List Decision) (h : MIn x cuts ds) (hc : ColB c) (hq : CutsB cuts) :
    PC Tryz.prog 98 [.agg (encInstance x), .agg (encColumn c), .sl (cuts.map encCut), .sl (ds.map encDecision)] (.sl ((coefsM x c cuts ds).map encInt)) := by
  have h1 := h.orders
  have h2 := h.types
  have h3 := h.cl
  have h4 := h.dl
  have hol := ordI_len x
  obtain ⟨sn, hsn⟩ := Int.eq_ofNat_of_zero_le hc.set.1
  have hsn63 : sn < 2 ^ 63 := by have := hc.set.2; omega
  refine PC.body (c := Tryz.f98.body.getD .skip) (fun t => t == 9) mixed Tryz.func98 rfl (by kernel_rfl) ?_
  unfold Tryz.f98
  simp only [Option.getD_some]
  simp only [go_sem]
  refine anew_i fun j hj0 => ?_
  generalize hGj : updH _ j _ = HGj
  have R : HGj j = some (iRow []) := by rw [← hGj, updH_same]; rfl
  clear hGj hj0
  simp only [go_sem, R]
  refine PC.use (all_c x h1) ?_
  simp only [go_sem]
  refine PC.use (members_c _) ?_
  rw [mem_all x h1]
  simp only [go_sem]
  refine ⟨fun ρ H => ∃ (k : Nat) (j : Nat), k ≤ (ordI x).length ∧ ρ 2 = .sl (cuts.map encCut) ∧ ρ 3 = .sl (ds.map encDecision) ∧ ρ 4 = .rp (encInstance x) 0 ∧ ρ 5 = .rp (encColumn c) 0 ∧ ρ 19 = .sl ((ordI x).map encInt) ∧ ρ 20 = int ((ordI x).length : Nat) ∧ ρ 21 = int k ∧ ρ 9 = .os j ∧ H j = some (iRow (((ordI x).take k).map fun i => bitI (hasR c.set i))), fun ρ _ => (ordI x).length - natOf (ρ 21), ⟨0, j, Nat.zero_le _, by simp only [go_sem], by simp only [go_sem], by simp only [go_sem], by simp only [go_sem], by simp only [go_sem], by simp only [go_sem, List.length_map], (by simp only [go_sem]; rfl), by simp only [go_sem], R⟩, ?_⟩
  rintro ρ H ⟨k, j, hk, e2, e3, e4, e5, e19, e20, e21, e9, R⟩
  simp only [go_sem, e2, e3, e4, e5, e19, e20, e21, e9]
  refine acond_i (fun hlt => ?_) (fun hge => ?_)
  · have hlt := ltB (by simpa using hlt)
    obtain ⟨i, hi⟩ := getIn hlt
    have b1 := inB hlt
    simp only [go_sem, e2, e3, e4, e5, e19, e20, e21, e9, getD_map hi, b1]
    refine PC.use (sHas_c _ i) ?_
    simp only [go_sem, e2, e3, e4, e5, e19, e20, e21, e9]
    refine PC.use (one_c _) ?_
    simp only [go_sem, e2, e3, e4, e5, e19, e20, e21, e9]
    refine wappE_i R ⟨rfl, rfl⟩ ⟨rfl, trivial⟩ (by simp only [List.length_map, List.length_take, List.length_cons, List.length_nil]; omega) (fun j' hj' => ?_)
    simp only [go_sem, e2, e3, e4, e5, e19, e20, e21, e9, wrapS (show k ≤ 4611686018427387904 by omega)]
    refine ⟨⟨k + 1, j', hlt, rfl, rfl, ?_⟩, by simp only [natOf_int]; omega⟩
    rw [take_succ hi, List.map_append]
    exact row_appG rfl
  have hge := geB hk (by simpa using hge)
  subst hge
  rw [List.take_length] at R
  change H j = some (iRow (coefO x c)) at R
  simp only [go_sem, e2, e3, e4, e5, e19, e20, e21, e9, List.length_map]
  refine ⟨fun ρ H => ∃ (k : Nat) (j : Nat), k ≤ x.types.length ∧ ρ 2 = .sl (cuts.map encCut) ∧ ρ 3 = .sl (ds.map encDecision) ∧ ρ 5 = .rp (encColumn c) 0 ∧ ρ 36 = int (x.types.length : Nat) ∧ ρ 37 = int k ∧ ρ 9 = .os j ∧ H j = some (iRow (coefO x c ++ coefT x c k)), fun ρ _ => x.types.length - natOf (ρ 37), ⟨0, j, Nat.zero_le _, by simp only [go_sem, e2, e3, e5], by simp only [go_sem, e2, e3, e5], by simp only [go_sem, e2, e3, e5], by simp only [go_sem, List.length_map, e2, e3, e5], (by simp only [go_sem, e2, e3, e5]; rfl), by simp only [go_sem, e9], by simpa [coefT] using R⟩, ?_⟩
  rintro ρ H ⟨k, j, hk, e2, e3, e5, e36, e37, e9, R⟩
  simp only [go_sem, e2, e3, e5, e36, e37, e9]
  refine acond_i (fun hlt => ?_) (fun hge => ?_)
  · have hlt := ltB (by simpa using hlt)
    have hlen : (coefO x c ++ coefT x c k).length ≤ 62 + k := by unfold coefO coefT; simp only [List.length_append, List.length_map, List.length_range]; omega
    simp only [go_sem, e2, e3, e5, e36, e37, e9]
    refine PC.use (one_c _) ?_
    simp only [go_sem, e2, e3, e5, e36, e37, e9]
    refine wappE_i R ⟨rfl, rfl⟩ ⟨rfl, trivial⟩ (by simp only [List.length_map, List.length_cons, List.length_nil]; omega) (fun j' hj' => ?_)
    simp only [go_sem, e2, e3, e5, e36, e37, e9, wrapS (show k ≤ 4611686018427387904 by omega)]
    refine ⟨⟨k + 1, j', hlt, rfl, rfl, ?_⟩, by simp only [natOf_int]; omega⟩
    have : coefT x c (k + 1) = coefT x c k ++ [bitI (c.type == (k : Int))] := by unfold coefT; rw [List.range_succ, List.map_append]; rfl
    rw [this, ← List.append_assoc]
    exact row_appG rfl
  have hge := geB hk (by simpa using hge)
  subst hge
  simp only [go_sem, e2, e3, e5, e36, e37, e9, List.length_map]
  refine ⟨fun ρ H => ∃ (k : Nat) (j : Nat), k ≤ cuts.length ∧ ρ 3 = .sl (ds.map encDecision) ∧ ρ 5 = .rp (encColumn c) 0 ∧ ρ 49 = .sl (cuts.map encCut) ∧ ρ 50 = int (cuts.length : Nat) ∧ ρ 51 = int k ∧ ρ 9 = .os j ∧ H j = some (iRow (coefO x c ++ coefT x c x.types.length ++ coefC c (cuts.take k))), fun ρ _ => cuts.length - natOf (ρ 51), ⟨0, j, Nat.zero_le _, by simp only [go_sem, e3, e5], by simp only [go_sem, e3, e5], by simp only [go_sem, e3, e5], by simp only [go_sem, List.length_map, e3, e5], (by simp only [go_sem, e3, e5]; rfl), by simp only [go_sem, e9], by simpa [coefC] using R⟩, ?_⟩
  rintro ρ H ⟨k, j, hk, e3, e5, e49, e50, e51, e9, R⟩
  simp only [go_sem, e3, e5, e49, e50, e51, e9]
  refine acond_i (fun hlt => ?_) (fun hge => ?_)
  · have hlt := ltB (by simpa using hlt)
    obtain ⟨q, hqq⟩ := getIn hlt
    have b1 := inB hlt
    have hqs := hq.set q (List.mem_of_getElem? hqq)
    have hlen : (coefO x c ++ coefT x c x.types.length ++ coefC c (cuts.take k)).length ≤ 62 + 1048576 + 1048576 := by unfold coefO coefT coefC; simp only [List.length_append, List.length_map, List.length_range, List.length_take]; omega
    simp only [go_sem, e3, e5, e49, e50, e51, e9, getD_map hqq, b1]
    refine anew_i fun i14 hi140 => ?_
    have ne_j_i14 : j ≠ i14 := ne_new R hi140
    simp only [go_sem, e3, e5, e49, e50, e51, e9, R]
    refine wputE_n (updH_same _ _ _) (by simp [encCut_len]) ?_
    generalize hGi14 : updH (updH _ i14 _) i14 _ = HGi14
    replace R := (congrFun hGi14.symm j).trans ((updH_ne _ _ _ _ ne_j_i14).trans ((updH_ne _ _ _ _ ne_j_i14).trans R))
    have R14 : HGi14 i14 = some (⟨23, 3, [encCut q]⟩) := by rw [← hGi14, updH_same]; rfl
    clear hGi14 hi140
    simp only [go_sem, e3, e5, e49, e50, e51, e9, R14, R]
    rw [hsn]
    refine PC.use (coefA_c q sn hqs.1 (by omega) hsn63) ?_
    simp only [go_sem, e3, e5, e49, e50, e51, e9]
    refine wappE_i R ⟨rfl, rfl⟩ ⟨rfl, trivial⟩ (by simp only [List.length_map, List.length_cons, List.length_nil]; omega) (fun j' hj' => ?_)
    simp only [go_sem, e3, e5, e49, e50, e51, e9, wrapS (show k ≤ 4611686018427387904 by omega)]
    refine ⟨⟨k + 1, j', hlt, rfl, rfl, ?_⟩, by simp only [natOf_int]; omega⟩
    have : coefC c (cuts.take (k + 1)) = coefC c (cuts.take k) ++ [coefP q.kind (q.set.toNat &&& sn)] := by unfold coefC; rw [take_succ hqq, List.map_append, hsn]; rfl
    rw [this, ← List.append_assoc]
    exact row_appG rfl
  have hge := geB hk (by simpa using hge)
  subst hge
  rw [List.take_length] at R
  simp only [go_sem, e3, e5, e49, e50, e51, e9, List.length_map]
  refine ⟨fun ρ H => ∃ (k : Nat) (j : Nat), k ≤ ds.length ∧ ρ 5 = .rp (encColumn c) 0 ∧ ρ 63 = .sl (ds.map encDecision) ∧ ρ 64 = int (ds.length : Nat) ∧ ρ 65 = int k ∧ ρ 9 = .os j ∧ H j = some (iRow (coefO x c ++ coefT x c x.types.length ++ coefC c cuts ++ coefD c (ds.take k))), fun ρ _ => ds.length - natOf (ρ 65), ⟨0, j, Nat.zero_le _, by simp only [go_sem, e5], by simp only [go_sem, e5], by simp only [go_sem, List.length_map, e5], (by simp only [go_sem, e5]; rfl), by simp only [go_sem, e9], by simpa [coefD] using R⟩, ?_⟩
  rintro ρ H ⟨k, j, hk, e5, e63, e64, e65, e9, R⟩
  simp only [go_sem, e5, e63, e64, e65, e9]
  refine acond_i (fun hlt => ?_) (fun hge => ?_)
  · have hlt := ltB (by simpa using hlt)
    obtain ⟨d, hd⟩ := getIn hlt
    have b1 := inB hlt
    have hs := filter_take (p := cntD) hd
    have hlen : (coefO x c ++ coefT x c x.types.length ++ coefC c cuts ++ coefD c (ds.take k)).length ≤ 62 + 1048576 + 1048576 + 1048576 := by
      have := cntD_len ds k
      unfold coefO coefT coefC coefD; simp only [List.length_append, List.length_map, List.length_range]; omega
    simp only [go_sem, e5, e63, e64, e65, e9, getD_map hd, b1]
    refine anew_i fun i16 hi160 => ?_
    have ne_j_i16 : j ≠ i16 := ne_new R hi160
    simp only [go_sem, e5, e63, e64, e65, e9, R]
    refine wputE_n (updH_same _ _ _) (by simp [encDecision_len]) ?_
    generalize hGi16 : updH (updH _ i16 _) i16 _ = HGi16
    replace R := (congrFun hGi16.symm j).trans ((updH_ne _ _ _ _ ne_j_i16).trans ((updH_ne _ _ _ _ ne_j_i16).trans R))
    have R16 : HGi16 i16 = some (⟨158, 4, [encDecision d]⟩) := by rw [← hGi16, updH_same]; rfl
    clear hGi16 hi160
    simp only [go_sem, e5, e63, e64, e65, e9, R16, R]
    refine PC.use (mcnt_c d) ?_
    simp only [go_sem, e5, e63, e64, e65, e9]
    refine acond_i (fun hb => ?_) (fun hb => ?_)
    · rw [if_pos hb] at hs
      have : coefD c (ds.take (k + 1)) = coefD c (ds.take k) ++ [bitI (c.type == d.a)] := by
        unfold coefD
        rw [hs, List.map_append, List.map_cons, List.map_nil]
      simp only [go_sem, e5, e63, e64, e65, e9, R16]
      refine PC.use (one_c _) ?_
      simp only [go_sem, e5, e63, e64, e65, e9]
      refine wappE_i R ⟨rfl, rfl⟩ ⟨rfl, trivial⟩ (by simp only [List.length_map, List.length_cons, List.length_nil]; omega) (fun j' hj' => ?_)
      simp only [go_sem, e5, e63, e64, e65, e9, wrapS (show k ≤ 4611686018427387904 by omega)]
      refine ⟨⟨k + 1, j', hlt, rfl, rfl, ?_⟩, by simp only [natOf_int]; omega⟩
      rw [this, ← List.append_assoc]
      exact row_appG rfl
    · rw [if_neg (by rw [hb]; simp), List.append_nil] at hs
      simp only [go_sem, e5, e63, e64, e65, e9, wrapS (show k ≤ 4611686018427387904 by omega)]
      refine ⟨⟨k + 1, j, hlt, rfl, rfl, ?_⟩, by simp only [natOf_int]; omega⟩
      have : coefD c (ds.take (k + 1)) = coefD c (ds.take k) := by unfold coefD; rw [hs]
      rw [this]; exact R
  have hge := geB hk (by simpa using hge)
  subst hge
  rw [List.take_length] at R
  simp only [go_sem, e5, e63, e64, e65, e9]
  exact .row _ _ _ R (ConvE.refl _)
def inM (cols : List Column) (ds : List Decision) : List Column := cols.filter fun c => ds.all fun d => allowsR d c.set
abbrev colRow' (l : List Column) : Row := ⟨63, 7, l.map encColumn⟩
theorem allowed_c (cols : List Column) (ds : List Decision) (hl : cols.length ≤ 1048576) (hd : ds.length ≤ 1048576) : PC Tryz.prog 96 [.sl (cols.map encColumn), .sl (ds.map encDecision)] (.sl ((inM cols ds).map encColumn)) := by
  refine PC.body (c := Tryz.f96.body.getD .skip) (fun t => t == 5) mixed Tryz.func96 rfl (by kernel_rfl) ?_
  unfold Tryz.f96
  simp only [Option.getD_some]
  simp only [go_sem]
  refine anew_i fun j hj0 => ?_
  generalize hGj : updH _ j _ = HGj
  have R : HGj j = some (colRow' []) := by rw [← hGj, updH_same]; rfl
  clear hGj hj0
  simp only [go_sem, R]
  refine ⟨fun ρ H => ∃ (k : Nat) (j : Nat), k ≤ cols.length ∧ ρ 1 = .sl (ds.map encDecision) ∧ ρ 8 = .sl (cols.map encColumn) ∧ ρ 9 = int (cols.length : Nat) ∧ ρ 10 = int k ∧ ρ 5 = .os j ∧ H j = some (colRow' (inM (cols.take k) ds)), fun ρ _ => cols.length - natOf (ρ 10), ⟨0, j, Nat.zero_le _, by simp only [go_sem], by simp only [go_sem], by simp only [go_sem, List.length_map], (by simp only [go_sem]; rfl), by simp only [go_sem], R⟩, ?_⟩
  rintro ρ H ⟨k, j, hk, e1, e8, e9, e10, e5, R⟩
  simp only [go_sem, e1, e8, e9, e10, e5]
  refine acond_i (fun hlt => ?_) (fun hge => ?_)
  · have hlt := ltB (by simpa using hlt)
    obtain ⟨c, hc⟩ := getIn hlt
    have b1 := inB hlt
    have hs : inM (cols.take (k + 1)) ds = inM (cols.take k) ds ++ (if (ds.all fun d => allowsR d c.set) = true then [c] else []) := filter_take (p := fun c : Column => ds.all fun d => allowsR d c.set) hc
    have hln : (inM (cols.take k) ds).length ≤ k := filter_tl _ _ _
    simp only [go_sem, e1, e8, e9, e10, e5, getD_map hc, b1]
    refine anew_i fun i7 hi70 => ?_
    have ne_j_i7 : j ≠ i7 := ne_new R hi70
    simp only [go_sem, e1, e8, e9, e10, e5, R]
    refine wputE_n (updH_same _ _ _) (by simp [encColumn_len]) ?_
    generalize hGi7 : updH (updH _ i7 _) i7 _ = HGi7
    replace R := (congrFun hGi7.symm j).trans ((updH_ne _ _ _ _ ne_j_i7).trans ((updH_ne _ _ _ _ ne_j_i7).trans R))
    have R7 : HGi7 i7 = some (⟨63, 7, [encColumn c]⟩) := by rw [← hGi7, updH_same]; rfl
    clear hGi7 hi70
    simp only [go_sem, e1, e8, e9, e10, e5, R7, R]
    refine PC.use (Dec.Allows_c ds c hd) ?_
    simp only [go_sem, e1, e8, e9, e10, e5]
    refine acond_i (fun hb => ?_) (fun hb => ?_)
    · rw [if_pos hb] at hs
      simp only [go_sem, e1, e8, e9, e10, e5, R7]
      refine wappE_i R ⟨rfl, rfl⟩ ⟨rfl, trivial⟩ (by simp only [List.length_map, List.length_cons, List.length_nil]; omega) (fun j' hj' => ?_)
      simp only [go_sem, e1, e8, e9, e10, e5, wrapS (show k ≤ 4611686018427387904 by omega)]
      refine ⟨⟨k + 1, j', hlt, rfl, rfl, ?_⟩, by simp only [natOf_int]; omega⟩
      rw [hs]
      exact row_appG rfl
    · rw [if_neg (by rw [hb]; simp), List.append_nil] at hs
      simp only [go_sem, e1, e8, e9, e10, e5, wrapS (show k ≤ 4611686018427387904 by omega)]
      exact ⟨⟨k + 1, j, hlt, rfl, rfl, by rw [hs]; exact R⟩, by simp only [natOf_int]; omega⟩
  have hge := geB hk (by simpa using hge)
  subst hge
  rw [List.take_length] at R
  simp only [go_sem, e1, e8, e9, e10, e5]
  exact .row _ _ _ R (ConvE.refl _)
end Go.Proofs.YtbcfajfngdmgnaaGreatDoor.Nu
end

section
set_option linter.unusedSimpArgs false
set_option linter.unusedVariables false
namespace Go.Proofs.YtbcfajfngdmgnaaGreatDoor.Nu
open Go.Aw Go.Aw.D Go.Proofs Ty Go.Nu
open Dec (chkR knownR allowsR forbidsR decB hasN)
set_option maxRecDepth 100000
theorem andNot_nat {a b : Nat} (ha : a < 2 ^ 63) (hb : b < 2 ^ 63) : ∃ s : Nat, bitV .andNot .i64 (a : Int) (b : Int) = (s : Int) ∧ s ≤ a ∧ ∀ i, s.testBit i = (a.testBit i && !b.testBit i) := by
  have h1 : ((a : Int) % ((2 ^ 64 : Nat) : Int)).toNat = a := by omega
  have h2 : ((b : Int) % ((2 ^ 64 : Nat) : Int)).toNat = b := by omega
  have h3 : BitVec.ofInt 64 (a : Int) = BitVec.ofNat 64 a := by apply BitVec.eq_of_toNat_eq; rw [BitVec.toNat_ofInt, BitVec.toNat_ofNat, h1, Nat.mod_eq_of_lt (by omega)]
  have h4 : BitVec.ofInt 64 (b : Int) = BitVec.ofNat 64 b := by apply BitVec.eq_of_toNat_eq; rw [BitVec.toNat_ofInt, BitVec.toNat_ofNat, h2, Nat.mod_eq_of_lt (by omega)]
  have hle : (BitVec.ofNat 64 a &&& ~~~BitVec.ofNat 64 b).toNat ≤ a := by
    rw [BitVec.toNat_and, BitVec.toNat_ofNat, Nat.mod_eq_of_lt (by omega : a < 2 ^ 64)]
    exact Nat.and_le_left
  refine ⟨(BitVec.ofNat 64 a &&& ~~~BitVec.ofNat 64 b).toNat, ?_, hle, fun i => ?_⟩
  · have h : ((BitVec.ofInt 64 (a : Int) &&& ~~~(BitVec.ofInt 64 (b : Int))).toNat : Int) = (((BitVec.ofNat 64 a &&& ~~~BitVec.ofNat 64 b).toNat : Nat) : Int) := by rw [h3, h4]
    refine Eq.trans (congrArg IntKind.i64.wrap h) ?_
    exact wrap_in (by omega)
  · rw [BitVec.testBit_toNat]
    by_cases hi : i < 64
    · simp only [BitVec.getLsbD_and, BitVec.getLsbD_not, BitVec.getLsbD_ofNat, hi, decide_true, Bool.true_and]
    · rw [BitVec.getLsbD_of_ge _ _ (by omega), Nat.testBit_lt_two_pow (Nat.lt_of_lt_of_le ha (Nat.pow_le_pow_right (by decide) (by omega)))]; rfl
theorem mem_skip (x : Instance) (h : x.orders.length ≤ 62) (ds : List Decision) {s : Nat} (hs : ∀ i, s.testBit i = ((allO x).testBit i && !(mustO x).testBit i)) :
    (memS (s : Int)).filter (skipB x ds) = skipsM x ds ∧ (memS (s : Int)).length ≤ 63 ∧ ∀ i ∈ memS (s : Int), ∃ n o, i = ((n : Nat) : Int) ∧ n < x.orders.length ∧ x.orders[n]? = some o := by
  have ht : ∀ i, (allO x).testBit i = (decide (i < x.orders.length) && suchB (fun _ => true) x.orders i) := fun i => bitsN_test _ _ _
  have hm : ∀ i, (mustO x).testBit i = (decide (i < x.orders.length) && suchB (fun o => o.penalty == -1) x.orders i) := fun i => bitsN_test _ _ _
  have h63 : ∀ i : Nat, hasR ((s : Nat) : Int) (i : Int) = (decide (i < x.orders.length) && (suchB (fun _ => true) x.orders i && !suchB (fun o => o.penalty == -1) x.orders i)) := by
    intro i
    by_cases hi : i < x.orders.length
    · rw [hasR_nat (by omega), hs, ht, hm, decide_eq_true hi]; simp
    · rw [decide_eq_false hi, Bool.false_and]
      by_cases h62 : i ≤ 62
      · rw [hasR_nat h62, hs, ht, decide_eq_false hi]; simp
      · unfold hasR
        rw [decide_eq_false (show ¬ ((i : Int) ≤ 62) by omega)]
        simp
  have hmem : memS (s : Int) = ((List.range x.orders.length).filter fun i => suchB (fun _ => true) x.orders i && !suchB (fun o => o.penalty == -1) x.orders i).map fun i : Nat => (i : Int) := by
    unfold memS memU
    congr 1
    obtain ⟨m, hmm⟩ : ∃ m, 63 = x.orders.length + m := ⟨63 - x.orders.length, by omega⟩
    rw [hmm]
    refine filter_cut (fun i hi => ?_) (fun i hi => ?_) m
    · rw [h63, decide_eq_true hi, Bool.true_and]
    · rw [h63, decide_eq_false (by omega), Bool.false_and]
  refine ⟨?_, ?_, ?_⟩
  · rw [hmem]
    unfold skipsM ordI ordN
    rw [List.filter_map, List.filter_map, List.filter_filter, List.filter_filter]
    congr 1
    refine List.filter_congr fun i hi => ?_
    have hlt := List.mem_range.1 hi
    obtain ⟨o, ho⟩ := getIn hlt
    rw [suchB_at ho, suchB_at ho]
    have hp : penAt x (i : Int) = o.penalty := by unfold penAt; rw [orderAt_get ho]
    show (skipB x ds (i : Int) && _) = (skipB x ds (i : Int) && _)
    by_cases hq : o.penalty = -1
    · have : skipB x ds (i : Int) = false := by unfold skipB; rw [hp, hq]; rfl
      rw [this]; rfl
    · have : (o.penalty == -1) = false := by simpa using hq
      rw [this]; simp
  · exact memU_len _ 63
  · intro i hi
    rw [hmem] at hi
    obtain ⟨n, hn, rfl⟩ := List.mem_map.1 hi
    have hlt := List.mem_range.1 (List.mem_filter.1 hn).1
    obtain ⟨o, ho⟩ := getIn hlt
    exact ⟨n, o, rfl, hlt, ho⟩
def cntV (ds : List Decision) (i : Int) : Nat := ds.countP fun d => d.kind == 5 && d.a == i
theorem cntV_succ {ds : List Decision} {k : Nat} {d : Decision} {i : Int} (h : ds[k]? = some d) : cntV (ds.take (k + 1)) i = cntV (ds.take k) i + (if (d.kind == 5 && d.a == i) = true then 1 else 0) := by
  unfold cntV
  rw [take_succ h, List.countP_append, List.countP_cons, List.countP_nil, Nat.zero_add]
theorem cntV_le (ds : List Decision) (k : Nat) (i : Int) : cntV (ds.take k) i ≤ k := Nat.le_trans List.countP_le_length (by rw [List.length_take]; omega)
theorem cntV_zero (ds : List Decision) (i : Int) : ((cntV ds i : Int) == 0) = !servedB ds i := by
  unfold cntV servedB
  rw [Bool.eq_iff_iff]
  simp only [beq_iff_eq, Bool.not_eq_true', List.any_eq_false]
  constructor
  · intro h d hd hc
    have : 0 < ds.countP fun d => d.kind == 5 && d.a == i := List.countP_pos_iff.2 ⟨d, hd, hc⟩
    omega
  · intro h
    have : (ds.countP fun d => d.kind == 5 && d.a == i) = 0 := List.countP_eq_zero.2 h
    omega
theorem skips_c (x : Instance) (ds : List Decision) (hx : x.orders.length ≤ 62) (hd : ds.length ≤ 1048576) : PC Tryz.prog 41 [.agg (encInstance x), .sl (ds.map encDecision)] (.sl ((skipsM x ds).map encInt)) := by
  refine PC.body (c := Tryz.f41.body.getD .skip) (fun t => t == 8) mixed Tryz.func41 rfl (by kernel_rfl) ?_
  unfold Tryz.f41
  simp only [Option.getD_some]
  simp only [go_sem]
  refine anew_i fun jm hjm0 => ?_
  generalize hGjm : updH _ jm _ = HGjm
  have Rm : HGjm jm = some (mapRow []) := by rw [← hGjm, updH_same]; rfl
  clear hGjm hjm0
  simp only [go_sem, List.length_map, Rm]
  refine ⟨fun ρ H => ∃ (k : Nat) (m:List (Int × Int)), k ≤ ds.length ∧ ρ 2 = .rp (encInstance x) 0 ∧ ρ 5 = .om jm ∧ ρ 12 = .sl (ds.map encDecision) ∧ ρ 13 = int (ds.length : Nat) ∧ ρ 14 = int k ∧ H jm = some (mapRow m) ∧ ∀ i, getM m i = (cntV (ds.take k) i : Nat), fun ρ _ => ds.length - natOf (ρ 14), ⟨0, [], Nat.zero_le _, by simp only [go_sem], by simp only [go_sem], by simp only [go_sem], by simp only [go_sem, List.length_map], (by simp only [go_sem]; rfl), Rm, fun _ => rfl⟩, ?_⟩
  rintro ρ H ⟨k, m, hk, e2, e5, e12, e13, e14, Rm, hm⟩
  simp only [go_sem, e2, e5, e12, e13, e14]
  refine acond_i (fun hlt => ?_) (fun hge => ?_)
  · have hlt := ltB (by simpa using hlt)
    obtain ⟨d, hdd⟩ := getIn hlt
    have b1 := inB hlt
    simp only [go_sem, e2, e5, e12, e13, e14, getD_map hdd, b1]
    refine anew_i fun i7 hi70 => ?_
    have ne_jm_i7 : jm ≠ i7 := ne_new Rm hi70
    simp only [go_sem, e2, e5, e12, e13, e14, Rm]
    refine wputE_n (updH_same _ _ _) (by simp [encDecision_len]) ?_
    generalize hGi7 : updH (updH _ i7 _) i7 _ = HGi7
    replace Rm := (congrFun hGi7.symm jm).trans ((updH_ne _ _ _ _ ne_jm_i7).trans ((updH_ne _ _ _ _ ne_jm_i7).trans Rm))
    have R7 : HGi7 i7 = some (⟨158, 4, [encDecision d]⟩) := by rw [← hGi7, updH_same]; rfl
    clear hGi7 hi70
    simp only [go_sem, e2, e5, e12, e13, e14, R7, Rm]
    refine acond_i (fun hb => ?_) (fun hb => ?_)
    · have hk5 : d.kind = 5 := by simpa using hb
      have hcl := cntV_le ds k d.a
      have hmv := hm d.a
      have wm : IntKind.i64.wrap (getM m d.a + 1) = getM m d.a + 1 := wrap_in (by omega)
      simp only [go_sem, e2, e5, e12, e13, e14, R7]
      refine alookup_i Rm ma141 (plain_int _) (mfind_int0 _ _) zv3 ?_
      rw [mget_int]
      simp only [go_sem, e2, e5, e12, e13, e14, wm]
      refine wmapU_i Rm ma141 (plain_int _) (mfind_int0 _ _) ?_
      rw [mput_int]
      generalize hP : updH _ jm _ = HP
      replace Rm : HP jm = some (mapRow (putM m d.a (getM m d.a + 1))) := by rw [← hP, updH_same]; skip
      clear hP
      simp only [go_sem, e2, e5, e12, e13, e14, Rm]
      simp only [wrapS (show k ≤ 4611686018427387904 by omega)]
      refine ⟨⟨k + 1, putM m d.a (getM m d.a + 1), hlt, rfl, rfl, fun o => ?_⟩, by simp only [natOf_int]; omega⟩
      rw [getM_put, cntV_succ hdd, hm o, hm d.a]
      by_cases e : o = d.a
      · subst e; rw [hk5]; simp
      · have e2 : (d.kind == 5 && d.a == o) = false := by simp; exact fun _ h => e h.symm
        rw [if_neg e, e2]; simp
    · have hk5 : d.kind ≠ 5 := by simpa using hb
      simp only [go_sem, e2, e5, e12, e13, e14, wrapS (show k ≤ 4611686018427387904 by omega)]
      refine ⟨⟨k + 1, m, hlt, rfl, Rm, fun o => ?_⟩, by simp only [natOf_int]; omega⟩
      have e2 : (d.kind == 5 && d.a == o) = false := by simp; exact fun h => absurd h hk5
      rw [cntV_succ hdd, hm o, e2]; simp
  have hge := geB hk (by simpa using hge)
  subst hge
  rw [List.take_length] at hm
  simp only [go_sem, e2, e5, e12, e13, e14]
  refine anew_i fun j hj0 => ?_
  have ne_jm_j : jm ≠ j := ne_new Rm hj0
  generalize hGj : updH _ j _ = HGj
  replace Rm := (congrFun hGj.symm jm).trans ((updH_ne _ _ _ _ ne_jm_j).trans Rm)
  have R : HGj j = some (iRow []) := by rw [← hGj, updH_same]; rfl
  clear hGj hj0
  simp only [go_sem, e2, e5, e12, e13, e14, R, Rm]
  refine adraw_m [(0, true), (1, true), (2, true), (3, true), (4, true), (7, true), (5, false), (6, false)] (by kernel_rfl) ?_
  have ha63 : allO x < 2 ^ 63 := Nat.lt_of_lt_of_le (suchN_lt _ _) (Nat.pow_le_pow_right (by decide) (by omega))
  have hm63 : mustO x < 2 ^ 63 := Nat.lt_of_lt_of_le (suchN_lt _ _) (Nat.pow_le_pow_right (by decide) (by omega))
  obtain ⟨s, hs1, hs2, hs3⟩ := andNot_nat ha63 hm63
  obtain ⟨q1, q2, q3⟩ := mem_skip x hx ds hs3
  rw [← q1]
  clear q1
  simp only [go_sem, e2, e5, e12, e13, e14]
  refine ⟨_, (all_c x hx).q rfl, ?_⟩
  simp only [go_sem, e2, e5, e12, e13, e14]
  refine ⟨_, (must_c x hx).q rfl, ?_⟩
  simp only [go_sem, e2, e5, e12, e13, e14, hs1]
  refine PC.use (members_c _) ?_
  generalize memS (s : Int) = M at *
  simp only [go_sem, e2, e5, e12, e13, e14, List.length_map]
  refine ⟨fun ρ H => ∃ (k : Nat) (j : Nat), k ≤ M.length ∧ ρ 2 = .rp (encInstance x) 0 ∧ ρ 5 = .om jm ∧ ρ 32 = .sl (M.map encInt) ∧ ρ 33 = int (M.length : Nat) ∧ ρ 34 = int k ∧ ρ 8 = .os j ∧ H j = some (iRow ((M.take k).filter (skipB x ds))) ∧ H jm = some (mapRow m), fun ρ _ => M.length - natOf (ρ 34), ⟨0, j, Nat.zero_le _, by simp only [go_sem, e2, e5], by simp only [go_sem, e2, e5], by simp only [go_sem, e2, e5], by simp only [go_sem, List.length_map, e2, e5], (by simp only [go_sem, e2, e5]; rfl), by simp only [go_sem], R, Rm⟩, ?_⟩
  rintro ρ H ⟨k, j, hk, e2, e5, e32, e33, e34, e8, R, Rm⟩
  simp only [go_sem, e2, e5, e32, e33, e34, e8]
  refine acond_i (fun hlt => ?_) (fun hge => ?_)
  · have hlt := ltB (by simpa using hlt)
    obtain ⟨i, hi⟩ := getIn hlt
    have b1 := inB hlt
    obtain ⟨n, o, rfl, hn, ho⟩ := q3 i (List.mem_of_getElem? hi)
    have b2 := inB hn
    have hfs := filter_take (p := skipB x ds) hi
    have hfl := filter_tl (skipB x ds) M k
    have hpen : penAt x (n : Int) = o.penalty := by unfold penAt; rw [orderAt_get ho]
    simp only [go_sem, e2, e5, e32, e33, e34, e8, getD_map hi, b1, getD_map ho, b2]
    refine alookup_i Rm ma141 (plain_int _) (mfind_int0 _ _) zv3 ?_
    rw [mget_int, hm]
    simp only [go_sem, e2, e5, e32, e33, e34, e8]
    have hcond : (decide (o.penalty ≥ 0) && ((cntV ds (n : Int) : Nat) : Int) == 0) = skipB x ds (n : Int) := by unfold skipB; rw [hpen, cntV_zero]
    refine acond_i (fun hb => ?_) (fun hb => ?_)
    · rw [if_pos (by rw [← hcond]; exact hb)] at hfs
      have ne_jm_j : jm ≠ j := fun e => by subst e; rw [Rm] at R; cases R
      simp only [go_sem, e2, e5, e32, e33, e34, e8]
      refine wappE_i R ⟨rfl, rfl⟩ ⟨rfl, trivial⟩ (by simp only [List.length_map, List.length_cons, List.length_nil]; omega) (fun j' hj'0 => ?_)
      have ne_jm_j' : jm ≠ j' := ne_new Rm hj'0
      generalize hP : updH (updH _ j none) j' _ = HP
      replace Rm := (congrFun hP.symm jm).trans ((updH_ne _ _ _ _ ne_jm_j').trans ((updH_ne _ _ _ _ (by first | exact ne_jm_j | exact ne_j_jm.symm)).trans Rm))
      have Rn : HP j' = some (iRow ((M.take (k + 1)).filter (skipB x ds))) := by rw [← hP, updH_same]; rw [hfs]; exact congrArg (fun l => some (⟨3, 1, l⟩ : Row)) (List.map_append (f := encInt) (l₁ := (M.take k).filter (skipB x ds)) (l₂ := [(n : Int)])).symm
      clear hP hj'0
      simp only [go_sem, e2, e5, e32, e33, e34, e8, Rn, Rm]
      simp only [wrapS (show k ≤ 4611686018427387904 by omega)]
      exact ⟨⟨k + 1, j', hlt, rfl, rfl, Rn⟩, by simp only [natOf_int]; omega⟩
    · rw [if_neg (by rw [← hcond, show (decide (o.penalty ≥ 0) && ((cntV ds (n : Int) : Nat) : Int) == 0) = false from hb]; simp), List.append_nil] at hfs
      simp only [go_sem, e2, e5, e32, e33, e34, e8, wrapS (show k ≤ 4611686018427387904 by omega)]
      exact ⟨⟨k + 1, j, hlt, rfl, rfl, by rw [hfs]; exact R, Rm⟩, by simp only [natOf_int]; omega⟩
  have hge := geB hk (by simpa using hge)
  subst hge
  rw [List.take_length] at R
  simp only [go_sem, e2, e5, e32, e33, e34, e8]
  exact .row _ _ _ R (ConvE.refl _)
def reducedM (x : Instance) (c : Column) (cuts : List Cut) (ds : List Decision) (dual : List ByteArray) : ByteArray × Int :=
  if dual.length ≠ (coefsM x c cuts ds).length then (emp, 2) else if (timesR (coefsM x c cuts ds) dual).2 ≠ 0 then (emp, (timesR (coefsM x c cuts ds) dual).2) else subR (zed c.price) (timesR (coefsM x c cuts ds) dual).1
theorem zed64_size {n : Int} (h0 : -9223372036854775808 ≤ n) (h1 : n ≤ 9223372036854775807) : (zed n).size ≤ 8194 := by
  have := Go.Nu.zed_size (m := n) (lt_max (k := 20) (by omega) (by omega))
  omega
theorem bitI_in (b : Bool) : bitI b = 0 ∨ bitI b = 1 := by cases b <;> simp [bitI]
theorem coefP_in (k : Int) (n : Nat) : coefP k n = 0 ∨ coefP k n = 1 := by unfold coefP; split <;> simp
theorem coefsM_in {x : Instance} {c : Column} {cuts : List Cut} {ds : List Decision} {n : Int} (h : n ∈ coefsM x c cuts ds) : n = 0 ∨ n = 1 := by
  unfold coefsM coefO coefT coefC coefD at h
  simp only [List.mem_append, List.mem_map] at h
  rcases h with ((⟨i, _, rfl⟩ | ⟨i, _, rfl⟩) | ⟨i, _, rfl⟩) | ⟨i, _, rfl⟩
  · exact bitI_in _
  · exact bitI_in _
  · exact coefP_in _ _
  · exact bitI_in _
theorem mReduced_c (x : Instance) (c : Column) (cuts : List Cut) (ds : List Decision) (dual : List ByteArray) (h : MIn x cuts ds) (hc : ColB c) (hq : CutsB cuts) (hp : -9223372036854775808 ≤ c.price ∧ c.price ≤ 9223372036854775807) (hl : dual.length ≤ 1048576) (hs : ∀ s ∈ dual, s.size ≤ 1048576) :
    PC Tryz.prog 44 [.agg (encInstance x), .agg (encColumn c), .sl (cuts.map encCut), .sl (ds.map encDecision), .sl (dual.map Go.Aw.D.encStr)] (.tup [str (reducedM x c cuts ds dual).1, int (reducedM x c cuts ds dual).2]) := by
  refine PC.body (c := Tryz.f44.body.getD .skip) (fun _ => false) mixed Tryz.func44 rfl (by kernel_rfl) ?_
  unfold Tryz.f44
  simp only [Option.getD_some]
  simp only [go_sem]
  refine PC.use (coefs_c x c cuts ds h hc hq) ?_
  have hin : ∀ n ∈ coefsM x c cuts ds, -9223372036854775808 ≤ n ∧ n ≤ 9223372036854775807 := fun n hn => by rcases coefsM_in hn with e | e <;> omega
  unfold reducedM
  generalize coefsM x c cuts ds = L at *
  simp only [go_sem, List.length_map]
  refine acond_i (fun hb => ?_) (fun hb => ?_)
  · rw [if_pos (by simp at hb; omega)]
    simp only [go_sem]
    exact .refl _
  rw [if_neg (by simp at hb; omega)]
  simp only [go_sem]
  refine PC.use (rTimes_c L dual hin hl hs) ?_
  have htr := times_right (ns := L) (xs := dual)
  generalize timesR L dual = T at *
  obtain ⟨t, e⟩ := T
  simp only [go_sem]
  refine acond_i (fun hb => ?_) (fun hb => ?_)
  · have he : e ≠ 0 := by simpa using hb
    rw [if_pos he]
    simp only [go_sem]
    exact .refl _
  have he : e = 0 := by simpa using hb
  rw [if_neg (by simpa using he)]
  have h8 := right_size' (htr he)
  simp only [go_sem]
  refine PC.use (rof_c c.price hp.1 hp.2) ?_
  simp only [go_sem]
  have hz := zed64_size hp.1 hp.2
  refine PC.use (rSub_c (zed c.price) t (by omega) (by simp only at h8; omega)) ?_
  simp only [go_sem]
  exact .refl _
def badC (x : Instance) (c : Column) : Bool := decide (c.type < 0) || decide (c.type ≥ (x.types.length : Int)) || decide (c.set ≤ 0) || !decide (c.set.toNat &&& allO x = c.set.toNat)
def wrongM (x : Instance) (d : Nat) (cols : List Column) (cuts : List Cut) (ds : List Decision) : Int :=
  if chkR x ds ≠ 0 then chkR x ds else if Dec.firstErr (cuts.map (rightC x d)) ≠ 0 then Dec.firstErr (cuts.map (rightC x d)) else if cols.any (badC x) = true then 2 else 0
theorem wrong_c (x : Instance) (d : Nat) (cols : List Column) (cuts : List Cut) (ds : List Decision) (hlo : LoadsOk x d) (hne : x.types ≠ []) (h : MIn x cuts ds) (hl : cols.length ≤ 1048576) (hs : ∀ c ∈ cols, c.set ≤ 9223372036854775807) :
    PC Tryz.prog 94 [.agg (encInstance x), .sl (cols.map encColumn), .sl (cuts.map encCut), .sl (ds.map encDecision)] (int (wrongM x d cols cuts ds)) := by
  have h1 := h.orders
  have h2 := h.types
  have h3 := h.cl
  have h4 := h.dl
  unfold wrongM
  refine PC.body (c := Tryz.f94.body.getD .skip) (fun _ => false) mixed Tryz.func94 rfl (by kernel_rfl) ?_
  unfold Tryz.f94
  simp only [Option.getD_some]
  simp only [go_sem]
  refine PC.use (Dec.chk_c x ds h4) ?_
  simp only [go_sem]
  refine acond_i (fun hb => ?_) (fun hb => ?_)
  · rw [if_pos (by simpa using hb)]
    simp only [go_sem]
    exact .refl _
  rw [if_neg (by simpa using hb)]
  simp only [go_sem, List.length_map]
  refine ⟨fun ρ H => ∃ (k : Nat), k ≤ cuts.length ∧ ρ 1 = .sl (cols.map encColumn) ∧ ρ 4 = .rp (encInstance x) 0 ∧ ρ 22 = .sl (cuts.map encCut) ∧ ρ 23 = int (cuts.length : Nat) ∧ ρ 24 = int k ∧ ∀ e ∈ (cuts.map (rightC x d)).take k, e = 0, fun ρ _ => cuts.length - natOf (ρ 24), ⟨0, Nat.zero_le _, by simp only [go_sem], by simp only [go_sem], by simp only [go_sem], by simp only [go_sem, List.length_map], (by simp only [go_sem]; rfl), by simp⟩, ?_⟩
  rintro ρ H ⟨k, hk, e1, e4, e22, e23, e24, hz⟩
  simp only [go_sem, e1, e4, e22, e23, e24]
  refine acond_i (fun hlt => ?_) (fun hge => ?_)
  · have hlt := ltB (by simpa using hlt)
    obtain ⟨q, hq⟩ := getIn hlt
    have b1 := inB hlt
    have hm : (cuts.map (rightC x d))[k]? = some (rightC x d q) := by rw [List.getElem?_map, hq]; rfl
    simp only [go_sem, e1, e4, e22, e23, e24, getD_map hq, b1]
    refine anew_i fun i11 hi110 => ?_
    simp only [go_sem, e1, e4, e22, e23, e24]
    refine wputE_n (updH_same _ _ _) (by simp [encCut_len]) ?_
    generalize hGi11 : updH (updH _ i11 _) i11 _ = HGi11
    have R11 : HGi11 i11 = some (⟨23, 3, [encCut q]⟩) := by rw [← hGi11, updH_same]; rfl
    clear hGi11 hi110
    simp only [go_sem, e1, e4, e22, e23, e24, R11]
    refine PC.use (rightC_c x d q hlo hne) ?_
    simp only [go_sem, e1, e4, e22, e23, e24]
    refine acond_i (fun hb => ?_) (fun hb => ?_)
    · have he := Dec.firstErr_hit hz hm hb
      rw [if_pos (by rw [he]; simpa using hb), he]
      simp only [go_sem]
      exact .refl _
    · simp only [go_sem, e1, e4, e22, e23, e24, wrapS (show k ≤ 4611686018427387904 by omega)]
      exact ⟨⟨k + 1, hlt, rfl, take_all' (p := fun e : Int => e = 0) hm (by simpa using hb) hz⟩, by simp only [natOf_int]; omega⟩
  have hge := geB hk (by simpa using hge)
  subst hge
  rw [List.take_of_length_le (by rw [List.length_map]; exact Nat.le_refl _)] at hz
  rw [if_neg (by rw [Dec.firstErr_none hz]; simp)]
  simp only [go_sem, e1, e4, e22, e23, e24]
  refine PC.use (all_c x h1) ?_
  simp only [go_sem, e1, e4, e22, e23, e24, List.length_map]
  refine ⟨fun ρ H => ∃ (k : Nat), k ≤ cols.length ∧ ρ 4 = .rp (encInstance x) 0 ∧ ρ 13 = int (allO x : Nat) ∧ ρ 37 = .sl (cols.map encColumn) ∧ ρ 38 = int (cols.length : Nat) ∧ ρ 39 = int k ∧ ∀ c ∈ cols.take k, badC x c = false, fun ρ _ => cols.length - natOf (ρ 39), ⟨0, Nat.zero_le _, by simp only [go_sem, e4], by simp only [go_sem, e4], by simp only [go_sem, e4], by simp only [go_sem, List.length_map, e4], (by simp only [go_sem, e4]; rfl), by simp⟩, ?_⟩
  rintro ρ H ⟨k, hk, e4, e13, e37, e38, e39, hz⟩
  simp only [go_sem, e4, e13, e37, e38, e39]
  refine acond_i (fun hlt => ?_) (fun hge => ?_)
  · have hlt := ltB (by simpa using hlt)
    obtain ⟨c, hc⟩ := getIn hlt
    have b1 := inB hlt
    have hcs := hs c (List.mem_of_getElem? hc)
    simp only [go_sem, e4, e13, e37, e38, e39, getD_map hc, b1]
    refine anew_i fun i15 hi150 => ?_
    simp only [go_sem, e4, e13, e37, e38, e39]
    refine wputE_n (updH_same _ _ _) (by simp [encColumn_len]) ?_
    generalize hGi15 : updH (updH _ i15 _) i15 _ = HGi15
    have R15 : HGi15 i15 = some (⟨63, 7, [encColumn c]⟩) := by rw [← hGi15, updH_same]; rfl
    clear hGi15 hi150
    simp only [go_sem, e4, e13, e37, e38, e39, R15]
    have hbad : (decide (c.type < 0) || decide (c.type ≥ (x.types.length : Int)) || decide (c.set ≤ 0) || (bitV .andNot .i64 c.set ((allO x : Nat) : Int) != 0)) = badC x c := by
      unfold badC
      by_cases h0 : c.set ≤ 0
      · rw [decide_eq_true h0]; simp
      · obtain ⟨s, hs'⟩ := Int.eq_ofNat_of_zero_le (show 0 ≤ c.set by omega)
        have ha63 : allO x < 2 ^ 63 := Nat.lt_of_lt_of_le (suchN_lt _ _) (Nat.pow_le_pow_right (by decide) (by omega))
        rw [hs', bne, within_nat (by omega) ha63, Int.toNat_natCast]
    refine acond_i (fun hb => ?_) (fun hb => ?_)
    · have hb : badC x c = true := by rw [← hbad]; exact hb
      rw [if_pos (List.any_eq_true.2 ⟨c, List.mem_of_getElem? hc, hb⟩)]
      simp only [go_sem]
      exact .refl _
    · have hb : badC x c = false := by rw [← hbad]; exact hb
      simp only [go_sem, e4, e13, e37, e38, e39, wrapS (show k ≤ 4611686018427387904 by omega)]
      exact ⟨⟨k + 1, hlt, rfl, take_all' (p := fun c => badC x c = false) hc hb hz⟩, by simp only [natOf_int]; omega⟩
  have hge := geB hk (by simpa using hge)
  subst hge
  rw [List.take_length] at hz
  have hany : ¬ cols.any (badC x) = true := by
    intro hc
    obtain ⟨c, hc1, hc2⟩ := List.any_eq_true.1 hc
    rw [hz c hc1] at hc2; cases hc2
  rw [if_neg hany]
  simp only [go_sem, e4, e13, e37, e38, e39]
  exact .refl _
end Go.Proofs.YtbcfajfngdmgnaaGreatDoor.Nu
end
