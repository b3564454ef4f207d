/- drive: run, beats, grow, Best -/
import Derived.Test.YtbefdpmjpioijaaGreatDoorAuG
set_option linter.unusedSimpArgs false
set_option linter.unusedVariables false
namespace Go.Proofs.YtbefdpmjpioijaaGreatDoor.Sq
open Go.Aw Go.Aw.D Go.Proofs Ty
open Mv (convI convB convA NC.pc take_allP)
set_option maxRecDepth 100000

def runP (x : Instance) (t : VType) (st : List Stop) : List Bool → Nat → Lab → Except Int Lab
  | [], _, l => .ok l
  | b :: bs, k, l => match stepP x t st k l b with
    | .error e => .error e
    | .ok l' => runP x t st bs (k + 1) l'
def sheetOf (e : Except Int Lab) : Sheet := match e with | .ok l => l.sheet | .error _ => zeroSheet
theorem stepP_err {x : Instance} {t : VType} {st : List Stop} {k : Nat} {l : Lab} {b : Bool} {e : Int} (h : stepP x t st k l b = .error e) : e ≠ 0 := by
  unfold stepP at h
  split at h
  · exact nextV_err h
  · exact nextE_err h
theorem stepP_times {x : Instance} {t : VType} {st : List Stop} {k : Nat} {l l' : Lab} {b : Bool} (hk : k < st.length) (hl : l.sheet.times.length = k) (h : stepP x t st k l b = .ok l') : l'.sheet.times.length = k + 1 := by
  unfold stepP at h
  rw [List.getElem?_eq_getElem hk] at h
  simp only at h
  unfold nextV at h
  split at h
  · cases h
  · split at h
    · cases h
    · split at h
      · cases h
      · injection h with h
        subst h
        simp [sheetV, (setDep_miles _ _ _ _).2.2, hl]
theorem trun_c (x : Instance) (t : VType) (r : Route) (st : List Stop) (bs : List Bool) (hn : NetOk x.net) (hst : st.length ≤ 1048575) (hb : bs.length ≤ st.length + 1) :
    PC Tryz.prog 94 [.agg (encTrip x t r st), .sl (bs.map encBool)] (.tup [.agg (encSheet (sheetOf (runP x t st bs 0 (lab0 t r)))), int (errD (runP x t st bs 0 (lab0 t r)))]) := by
  refine PC.body (c := Tryz.f94.body.getD .skip) (fun _ => false) mixed Tryz.func94 rfl (by kernel_rfl) ?_
  unfold Tryz.f94
  simp only [Option.getD_some]
  simp only [go_sem]
  refine anew_i fun i4 hi40 => ?_
  generalize hGi4 : updH _ i4 _ = HGi4
  have R4 : HGi4 i4 = some (sheetRow (encSheet zeroSheet)) := by rw [← hGi4, updH_same]; rfl
  clear hGi4 hi40
  simp only [go_sem, R4]
  refine PC.use (tbegin_c x t r st) ?_
  simp only [go_sem]
  refine anew_i fun i6 hi60 => ?_
  have ne_i4_i6 : i4 ≠ i6 := ne_new R4 hi60
  simp only [go_sem, R4]
  refine wputE_n (updH_same _ _ _) (by simp [encLab_len]) ?_
  generalize hGi6 : updH (updH _ i6 _) i6 _ = HGi6
  replace R4 := (congrFun hGi6.symm i4).trans ((updH_ne _ _ _ _ ne_i4_i6).trans ((updH_ne _ _ _ _ ne_i4_i6).trans R4))
  have R6 : HGi6 i6 = some (labRow (encLab (lab0 t r))) := by rw [← hGi6, updH_same]; rfl
  clear hGi6 hi60
  simp only [go_sem, R6, R4]
  refine ⟨fun ρ H => ∃ (k : Nat) (l : Lab), k ≤ bs.length ∧ ρ 2 = .rp (encTrip x t r st) 0 ∧ ρ 4 = .op i4 0 0 ∧ ρ 6 = .op i6 0 0 ∧ ρ 13 = .sl (bs.map encBool) ∧ ρ 14 = int bs.length ∧ ρ 15 = int k ∧ H i4 = some (sheetRow (encSheet zeroSheet)) ∧ H i6 = some (labRow (encLab l)) ∧ (k ≤ st.length → l.sheet.times.length = k) ∧ runP x t st bs 0 (lab0 t r) = runP x t st (bs.drop k) k l, fun ρ _ => bs.length - natOf (ρ 15),
    ⟨0, lab0 t r, Nat.zero_le _, by simp only [go_sem], by simp only [go_sem], by simp only [go_sem], by simp only [go_sem], by simp only [go_sem, List.length_map], by simp only [go_sem]; rfl, R4, R6, fun _ => rfl, rfl⟩, ?_⟩
  clear R4 R6
  rintro ρ H ⟨k, l, hk, h2, h4, h6, h13, h14, h15, R4, R6, hl, he⟩
  simp only [go_sem, h2, h4, h6, h13, h14, h15]
  refine acond_i (fun hlt => ?_) (fun hge => ?_)
  · have hlt := le_of_lt_b hlt
    obtain ⟨b, hbk⟩ := getIn hlt
    have b1 := inB hlt
    rw [drop_get hbk, runP] at he
    simp only [go_sem, h2, h4, h6, h13, h14, h15, getD_map hbk, b1, encBool, R6]
    refine PC.use (next_c x t r st l k b hn (by omega) (by omega) (hl (by omega))) ?_
    simp only [go_sem, h2, h4, h6, h13, h14, h15]
    refine anew_i fun i9 hi90 => ?_
    have ne_i4_i9 : i4 ≠ i9 := ne_new R4 hi90
    have ne_i6_i9 : i6 ≠ i9 := ne_new R6 hi90
    simp only [go_sem, h2, h4, h6, h13, h14, h15, R4, R6]
    refine wputE_n (updH_same _ _ _) (by simp [encLab_len]) ?_
    generalize hGi9 : updH (updH _ i9 _) i9 _ = HGi9
    replace R4 := (congrFun hGi9.symm i4).trans ((updH_ne _ _ _ _ ne_i4_i9).trans ((updH_ne _ _ _ _ ne_i4_i9).trans R4))
    replace R6 := (congrFun hGi9.symm i6).trans ((updH_ne _ _ _ _ ne_i6_i9).trans ((updH_ne _ _ _ _ ne_i6_i9).trans R6))
    have R9 : HGi9 i9 = some (labRow (encLab (labOf (stepP x t st k l b)))) := by rw [← hGi9, updH_same]; rfl
    clear hGi9 hi90
    simp only [go_sem, h2, h4, h6, h13, h14, h15, R9, R4, R6]
    cases hs : stepP x t st k l b with
    | error e =>
      rw [hs] at he
      have hne := stepP_err hs
      refine acond_i (fun _ => ?_) (fun hb => by simp [errD] at hb; exact absurd hb hne)
      simp only [go_sem, h4]
      refine wputE_n R4 (by simp) ?_
      simp only [go_sem, h4]
      rw [he]
      exact .refl _
    | ok l' =>
      rw [hs] at he R9
      refine acond_i (fun hb => by simp [errD] at hb) (fun _ => ?_)
      simp only [go_sem, h2, h4, h6, h13, h14, h15, R9]
      refine wputE_n R6 (by simp [encLab_len]) ?_
      generalize hP : updH _ i6 _ = HP
      replace R4 := (congrFun hP.symm i4).trans ((updH_ne _ _ _ _ (by first | exact ne_i4_i6 | exact ne_i6_i4.symm)).trans R4)
      replace R6 : HP i6 = some (labRow (encLab l')) := by rw [← hP, updH_same]; rfl
      clear hP
      simp only [go_sem, h2, h4, h6, h13, h14, h15, wrapS (show k ≤ 4611686018427387904 by omega), R6, R4]
      exact ⟨⟨k + 1, l', hlt, rfl, rfl, fun hk1 => stepP_times (by omega) (hl (by omega)) hs, he⟩, by simp only [natOf_int]; omega⟩
  · have hge := eq_of_ge_b hk hge
    subst hge
    rw [List.drop_length, runP] at he
    simp only [go_sem, h4, h6, R6]
    refine wputE_n R4 (by simp [encSheet_len]) ?_
    simp only [go_sem, h4]
    rw [he]
    exact .refl _
/-! ### grow -/
theorem beats_c (l m : Lab) : PC Tryz.prog 131 [.agg (encLab l), .agg (encLab m)] (boo (beatsB l m)) := by
  refine PC.body (c := Tryz.f131.body.getD .skip) (fun _ => false) mixed Tryz.func131 rfl (by kernel_rfl) ?_
  unfold Tryz.f131
  simp only [Option.getD_some]
  simp only [go_sem]
  exact .refl _
theorem grow1_c (l m : Lab) : PC Tryz.prog 130 [.agg (encLab l), .rp (encLab m) 0] (boo (beatsB l m)) := by
  refine PC.body (c := Tryz.f130.body.getD .skip) (fun _ => false) mixed Tryz.func130 rfl (by kernel_rfl) ?_
  unfold Tryz.f130
  simp only [Option.getD_some]
  simp only [go_sem]
  refine PC.use (beats_c l m) ?_
  simp only [go_sem]
  exact .refl _
theorem indexFuncB_c {g : Nat} {cap : List AV} {p : Lab → Bool} (l : List Lab) (hl : l.length ≤ 4000000000000000000) (hok : callOk Tryz.prog g = true) (hg : ∀ v ∈ l, PC Tryz.prog g (.agg (encLab v) :: cap) (boo (p v))) :
    PC Tryz.prog 153 [.sl (l.map encLab), .fn g cap] (int (idxF p l 0)) := by
  refine PC.body (c := Tryz.f153.body.getD .skip) (fun _ => false) mixed Tryz.func153 rfl (by kernel_rfl) ?_
  unfold Tryz.f153
  simp only [Option.getD_some]
  simp only [go_sem]
  refine ⟨fun ρ _ => ∃ k : Nat, k ≤ l.length ∧ ρ 0 = .sl (l.map encLab) ∧ ρ 1 = .fn g cap ∧ ρ 7 = int l.length ∧ ρ 8 = int k ∧ ∀ u ∈ l.take k, p u = false, fun ρ _ => l.length - natOf (ρ 8), ⟨0, Nat.zero_le _, rfl, rfl, rfl, rfl, by simp⟩, ?_⟩
  rintro ρ H ⟨k, hk, h0, h1, h7, h8, hz⟩
  simp only [go_sem, h0, h1, h7, h8]
  refine acond_i (fun hlt => ?_) (fun hge => ?_)
  · have hlt := le_of_lt_b hlt
    obtain ⟨u, hu⟩ := getIn hlt
    have b1 := inB hlt
    simp only [go_sem, h0, h1, h7, h8, getD_map hu, b1, hok]
    refine PC.use (hg u (List.mem_of_getElem? hu)) ?_
    simp only [go_sem, h0, h1, h7, h8]
    refine acond_i (fun hb => ?_) (fun hb => ?_)
    · simp only [go_sem, h8]
      exact convI (by rw [idxF_hit hz hu hb]; omega)
    · simp only [go_sem, h0, h1, h7, h8, wrapS (show k ≤ 4611686018427387904 by omega)]
      exact ⟨⟨k + 1, hlt, rfl, take_allP (p := fun u => p u = false) hu hb hz⟩, by simp only [natOf_int]; omega⟩
  · have hge := eq_of_ge_b hk hge
    subst hge
    rw [List.take_length] at hz
    simp only [go_sem]
    exact convI (by rw [idxF_miss hz])
theorem containsFuncB_c {g : Nat} {cap : List AV} {p : Lab → Bool} (l : List Lab) (hl : l.length ≤ 4000000000000000000) (hok : callOk Tryz.prog g = true) (hg : ∀ v ∈ l, PC Tryz.prog g (.agg (encLab v) :: cap) (boo (p v))) :
    PC Tryz.prog 129 [.sl (l.map encLab), .fn g cap] (boo (l.any p)) := by
  refine PC.body (c := Tryz.f129.body.getD .skip) (fun _ => false) mixed Tryz.func129 rfl (by kernel_rfl) ?_
  unfold Tryz.f129
  simp only [Option.getD_some]
  simp only [go_sem]
  refine PC.use (indexFuncB_c l hl hok hg) ?_
  simp only [go_sem]
  exact convB (idxF_any l 0 (Int.le_refl _))
/-- the labels that come out of one label -/
def fromP (x : Instance) (t : VType) (st : List Stop) (k : Nat) (out : List Lab) (l : Lab) (bs : List Bool) : List Lab := (bs.map fun b => stepP x t st k l b).foldl addL out
def growP (x : Instance) (t : VType) (r : Route) (st : List Stop) (ls : List Lab) (k : Nat) : List Lab := ls.foldl (fun out l => fromP x t st k out l (choicesD r.rests k)) []
theorem addL_len (out : List Lab) (e : Except Int Lab) : (addL out e).length ≤ out.length + 1 := by
  unfold addL
  split
  · omega
  · split
    · omega
    · simp
theorem choices_len (f : List Bool) (k : Nat) : (choicesD f k).length ≤ 2 := by unfold choicesD; split <;> simp
theorem fromP_len (x : Instance) (t : VType) (st : List Stop) (k : Nat) (l : Lab) : ∀ (bs : List Bool) (out : List Lab), (fromP x t st k out l bs).length ≤ out.length + bs.length
  | [], out => by simp [fromP]
  | b :: bs, out => by
    have := fromP_len x t st k l bs (addL out (stepP x t st k l b))
    have h2 := addL_len out (stepP x t st k l b)
    simp only [fromP, List.map_cons, List.foldl_cons, List.length_cons] at this ⊢
    omega
theorem growP_len (x : Instance) (t : VType) (r : Route) (st : List Stop) (k : Nat) : ∀ (ls : List Lab) (out : List Lab), (ls.foldl (fun out l => fromP x t st k out l (choicesD r.rests k)) out).length ≤ out.length + 2 * ls.length
  | [], out => by simp
  | l :: ls, out => by
    have := growP_len x t r st k ls (fromP x t st k out l (choicesD r.rests k))
    have h2 := fromP_len x t st k l (choicesD r.rests k) out
    have h3 := choices_len r.rests k
    simp only [List.foldl_cons, List.length_cons] at this ⊢
    omega
abbrev labsRow (l : List Lab) : Row := ⟨148, 7, l.map encLab⟩
theorem labs_all : ∀ l : List Lab, allLen 7 (l.map encLab)
  | [] => trivial
  | _ :: r => ⟨rfl, labs_all r⟩
theorem bool_all : ∀ l : List Bool, allLen 1 (l.map encBool)
  | [] => trivial
  | _ :: r => ⟨rfl, bool_all r⟩
theorem fromP_succ {x : Instance} {t : VType} {st : List Stop} {k m : Nat} {out : List Lab} {l : Lab} {bs : List Bool} {b : Bool} (h : bs[m]? = some b) : fromP x t st k out l (bs.take (m + 1)) = addL (fromP x t st k out l (bs.take m)) (stepP x t st k l b) := by
  unfold fromP
  rw [take_succ h, List.map_append, List.foldl_append]; rfl
theorem grow_c (x : Instance) (t : VType) (r : Route) (st : List Stop) (ls : List Lab) (k : Nat) (hn : NetOk x.net) (hst : st.length ≤ 1048575) (hk : k ≤ st.length) (hls : ls.length ≤ 4194304) (hl : ∀ l ∈ ls, l.sheet.times.length = k) :
    PC Tryz.prog 93 [.agg (encTrip x t r st), .sl (ls.map encLab), int k] (.sl ((growP x t r st ls k).map encLab)) := by
  refine PC.body (c := Tryz.f93.body.getD .skip) (fun t => t == 8) mixed Tryz.func93 rfl (by kernel_rfl) ?_
  unfold Tryz.f93
  simp only [Option.getD_some]
  simp only [go_sem]
  refine acond_join (fun ρ' H' => ρ' 1 = .sl (ls.map encLab) ∧ ρ' 2 = int k ∧ ρ' 3 = .rp (encTrip x t r st) 0 ∧ ρ' 7 = .sl ((choicesD r.rests k).map encBool)) ?_ fun K hK => acond_i (fun hb => ?_) (fun hb => ?_)
  rotate_left
  · have hb : k < r.rests.length := by simp at hb; omega
    simp only [go_sem, wrapS (show k ≤ 4611686018427387904 by omega)]
    refine ⟨⟨by omega, bool_all _⟩, hK _ _ ⟨by simp only [go_sem], by simp only [go_sem], by simp only [go_sem], ?_⟩⟩
    simp only [go_sem]
    have : choicesD r.rests k = (r.rests.take (k + 1)).drop k := by
      obtain ⟨c, hc⟩ := getIn hb
      unfold choicesD
      rw [if_pos hb, take_succ hc, List.drop_append_of_le_length (by simp; omega), List.drop_of_length_le (by simp; omega)]
      simp [List.getD, hc]
    rw [this, List.map_drop, List.map_take]
  · have hb : ¬ k < r.rests.length := by simp at hb; omega
    simp only [go_sem]
    refine hK _ _ ⟨by simp only [go_sem], by simp only [go_sem], by simp only [go_sem], ?_⟩
    simp only [go_sem]
    unfold choicesD
    rw [if_neg hb]; rfl
  rintro ρ H ⟨h1, h2, h3, h7⟩
  simp only [go_sem, h1, h2, h3, h7]
  refine anew_i fun j0 hj0 => ?_
  simp only [go_sem, h1, h2, h3, h7]
  have hcl := choices_len r.rests k
  generalize hC : choicesD r.rests k = cs at *
  refine ⟨fun ρ H => ∃ (n : Nat) (j : Nat), n ≤ ls.length ∧ ρ 2 = int k ∧ ρ 3 = .rp (encTrip x t r st) 0 ∧ ρ 7 = .sl (cs.map encBool) ∧ ρ 29 = .sl (ls.map encLab) ∧ ρ 30 = int ls.length ∧ ρ 31 = int n ∧ ρ 8 = .os j ∧ H j = some (labsRow ((ls.take n).foldl (fun out l => fromP x t st k out l cs) [])), fun ρ _ => ls.length - natOf (ρ 31),
    ⟨0, j0, Nat.zero_le _, by simp only [go_sem, h2], by simp only [go_sem, h3], by simp only [go_sem, h7], by simp only [go_sem], by simp only [go_sem, List.length_map], by simp only [go_sem]; rfl, by simp only [go_sem], updH_same _ _ _⟩, ?_⟩
  clear h1 h2 h3 h7 hj0 j0
  rintro ρ H ⟨n, j, hnn, h2, h3, h7, h29, h30, h31, h8, R⟩
  simp only [go_sem, h2, h3, h7, h29, h30, h31, h8]
  refine acond_i (fun hlt => ?_) (fun hge => ?_)
  · have hlt := le_of_lt_b hlt
    obtain ⟨l, hln⟩ := getIn hlt
    have b1 := inB hlt
    have hll := hl l (List.mem_of_getElem? hln)
    have hol : ((ls.take n).foldl (fun out l => fromP x t st k out l cs) []).length ≤ 2 * n := by
      have := growP_len x t r st k (ls.take n) []
      rw [hC] at this
      simp at this; omega
    have hfold : (ls.take (n + 1)).foldl (fun out l => fromP x t st k out l cs) [] = fromP x t st k ((ls.take n).foldl (fun out l => fromP x t st k out l cs) []) l cs := foldl_take hln
    generalize hO : (ls.take n).foldl (fun out l => fromP x t st k out l cs) [] = out0 at *
    simp only [go_sem, h2, h3, h7, h29, h30, h31, h8, getD_map hln, b1]
    refine anew_i fun i10 hi100 => ?_
    have ne_j_i10 : j ≠ i10 := ne_new R hi100
    simp only [go_sem, h2, h3, h7, h29, h30, h31, h8, R]
    refine wputE_n (updH_same _ _ _) (by simp [encLab_len]) ?_
    generalize hGi10 : updH (updH _ i10 _) i10 _ = HGi10
    replace R := (congrFun hGi10.symm j).trans ((updH_ne _ _ _ _ ne_j_i10).trans ((updH_ne _ _ _ _ ne_j_i10).trans R))
    have R10 : HGi10 i10 = some (labRow (encLab l)) := by rw [← hGi10, updH_same]; rfl
    clear hGi10 hi100
    simp only [go_sem, h2, h3, h7, h29, h30, h31, h8, R10, R]
    refine ⟨fun ρ H => ∃ (m : Nat) (j : Nat), m ≤ cs.length ∧ ρ 2 = int k ∧ ρ 3 = .rp (encTrip x t r st) 0 ∧ ρ 7 = .sl (cs.map encBool) ∧ ρ 10 = .op i10 0 0 ∧ ρ 29 = .sl (ls.map encLab) ∧ ρ 30 = int ls.length ∧ ρ 31 = int n ∧ ρ 35 = .sl (cs.map encBool) ∧ ρ 36 = int cs.length ∧ ρ 37 = int m ∧ ρ 8 = .os j ∧ j ≠ i10 ∧ H i10 = some (labRow (encLab l)) ∧ H j = some (labsRow (fromP x t st k out0 l (cs.take m))), fun ρ _ => cs.length - natOf (ρ 37),
      ⟨0, j, Nat.zero_le _, by simp only [go_sem, h2], by simp only [go_sem, h3], by simp only [go_sem, h7], by simp only [go_sem], by simp only [go_sem, h29], by simp only [go_sem, h30], by simp only [go_sem, h31], by simp only [go_sem], by simp only [go_sem, List.length_map], by simp only [go_sem]; rfl, by simp only [go_sem, h8], ne_j_i10, R10, R⟩, ?_⟩
    clear h2 h3 h7 h29 h30 h31 h8 R R10 ne_j_i10 j
    rintro ρ H ⟨m, j, hm, h2, h3, h7, h10, h29, h30, h31, h35, h36, h37, h8, ne_j_i10, R10, R⟩
    simp only [go_sem, h2, h3, h7, h10, h29, h30, h31, h35, h36, h37, h8]
    refine acond_i (fun hlt2 => ?_) (fun hge2 => ?_)
    · have hlt2 := le_of_lt_b hlt2
      obtain ⟨b, hbm⟩ := getIn hlt2
      have b2 := inB hlt2
      have hfl := fromP_len x t st k l (cs.take m) out0
      have hf := fromP_succ (x := x) (t := t) (st := st) (k := k) (out := out0) (l := l) hbm
      have htl : (cs.take m).length ≤ 2 := by simp; omega
      simp only [go_sem, h2, h3, h7, h10, h29, h30, h31, h35, h36, h37, h8, getD_map hbm, b2, encBool, R10]
      refine PC.use (next_c x t r st l k b hn (by omega) hk hll) ?_
      simp only [go_sem, h2, h3, h7, h10, h29, h30, h31, h35, h36, h37, h8]
      refine anew_i fun i13 hi130 => ?_
      have ne_i10_i13 : i10 ≠ i13 := ne_new R10 hi130
      have ne_j_i13 : j ≠ i13 := ne_new R hi130
      simp only [go_sem, h2, h3, h7, h10, h29, h30, h31, h35, h36, h37, h8, R10, R]
      refine wputE_n (updH_same _ _ _) (by simp [encLab_len]) ?_
      generalize hGi13 : updH (updH _ i13 _) i13 _ = HGi13
      replace R10 := (congrFun hGi13.symm i10).trans ((updH_ne _ _ _ _ ne_i10_i13).trans ((updH_ne _ _ _ _ ne_i10_i13).trans R10))
      replace R := (congrFun hGi13.symm j).trans ((updH_ne _ _ _ _ ne_j_i13).trans ((updH_ne _ _ _ _ ne_j_i13).trans R))
      have R13 : HGi13 i13 = some (labRow (encLab (labOf (stepP x t st k l b)))) := by rw [← hGi13, updH_same]; rfl
      clear hGi13 hi130
      simp only [go_sem, h2, h3, h7, h10, h29, h30, h31, h35, h36, h37, h8, R13, R10, R]
      generalize hF : fromP x t st k out0 l (cs.take m) = out at *
      cases hs : stepP x t st k l b with
      | error e =>
        rw [hs] at hf R13
        have hne : (e == 0) = false := by simpa using stepP_err hs
        refine ⟨boo false, fun hg => by simp [gt, errD, hne] at hg, ?_⟩
        simp only [go_sem, errD, hne]
        refine acond_i (fun hb => by simp at hb) (fun _ => ?_)
        simp only [go_sem, h2, h3, h7, h10, h29, h30, h31, h35, h36, h37, h8, wrapS (show m ≤ 4611686018427387904 by omega)]
        exact ⟨⟨m + 1, j, hlt2, rfl, rfl, ne_j_i10, R10, by rw [hf]; exact R⟩, by simp only [natOf_int]; omega⟩
      | ok l' =>
        rw [hs] at hf R13
        refine ⟨_, fun _ => .inl ⟨[.sl (out.map encLab), .fn 130 [.rp (encLab l') 0]], .cons _ _ _ _ (.row _ _ _ R (ConvE.refl _)) (.cons _ _ _ _ (.fn _ _ _ (.cons _ _ _ _ (.ptr _ _ _ _ _ R13 (by simp) (ConvL.refl _)) .nil)) .nil), containsFuncB_c out (by omega) (by simp only [go_sem]) fun v _ => grow1_c v l', rfl⟩, ?_⟩
        simp only [go_sem, errD, h2, h3, h7, h10, h29, h30, h31, h35, h36, h37, h8]
        refine acond_i (fun hb => ?_) (fun hb => ?_)
        · have hb : (out.any fun v => beatsB v l') = false := by simpa using hb
          simp only [go_sem, h2, h3, h7, h10, h29, h30, h31, h35, h36, h37, h8, R13]
          refine wappE_i R ⟨rfl, rfl⟩ ⟨rfl, trivial⟩ (by simp only [List.length_map, List.length_cons, List.length_nil]; omega) (fun j' hj' => ?_)
          have ne_i10_j' : i10 ≠ j' := ne_new R10 hj'
          simp only [go_sem, h2, h3, h7, h10, h29, h30, h31, h35, h36, h37, h8, wrapS (show m ≤ 4611686018427387904 by omega)]
          refine ⟨⟨m + 1, j', hlt2, rfl, rfl, ne_i10_j'.symm, keep_app R10 ne_j_i10 hj', ?_⟩, by simp only [natOf_int]; omega⟩
          have e1 : addL out (.ok l') = out ++ [l'] := by
            show (if (out.any fun v => beatsB v l') = true then out else out ++ [l']) = _
            rw [if_neg (by rw [hb]; simp)]
          rw [hf, e1]
          exact row_appG (l' := [l']) rfl
        · have hb : (out.any fun v => beatsB v l') = true := by simpa using hb
          simp only [go_sem, h2, h3, h7, h10, h29, h30, h31, h35, h36, h37, h8, wrapS (show m ≤ 4611686018427387904 by omega)]
          refine ⟨⟨m + 1, j, hlt2, rfl, rfl, ne_j_i10, R10, ?_⟩, by simp only [natOf_int]; omega⟩
          have e1 : addL out (.ok l') = out := by
            show (if (out.any fun v => beatsB v l') = true then out else out ++ [l']) = _
            rw [if_pos hb]
          rw [hf, e1]
          exact R
    · have hge2 := eq_of_ge_b hm hge2
      subst hge2
      rw [List.take_length] at R
      simp only [go_sem, h2, h3, h7, h29, h30, h31, h8, wrapS (show n ≤ 4611686018427387904 by omega)]
      exact ⟨⟨n + 1, j, hlt, rfl, rfl, by rw [hfold]; exact R⟩, by simp only [natOf_int]; omega⟩
  · have hge := eq_of_ge_b hnn hge
    subst hge
    rw [List.take_length] at R
    simp only [go_sem, h8]
    unfold growP
    rw [hC]
    exact .row _ _ _ R (ConvE.refl _)
/-! ### Best -/
def dpP (x : Instance) (t : VType) (r : Route) (st : List Stop) : Nat → List Lab
  | 0 => [lab0 t r]
  | k + 1 => growP x t r st (dpP x t r st k) k
def bestS (b m : Lab) : Lab := if decide (m.sheet.end_ < b.sheet.end_) = true then m else b
def bestT (x : Instance) (t : VType) (r : Route) : Sheet × Int := match dpP x t r (stopsL x r.visits) (r.visits.length + 1) with
  | [] => (sheetOf (runP x t (stopsL x r.visits) (rests0 r) 0 (lab0 t r)), errD (runP x t (stopsL x r.visits) (rests0 r) 0 (lab0 t r)))
  | l0 :: ls => ((ls.foldl bestS l0).sheet, 0)
def bestP (x : Instance) (r : Route) : Sheet × Int :=
  if (!possible18 x r || decide ((r.rests.length : Int) > (r.visits.length : Int) + 1)) = true then (zeroSheet, 2) else match x.types[r.type.toNat]? with
  | some t => bestT x t r
  | none => (zeroSheet, 2)
theorem mem_addL {out : List Lab} {e : Except Int Lab} {m : Lab} (h : m ∈ addL out e) : m ∈ out ∨ e = .ok m := by
  unfold addL at h
  split at h
  · exact .inl h
  · rename_i l
    split at h
    · exact .inl h
    · rcases List.mem_append.1 h with h | h
      · exact .inl h
      · simp at h; exact .inr (by rw [h])
theorem mem_fromP {x : Instance} {t : VType} {st : List Stop} {k : Nat} {l m : Lab} : ∀ (bs : List Bool) (out : List Lab), m ∈ fromP x t st k out l bs → m ∈ out ∨ ∃ b, stepP x t st k l b = .ok m
  | [], out, h => .inl h
  | b :: bs, out, h => by
    rcases mem_fromP bs (addL out (stepP x t st k l b)) h with h | h
    · rcases mem_addL h with h | h
      · exact .inl h
      · exact .inr ⟨b, h⟩
    · exact .inr h
theorem mem_growP {x : Instance} {t : VType} {r : Route} {st : List Stop} {k : Nat} {m : Lab} : ∀ (ls : List Lab) (out : List Lab), m ∈ ls.foldl (fun out l => fromP x t st k out l (choicesD r.rests k)) out → m ∈ out ∨ ∃ l ∈ ls, ∃ b, stepP x t st k l b = .ok m
  | [], out, h => .inl h
  | l :: ls, out, h => by
    rcases mem_growP ls _ h with h | ⟨l', hl', b, hb⟩
    · rcases mem_fromP _ _ h with h | ⟨b, hb⟩
      · exact .inl h
      · exact .inr ⟨l, by simp, b, hb⟩
    · exact .inr ⟨l', by simp [hl'], b, hb⟩
theorem dpP_times {x : Instance} {t : VType} {r : Route} {st : List Stop} : ∀ (k : Nat), k ≤ st.length → ∀ l ∈ dpP x t r st k, l.sheet.times.length = k
  | 0, _, l, h => by simp [dpP] at h; subst h; rfl
  | k + 1, hk, l, h => by
    rcases mem_growP _ _ h with h | ⟨l', hl', b, hb⟩
    · simp at h
    · exact stepP_times (by omega) (dpP_times k (by omega) l' hl') hb
theorem dpP_len (x : Instance) (t : VType) (r : Route) (st : List Stop) : ∀ k : Nat, (dpP x t r st k).length ≤ 2 ^ k
  | 0 => by simp [dpP]
  | k + 1 => by
    have h1 := growP_len x t r st k (dpP x t r st k) []
    have h2 := dpP_len x t r st k
    rw [Nat.pow_succ]
    simp only [dpP, growP] at h1 ⊢
    simp at h1
    omega
theorem planR_trip (x : Instance) (r : Route) : ∃ x' t' r' st', planR x r = (encTrip x' t' r' st', possible18 x r) ∧ (possible18 x r = true → x' = x ∧ r' = r ∧ st' = stopsL x r.visits ∧ x.types[r.type.toNat]? = some t') := by
  unfold planR
  cases hp : possible18 x r with
  | false => exact ⟨_, _, _, _, by rw [if_neg (by simp)], fun h => by simp at h⟩
  | true =>
    have := possible_type hp
    obtain ⟨t, ht⟩ := getIn (show r.type.toNat < x.types.length by omega)
    exact ⟨x, t, r, stopsL x r.visits, by rw [if_pos rfl, ht], fun _ => ⟨rfl, rfl, rfl, ht⟩⟩
theorem best_c (x : Instance) (r : Route) (hn : NetOk x.net) (hr : r.visits.length ≤ 1048576) : PC Tryz.prog 52 [.agg (encInstance x), .agg (encRoute r)] (.tup [.agg (encSheet (bestP x r).1), int (bestP x r).2]) := by
  have w : IntKind.i64.wrap ((r.visits.length : Int) + 1) = (r.visits.length : Int) + 1 := wrap_in (by omega)
  refine PC.body (c := Tryz.f52.body.getD .skip) (fun t => t == 57) mixed Tryz.func52 rfl (by kernel_rfl) ?_
  unfold Tryz.f52
  simp only [Option.getD_some]
  simp only [go_sem]
  refine anew_i fun i4 hi40 => ?_
  generalize hGi4 : updH _ i4 _ = HGi4
  have R4 : HGi4 i4 = some (sheetRow (encSheet zeroSheet)) := by rw [← hGi4, updH_same]; rfl
  clear hGi4 hi40
  simp only [go_sem, R4]
  refine PC.use (plan_c x r hr) ?_
  simp only [go_sem]
  obtain ⟨x', t', r', st', hpl, hpt⟩ := planR_trip x r
  rw [hpl]
  refine anew_i fun i6 hi60 => ?_
  have ne_i4_i6 : i4 ≠ i6 := ne_new R4 hi60
  simp only [go_sem, w, R4]
  refine wputE_n (updH_same _ _ _) (by simp [encTrip_len]) ?_
  generalize hGi6 : updH (updH _ i6 _) i6 _ = HGi6
  replace R4 := (congrFun hGi6.symm i4).trans ((updH_ne _ _ _ _ ne_i4_i6).trans ((updH_ne _ _ _ _ ne_i4_i6).trans R4))
  have R6 : HGi6 i6 = some (tripRow (encTrip x' t' r' st')) := by rw [← hGi6, updH_same]; rfl
  clear hGi6 hi60
  simp only [go_sem, w, R6, R4]
  refine acond_i (fun h1 => ?_) (fun h1 => ?_)
  · simp only [go_sem]
    refine wputE_n R4 (by simp) ?_
    simp only [go_sem]
    have e : bestP x r = (zeroSheet, 2) := by unfold bestP; rw [if_pos h1]
    rw [e]
    exact .refl _
  have hp : possible18 x r = true := by
    rw [Bool.or_eq_false_iff] at h1
    simpa using h1.1
  have hrl : r.rests.length ≤ r.visits.length + 1 := by
    rw [Bool.or_eq_false_iff] at h1
    have := h1.2
    simp at this; omega
  have hty := possible_type hp
  obtain ⟨t, ht⟩ := getIn (show r.type.toNat < x.types.length by omega)
  have hv20 : r.visits.length ≤ 20 := by
    unfold possible18 at hp
    simp only [Bool.and_eq_true, Bool.not_eq_true', Bool.or_eq_false_iff, decide_eq_false_iff_not] at hp
    omega
  have eB : bestP x r = bestT x t r := by unfold bestP; rw [if_neg (by rw [h1]; simp), ht]
  obtain ⟨ex, er, es, ht'⟩ := hpt hp
  rw [ex, er, es] at R6
  rw [ht] at ht'
  injection ht' with ht'
  rw [← ht'] at R6
  clear hpl hpt ex er es ht'
  rw [eB]
  have hsl : (stopsL x r.visits).length = r.visits.length := by simp [stopsL]
  have hdl := dpP_len x t r (stopsL x r.visits)
  have hdt := dpP_times (x := x) (t := t) (r := r) (st := stopsL x r.visits)
  unfold bestT
  generalize hS : stopsL x r.visits = st at *
  simp only [go_sem, R6]
  refine PC.use (tbegin_c x t r st) ?_
  simp only [go_sem]
  refine ⟨fun ρ H => ∃ k : Nat, k ≤ r.visits.length + 1 ∧ ρ 3 = .rp (encRoute r) 0 ∧ ρ 4 = .op i4 0 0 ∧ ρ 6 = .op i6 0 0 ∧ ρ 8 = int ((r.visits.length : Int) + 1) ∧ ρ 38 = int ((r.visits.length : Int) + 1) ∧ ρ 39 = int k ∧ ρ 9 = .sl ((dpP x t r st k).map encLab) ∧ H i4 = some (sheetRow (encSheet zeroSheet)) ∧ H i6 = some (tripRow (encTrip x t r st)), fun ρ _ => r.visits.length + 1 - natOf (ρ 39),
    ⟨0, Nat.zero_le _, by simp only [go_sem], by simp only [go_sem], by simp only [go_sem], by simp only [go_sem], by simp only [go_sem], by simp only [go_sem]; rfl, by simp only [go_sem]; rfl, R4, R6⟩, ?_⟩
  clear R4 R6
  rintro ρ H ⟨k, hk, h3, h4, h6, h8, h38, h39, h9, R4, R6⟩
  simp only [go_sem, h3, h4, h6, h8, h38, h39, h9]
  refine acond_i (fun hlt => ?_) (fun hge => ?_)
  · have hlt : k ≤ r.visits.length := by simp at hlt; omega
    simp only [go_sem, h3, h4, h6, h8, h38, h39, h9, R6]
    have h2k : 2 ^ k ≤ 2 ^ 20 := Nat.pow_le_pow_right (by decide) (by omega)
    have := hdl k
    refine PC.use (grow_c x t r st (dpP x t r st k) k hn (by omega) (by omega) (by omega) (hdt k (by omega))) ?_
    simp only [go_sem, h3, h4, h6, h8, h38, h39, wrapS (show k ≤ 4611686018427387904 by omega)]
    exact ⟨⟨k + 1, by omega, rfl, rfl, R4, R6⟩, by simp only [natOf_int]; omega⟩
  have hge : k = r.visits.length + 1 := by simp at hge; omega
  subst hge
  simp only [go_sem, h3, h4, h6, h8, h9]
  cases hd : dpP x t r st (r.visits.length + 1) with
  | nil =>
    rw [hd] at h9
    refine acond_i (fun _ => ?_) (fun hb => by simp at hb)
    simp only [go_sem, h3, h4, h6, h8, h9]
    refine ⟨⟨by omega, by omega⟩, anew_i fun j hj => ?_⟩
    simp only [go_sem, h3, h4, h6, h8, h9]
    have etn : (((r.visits.length : Int) + 1)).toNat = r.visits.length + 1 := by omega
    refine wcopy_i el53 (updH_same _ _ _) (.inl ⟨rfl, rfl, rfl⟩) (.inl rfl) rfl (bool_all _) ?_
    have ne_i4_j := ne_new R4 hj
    have ne_i6_j := ne_new R6 hj
    generalize hG : updH (updH H j _) j _ = H1
    have Rj : H1 j = some (boolRow (rests0 r)) := by
      rw [← hG, updH_same, etn]
      exact congrArg (fun es => some (⟨4, 1, es⟩ : Row)) (copy_rests hrl)
    replace R4 := (congrFun hG.symm i4).trans (keepN R4 hj)
    replace R6 := (congrFun hG.symm i6).trans (keepN R6 hj)
    clear hG hj
    simp only [go_sem, h3, h4, h6, h8, h9, R6]
    refine afreeze_i (by simp only [go_sem]) Rj fun Hr hr0 hr => ?_
    replace R4 := (hr i4 ne_i4_j).trans R4
    simp only [go_sem, h3, h4, h6, h8, h9]
    refine PC.use (trun_c x t r st (rests0 r) hn (by omega) (by rw [rests0_len hrl, hsl]; exact Nat.le_refl _)) ?_
    simp only [go_sem, h3, h4, h6, h8, h9]
    refine wputE_n R4 (by simp [encSheet_len]) ?_
    simp only [go_sem, h4]
    exact .refl _
  | cons l0 ls =>
    rw [hd] at h9
    have hall := labs_all (l0 :: ls)
    have hl2 : (l0 :: ls).length ≤ 2 ^ 21 := by
      have := hdl (r.visits.length + 1)
      rw [hd] at this
      exact Nat.le_trans this (Nat.pow_le_pow_right (by decide) (by omega))
    refine acond_i (fun hb => by simp at hb; omega) (fun _ => ?_)
    have b1 : (0 : Int) ≤ 0 ∧ (0 : Int) < ((l0 :: ls).length : Int) := ⟨Int.le_refl _, by simp⟩
    simp only [go_sem, h3, h4, h6, h8, h9, getD_map (l := l0 :: ls) (k := 0) (x := l0) rfl, b1]
    refine ⟨by omega, ?_⟩
    refine anew_i fun i12 hi120 => ?_
    have ne_i4_i12 : i4 ≠ i12 := ne_new R4 hi120
    simp only [go_sem, h3, h4, h6, h8, h9, R4]
    refine wputE_n (updH_same _ _ _) (by simp [encLab_len]) ?_
    generalize hGi12 : updH (updH _ i12 _) i12 _ = HGi12
    replace R4 := (congrFun hGi12.symm i4).trans ((updH_ne _ _ _ _ ne_i4_i12).trans ((updH_ne _ _ _ _ ne_i4_i12).trans R4))
    have R12 : HGi12 i12 = some (labRow (encLab l0)) := by rw [← hGi12, updH_same]; rfl
    clear hGi12 hi120
    simp only [go_sem, h3, h4, h6, h8, h9, R12, R4]
    refine ⟨⟨by omega, labs_all ls⟩, ?_⟩
    refine ⟨fun ρ H => ∃ (m : Nat), m ≤ ls.length ∧ ρ 4 = .op i4 0 0 ∧ ρ 12 = .op i12 0 0 ∧ ρ 65 = .sl (ls.map encLab) ∧ ρ 66 = int ls.length ∧ ρ 67 = int m ∧ H i4 = some (sheetRow (encSheet zeroSheet)) ∧ H i12 = some (labRow (encLab ((ls.take m).foldl bestS l0))), fun ρ _ => ls.length - natOf (ρ 67),
      ⟨0, Nat.zero_le _, by simp only [go_sem, h4], by simp only [go_sem], by simp only [go_sem], by simp only [go_sem, List.length_map], by simp only [go_sem]; rfl, R4, R12⟩, ?_⟩
    clear h3 h4 h6 h8 h9 R4 R12 h38 h39 R6
    rintro ρ H ⟨m, hm, h4, h12, h65, h66, h67, R4, R12⟩
    simp only [go_sem, h4, h12, h65, h66, h67]
    refine acond_i (fun hlt => ?_) (fun hge => ?_)
    · have hlt := le_of_lt_b hlt
      obtain ⟨l, hlm⟩ := getIn hlt
      have b2 := inB hlt
      have hf : (ls.take (m + 1)).foldl bestS l0 = bestS ((ls.take m).foldl bestS l0) l := foldl_take hlm
      generalize (ls.take m).foldl bestS l0 = bl at *
      simp only [go_sem, h4, h12, h65, h66, h67, getD_map hlm, b2]
      refine anew_i fun i14 hi140 => ?_
      have ne_i4_i14 : i4 ≠ i14 := ne_new R4 hi140
      have ne_i12_i14 : i12 ≠ i14 := ne_new R12 hi140
      simp only [go_sem, h4, h12, h65, h66, h67, R4, R12]
      refine wputE_n (updH_same _ _ _) (by simp [encLab_len]) ?_
      generalize hGi14 : updH (updH _ i14 _) i14 _ = HGi14
      replace R4 := (congrFun hGi14.symm i4).trans ((updH_ne _ _ _ _ ne_i4_i14).trans ((updH_ne _ _ _ _ ne_i4_i14).trans R4))
      replace R12 := (congrFun hGi14.symm i12).trans ((updH_ne _ _ _ _ ne_i12_i14).trans ((updH_ne _ _ _ _ ne_i12_i14).trans R12))
      have R14 : HGi14 i14 = some (labRow (encLab l)) := by rw [← hGi14, updH_same]; rfl
      clear hGi14 hi140
      simp only [go_sem, h4, h12, h65, h66, h67, R14, R4, R12]
      refine acond_i (fun hb => ?_) (fun hb => ?_)
      · simp only [go_sem, h4, h12, h65, h66, h67, R14]
        refine wputE_n R12 (by simp [encLab_len]) ?_
        generalize hP : updH _ i12 _ = HP
        replace R4 := (congrFun hP.symm i4).trans ((updH_ne _ _ _ _ (by first | exact ne_i4_i12 | exact ne_i12_i4.symm)).trans R4)
        replace R12 : HP i12 = some (labRow (encLab l)) := by rw [← hP, updH_same]; rfl
        clear hP
        simp only [go_sem, h4, h12, h65, h66, h67, wrapS (show m ≤ 4611686018427387904 by simp at hl2; omega), R12, R4]
        exact ⟨⟨m + 1, hlt, rfl, by rw [hf]; unfold bestS; rw [if_pos hb]⟩, by simp only [natOf_int]; omega⟩
      · simp only [go_sem, h4, h12, h65, h66, h67, wrapS (show m ≤ 4611686018427387904 by simp at hl2; omega)]
        exact ⟨⟨m + 1, hlt, rfl, R4, by rw [hf]; unfold bestS; rw [if_neg (by rw [hb]; simp)]; exact R12⟩, by simp only [natOf_int]; omega⟩
    · have hge := eq_of_ge_b hm hge
      subst hge
      rw [List.take_length] at R12
      simp only [go_sem, h4, h12, R12]
      refine wputE_n R4 (by simp [encSheet_len]) ?_
      simp only [go_sem, h4]
      exact .refl _
end Go.Proofs.YtbefdpmjpioijaaGreatDoor.Sq
