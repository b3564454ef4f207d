/- Texts joined by a program: CuO, CuS, CuV. -/
import Derived.Test.YtbcfajfngdmgnaaGreatDoorZg35

section
set_option linter.unusedSimpArgs false
set_option linter.unusedVariables false
namespace Go.Proofs.YtbcfajfngdmgnaaGreatDoor.Nu
open Go.Aw Go.Aw.D Go.Proofs Ty Go.Nu Go.So Go.Sb
set_option maxRecDepth 100000
theorem ahead_c (a b : Broken) (ha : okBr a) (hb : okBr b) : PC Tryz.prog 77 [.agg (encBroken a), .agg (encBroken b)] (boo (ltBr a b)) := by
  have sa := right_size' ha
  have sb := right_size' hb
  unfold okBr at ha hb
  have e : cmpR a.by_ b.by_ = cmpQ (valR a.by_) (valR b.by_) := by unfold cmpR; rw [ha, hb]; rfl
  refine PC.body (c := Tryz.f77.body.getD .skip) (fun _ => false) mixed Tryz.func77 rfl (by kernel_rfl) ?_
  unfold Tryz.f77
  simp only [Option.getD_some]
  simp only [go_sem]
  refine PC.use (compare4_c a.by_ b.by_ (by omega) (by omega)) ?_
  rw [e]
  have e2 : ltBr a b = if cmpQ (valR a.by_) (valR b.by_) ≠ 0 then decide (cmpQ (valR a.by_) (valR b.by_) > 0) else (decide (a.cut.kind < b.cut.kind) || (a.cut.kind == b.cut.kind && decide (a.cut.set < b.cut.set))) := by
    unfold ltBr cmpQ
    by_cases h1 : valR a.by_ < valR b.by_
    · have h2 : ¬ valR b.by_ < valR a.by_ := fun h2 => absurd (Std.lt_trans h1 h2) (Rat.lt_irrefl)
      simp [h1, h2]
    · by_cases h2 : valR b.by_ < valR a.by_
      · simp [h1, h2]
      · simp only [h1, h2, if_false, ne_eq, not_true_eq_false]
        by_cases h3 : a.cut.kind < b.cut.kind
        · simp [h3]
        · by_cases h4 : b.cut.kind < a.cut.kind
          · have : ¬ a.cut.kind = b.cut.kind := by omega
            simp [h3, h4, this]
          · have : a.cut.kind = b.cut.kind := by omega
            simp [this]
  generalize cmpQ (valR a.by_) (valR b.by_) = c at e2
  simp only [go_sem]
  refine acond_i (fun hc => ?_) (fun hc => ?_)
  · simp only [go_sem]
    refine cB ?_
    rw [e2, if_pos (by simpa using hc)]
  · simp only [go_sem]
    refine cB ?_
    rw [e2, if_neg (by simpa using hc)]
section
variable {α : Type} {lt : α → α → Bool}
def Asc (lt : α → α → Bool) (l : List α) : Prop := l.Pairwise fun a b => lt b a = false
theorem ins_mid (h : SWO lt) {y : α} : ∀ {M1 M2 : List α}, Asc lt (M1 ++ M2) → (∀ z ∈ M2, lt y z = true) → (M1 = [] ∨ ∃ M' z, M1 = M' ++ [z] ∧ lt y z = false) → ins lt y (M1 ++ M2) = M1 ++ y :: M2 := by
  intro M1 M2 hs h2 h1
  have hz : ∀ z ∈ M1, lt y z = false := by
    rcases h1 with rfl | ⟨M', z0, rfl, hz0⟩
    · intro z hz; cases hz
    · intro z hz
      rcases List.mem_append.1 hz with hz | hz
      · have := (List.pairwise_append.1 (List.pairwise_append.1 hs).1).2.2 z hz z0 (by simp)
        exact h.neg _ _ _ hz0 this
      · rw [List.mem_singleton.1 hz]; exact hz0
  clear h1 hs
  induction M1 with
  | nil =>
    cases M2 with
    | nil => rfl
    | cons z r => simp [ins, h2 z (List.mem_cons_self ..)]
  | cons a r ih =>
    have := hz a (List.mem_cons_self ..)
    rw [List.cons_append, ins, if_neg (by rw [this]; simp), ih fun z hm => hz z (List.mem_cons_of_mem _ hm)]
    rfl
theorem ins_asc (h : SWO lt) (y : α) : ∀ {l : List α}, Asc lt l → Asc lt (ins lt y l)
  | [], _ => by simp [ins, Asc]
  | a :: r, hs => by
    obtain ⟨h1, h2⟩ := List.pairwise_cons.1 hs
    unfold ins
    split
    · next hy =>
      refine List.pairwise_cons.2 ⟨fun b hb => ?_, hs⟩
      rcases List.mem_cons.1 hb with rfl | hb
      · exact h.asym _ _ hy
      · cases hc : lt b y with
        | false => rfl
        | true => have := h1 b hb; have h3 := lt_of h hc (h.asym _ _ hy); rw [h3] at this; cases this
    · next hy =>
      refine List.pairwise_cons.2 ⟨fun b hb => ?_, ins_asc h y h2⟩
      rcases ins_mem.1 hb with rfl | hb
      · simpa using hy
      · exact h1 b hb
theorem ssort_snoc (l : List α) (y : α) : ssort lt (l ++ [y]) = ins lt y (ssort lt l) := by unfold ssort; rw [List.foldl_append]; rfl
theorem foldl_asc (h : SWO lt) : ∀ (l acc : List α), Asc lt acc → Asc lt (l.foldl (fun a x => ins lt x a) acc) ∧ (l.foldl (fun a x => ins lt x a) acc).Perm (acc ++ l)
  | [], acc, ha => ⟨ha, by simp⟩
  | x :: l, acc, ha => by
    obtain ⟨h1, h2⟩ := foldl_asc h l (ins lt x acc) (ins_asc h x ha)
    refine ⟨h1, h2.trans ?_⟩
    refine ((ins_perm lt x acc).append_right l).trans ?_
    exact List.perm_middle.symm
theorem ssort_asc (h : SWO lt) (l : List α) : Asc lt (ssort lt l) := (foldl_asc h l [] (by simp [Asc])).1
theorem ssort_perm (h : SWO lt) (l : List α) : (ssort lt l).Perm l := (foldl_asc h l [] (by simp [Asc])).2
theorem ssort_same (h : SWO lt) {l m : List α} (hp : l.Perm m) (hn : l.Nodup) (ht : ∀ a ∈ l, ∀ b ∈ l, lt a b = false → lt b a = false → a = b) : ssort lt l = ssort lt m := by
  have hstrict : ∀ {k : List α}, k.Perm l → (ssort lt k).Pairwise fun a b => lt a b = true := by
    intro k hk
    have h1 := ssort_asc h k
    have h2 := (ssort_perm h k).trans hk
    have h3 : (ssort lt k).Nodup := h2.nodup_iff.2 hn
    refine (h1.and h3).imp_of_mem ?_
    intro a b ha hb ⟨hab, hne⟩
    cases hc : lt a b with
    | true => rfl
    | false => exact absurd (ht a (h2.mem_iff.1 ha) b (h2.mem_iff.1 hb) hc hab) hne
  refine perm_unique (fun a b h1 h2 => by rw [h.asym a b h1] at h2; cases h2) _ _ ?_ (hstrict (.refl _)) (hstrict hp.symm)
  exact (ssort_perm h l).trans (hp.trans (ssort_perm h m).symm)
end
abbrev fndRow (l : List Broken) : Row := ⟨130, 4, l.map encBroken⟩
theorem swap_mid (f : Broken → List AV) (y z : Broken) (M2 : List Broken) : ∀ M' : List Broken, ((((M' ++ [z]) ++ y :: M2).map f).set (M'.length + 1) (f z)).set M'.length (f y) = (M' ++ y :: z :: M2).map f
  | [] => by simp
  | a :: r => by
    have := swap_mid f y z M2 r
    simp only [List.cons_append, List.map_cons, List.length_cons, List.set_cons_succ] at this ⊢
    rw [this]
def find28P (x : Instance) (d : Nat) (cols : List Column) (rates : List ByteArray) : List Cut × Int :=
  if ((brokenP ⟨0, 0, 0⟩ cols rates).2 != 0) = true then ([], (brokenP ⟨0, 0, 0⟩ cols rates).2) else
  match errC cols rates (candP x d) with
  | some e => ([], e)
  | none => (((ssort ltBr (foundL cols rates (candP x d))).take 24).map Broken.cut, 0)
theorem find28_c (x : Instance) (d : Nat) (cols : List Column) (rates : List ByteArray) (h : LoadsOk x d) (ht : x.types ≠ []) (hx : x.orders.length ≤ 10) (hc : ColsOk cols rates) (hpo : ∀ c ∈ candP x d, okCut c) :
    PC Tryz.prog 20 [.agg (encInstance x), .sl (cols.map encColumn), .sl (rates.map Go.Aw.D.encStr)] (.tup [.sl ((find28P x d cols rates).1.map encCut), int (find28P x d cols rates).2]) := by
  have hpow : 2 ^ x.orders.length ≤ 2 ^ 10 := Nat.pow_le_pow_right (by decide) hx
  have hpl : (candP x d).length ≤ 2048 := Nat.le_trans (candL_len x d _) (by omega)
  refine PC.body (c := Tryz.f20.body.getD .skip) (fun t => t == 10 || t == 17 || t == 16) mixed Tryz.func20 rfl (by kernel_rfl) ?_
  unfold Tryz.f20
  simp only [Option.getD_some]
  simp only [go_sem]
  refine PC.use (broken28_c ⟨0, 0, 0⟩ cols rates (by unfold okCut; simp) hc.set hc.cl hc.rl hc.rs) ?_
  unfold find28P
  generalize brokenP ⟨0, 0, 0⟩ cols rates = B0
  simp only [go_sem]
  refine acond_i (fun hb => ?_) (fun hb => ?_)
  · rw [if_pos hb]
    simp only [go_sem]
    exact .refl _
  rw [if_neg (by rw [hb]; simp)]
  simp only [go_sem]
  refine anew_i fun j hj => ?_
  simp only [go_sem]
  refine PC.use (candidates_c x d h ht hx) ?_
  simp only [go_sem]
  generalize candP x d = l at *
  refine ⟨fun ρ H => ∃ (k : Nat) (j : Nat), k ≤ l.length ∧ ρ 1 = .sl (cols.map encColumn) ∧ ρ 2 = .sl (rates.map Go.Aw.D.encStr) ∧ ρ 11 = .sl (l.map encCut) ∧ ρ 12 = int k ∧ ρ 10 = .os j ∧ H j = some (fndRow (ssort ltBr (foundL cols rates (l.take k)))) ∧ ∀ c ∈ l.take k, (brokenP c cols rates).2 = 0, fun ρ _ => l.length - natOf (ρ 12), ⟨0, j, Nat.zero_le _, by simp only [go_sem], by simp only [go_sem], by simp only [go_sem], (by simp only [go_sem]; rfl), by simp only [go_sem], updH_same _ _ _, by simp⟩, ?_⟩
  rintro ρ H ⟨k, j, hk, e1, e2, e11, e12, e10, R, hz⟩
  simp only [go_sem, e1, e2, e11, e12, e10]
  refine acond_i (fun hlt => ?_) (fun hge => ?_)
  · have hlt := ltB (by simpa using hlt)
    obtain ⟨c, hcl⟩ := getIn hlt
    have b1 := inB hlt
    have hco := hpo c (List.mem_of_getElem? hcl)
    have hfl : (foundL cols rates (l.take k)).length ≤ k := by
      unfold foundL
      rw [List.length_map]
      refine Nat.le_trans (List.length_filter_le _ _) ?_
      rw [List.length_take]; omega
    simp only [go_sem, e1, e2, e11, e12, e10, getD_map hcl, b1]
    refine PC.use (broken28_c c cols rates hco hc.set hc.cl hc.rl hc.rs) ?_
    simp only [go_sem, e1, e2, e11, e12, e10]
    refine acond_i (fun hb => ?_) (fun hb => ?_)
    · have he : errC cols rates l = some (brokenP c cols rates).2 := by
        unfold errC
        have hb : (brokenP c cols rates).2 ≠ 0 := by simpa using hb
        have hsp : l = l.take k ++ c :: l.drop (k + 1) := by rw [← drop_at hcl, List.take_append_drop]
        rw [hsp, List.map_append, List.find?_append, List.map_cons, List.find?_cons]
        have h0 : ((l.take k).map fun c => (brokenP c cols rates).2).find? (fun e => e != 0) = none := by
          rw [List.find?_eq_none]
          intro e hm
          obtain ⟨c', hc', rfl⟩ := List.mem_map.1 hm
          rw [hz c' hc']; simp
        rw [h0, bne_iff_ne.2 hb]
        rfl
      simp only [go_sem, e1, e2, e11, e12, e10]
      rw [he]
      exact .refl _
    have hb0 : (brokenP c cols rates).2 = 0 := by simpa using hb
    have hr := broken_right hb0
    have hrs := right_size' hr
    have hsn := foundL_snoc cols rates (l.take k) c
    rw [← take_succ hcl] at hsn
    simp only [go_sem, e1, e2, e11, e12, e10]
    refine PC.use (sign4_c _ (by omega)) ?_
    simp only [go_sem, e1, e2, e11, e12, e10]
    refine acond_i (fun hp => ?_) (fun hp => ?_)
    · rw [if_neg (by simpa using hp), List.append_nil] at hsn
      simp only [go_sem, e1, e2, e11, e12, e10, wrapS (show k ≤ 4611686018427387904 by omega)]
      refine ⟨⟨k + 1, j, hlt, rfl, rfl, ?_, take_all' hcl hb0 hz⟩, by simp only [natOf_int]; omega⟩
      rw [hsn]; exact R
    · rw [if_pos (by simpa using hp)] at hsn
      have hyok : okBr ⟨c, (brokenP c cols rates).1⟩ := hr
      have hSo : ∀ b ∈ ssort ltBr (foundL cols rates (l.take k)), okBr b := by
        intro b hb
        have hb := (ssort_perm ltBr_swo _).mem_iff.1 hb
        unfold foundL at hb
        obtain ⟨c', hc', rfl⟩ := List.mem_map.1 hb
        exact broken_right (hz c' (List.mem_filter.1 hc').1)
      have hSa := ssort_asc ltBr_swo (foundL cols rates (l.take k))
      have hSl : (ssort ltBr (foundL cols rates (l.take k))).length ≤ k := by rw [ssort_len]; exact hfl
      have hnew : ssort ltBr (foundL cols rates (l.take (k + 1))) = ins ltBr ⟨c, (brokenP c cols rates).1⟩ (ssort ltBr (foundL cols rates (l.take k))) := by rw [hsn, ssort_snoc]
      simp only [go_sem, e1, e2, e11, e12, e10, getD_map hcl, b1]
      change withO (some (encBroken ⟨c, (brokenP c cols rates).1⟩)) _
      simp only [go_sem, e1, e2, e11, e12, e10]
      generalize ssort ltBr (foundL cols rates (l.take k)) = S at *
      generalize hy : (⟨c, (brokenP c cols rates).1⟩ : Broken) = y at *
      refine wappE_i R ⟨rfl, rfl⟩ ⟨encBroken_len y, trivial⟩ (by simp only [List.length_map, List.length_cons, List.length_nil]; omega) (fun j' hj' => ?_)
      have R1 : updH (updH H j none) j' (some (⟨130, 4, S.map encBroken ++ [encBroken y]⟩ : Row)) j' = some (fndRow (S ++ [y])) := by rw [updH_same]; simp [fndRow]
      generalize updH (updH H j none) j' _ = H1 at R1
      have hw0 : IntKind.i64.wrap (((S ++ [y]).length : Int) - 1) = (S.length : Int) := by rw [List.length_append, List.length_singleton, wrap_in (by omega)]; omega
      simp only [go_sem, e1, e2, e11, e12, e10, R1, List.length_map, hw0]
      refine ⟨fun ρ H => ∃ M1 M2 : List Broken, S = M1 ++ M2 ∧ (∀ z ∈ M2, ltBr y z = true) ∧ ρ 1 = .sl (cols.map encColumn) ∧ ρ 2 = .sl (rates.map Go.Aw.D.encStr) ∧ ρ 11 = .sl (l.map encCut) ∧ ρ 10 = .os j' ∧ ρ 12 = int (k : Nat) ∧ ρ 15 = int (M1.length : Nat) ∧ H j' = some (fndRow (M1 ++ y :: M2)), fun ρ _ => natOf (ρ 15),
        ⟨S, [], by simp, by simp, by simp only [go_sem, e1, e2, e11, e12, e10], by simp only [go_sem, e1, e2, e11, e12, e10], by simp only [go_sem, e1, e2, e11, e12, e10], by simp only [go_sem, e1, e2, e11, e12, e10], by simp only [go_sem, e1, e2, e11, e12, e10], by simp only [go_sem], R1⟩, ?_⟩
      clear R1 e1 e2 e11 e10 e12 hj' H1 R
      rintro ρ H ⟨M1, M2, rfl, hM2, e1, e2, e11, e10, e12, e15, R⟩
      rcases List.eq_nil_or_concat M1 with rfl | ⟨M', z, rfl⟩
      · simp only [go_sem, e1, e2, e11, e10, e12, e15]
        refine adraw_p [j'] [(0, true), (1, true), (2, true), (3, true), (4, true), (5, true), (6, true), (7, true), (8, true), (9, true), (10, true), (11, true), (12, true), (13, true)] (by simp [R]) (by kernel_rfl) fun Hp Hr hp1 hr1 hp2 hr2 => ?_
        have Rp := (hp1 j' (by simp)).trans R
        have hz0 : decide (((0 : Nat) : Int) > 0) = false := by simp
        simp only [List.length_nil] at e15
        simp only [go_sem, e1, e2, e11, e10, e12, e15, Rp, hz0]
        refine ⟨boo false, ?_⟩
        simp only [go_sem, e1, e2, e11, e10, e12, e15]
        refine pinEnd_i fun _ Hm hm1 hm2 => ?_
        obtain rfl := pin_back hm1 hm2 hr1
        refine acond_i (fun hb => by cases hb) (fun _ => ?_)
        simp only [go_sem, e1, e2, e11, e10, e12, e15, wrapS (show k ≤ 4611686018427387904 by omega)]
        refine ⟨⟨k + 1, j', hlt, rfl, rfl, ?_, take_all' hcl hb0 hz⟩, by simp only [natOf_int]; omega⟩
        rw [hnew, ins_mid ltBr_swo hSa hM2 (.inl rfl)]
        exact R
      · rw [List.concat_eq_append] at *
        have hml : M'.length + 1 + M2.length ≤ k := by simp only [List.length_append, List.length_singleton] at hSl; exact hSl
        have hyy : ((M' ++ [z]) ++ y :: M2)[M'.length + 1]? = some y := by rw [List.getElem?_append_right (by simp)]; simp
        have hzy : ((M' ++ [z]) ++ y :: M2)[M'.length]? = some z := by simp
        have hfl2 : ((M' ++ [z]) ++ y :: M2).length = M'.length + 1 + (M2.length + 1) := by simp; omega
        have b1' : (0 : Int) ≤ ((M'.length + 1 : Nat) : Int) ∧ ((M'.length + 1 : Nat) : Int) < (((M' ++ [z]) ++ y :: M2).length : Int) := by omega
        have b2' : (0 : Int) ≤ ((M'.length : Nat) : Int) ∧ ((M'.length : Nat) : Int) < (((M' ++ [z]) ++ y :: M2).length : Int) := by omega
        have g1 := getD_map (f := encBroken) hyy
        have g2 := getD_map (f := encBroken) hzy
        have e15' : ρ 15 = int ((M'.length + 1 : Nat) : Int) := by rw [e15]; simp
        have hgt : decide (((M'.length + 1 : Nat) : Int) > 0) = true := by simp
        have w1 : IntKind.i64.wrap (((M'.length + 1 : Nat) : Int) - 1) = ((M'.length : Nat) : Int) := by rw [wrap_in (by omega)]; omega
        have hzok : okBr z := hSo z (by simp)
        generalize hL : (M' ++ [z]) ++ y :: M2 = L at *
        simp only [go_sem, e1, e2, e11, e10, e12, e15']
        refine adraw_p [j'] [(0, true), (1, true), (2, true), (3, true), (4, true), (5, true), (6, true), (7, true), (8, true), (9, true), (10, true), (11, true), (12, true), (13, true)] (by simp [R]) (by kernel_rfl) fun Hp Hr hp1 hr1 hp2 hr2 => ?_
        have Rp := (hp1 j' (by simp)).trans R
        simp only [go_sem, e1, e2, e11, e10, e12, e15', Rp, hgt, w1, g1, g2, b1', b2']
        refine ⟨by omega, by omega, _, (ahead_c y z hyok hzok).q rfl, ?_⟩
        simp only [go_sem, e1, e2, e11, e10, e12, e15']
        refine pinEnd_i fun _ Hm hm1 hm2 => ?_
        obtain rfl := pin_back hm1 hm2 hr1
        refine acond_i (fun hb => ?_) (fun hb => ?_)
        · simp only [go_sem, e1, e2, e11, e10, e12, e15', R, g1, b1']
          refine ⟨by omega, ?_⟩
          refine anew_i fun i hi0 => ?_
          have ne_j'_i : j' ≠ i := ne_new R hi0
          simp only [go_sem, e1, e2, e11, e10, e12, e15', w1, R, g1, g2, b1', b2', R]
          refine wputE_n (updH_same _ _ _) (by simp [encBroken_len]) ?_
          generalize hGi : updH (updH _ i _) i _ = HGi
          replace R := (congrFun hGi.symm j').trans ((updH_ne _ _ _ _ ne_j'_i).trans ((updH_ne _ _ _ _ ne_j'_i).trans R))
          have Ri : HGi i = some (⟨130, 4, [encBroken y]⟩) := by rw [← hGi, updH_same]; rfl
          clear hGi hi0
          simp only [go_sem, e1, e2, e11, e10, e12, e15', w1, R, g1, g2, b1', b2', Ri, R]
          repeat' (first | (refine ⟨by omega, ?_⟩) | (refine wputE_n R ⟨by rw [List.length_map]; omega, encBroken_len _, by rw [encBroken_len]; exact Nat.le_refl 4⟩ ?_) | (simp only [go_sem, e1, e2, e11, e10, e12, e15', w1, b1', b2', g1, g2]))
          generalize hP : updH _ j' _ = HP
          replace Ri := (congrFun hP.symm i).trans ((updH_ne _ _ _ _ (by first | exact ne_i_j' | exact ne_j'_i.symm)).trans Ri)
          replace R : HP j' = some (⟨130, 4, (L.map encBroken).set (M'.length + 1) (encBroken z)⟩) := by rw [← hP, updH_same]; rfl
          clear hP
          simp only [go_sem, e1, e2, e11, e10, e12, e15', w1, b1', b2', List.length_set, List.length_map, List.getD_cons_zero, encBroken_len, R, Ri]
          refine wputE_n R ⟨by rw [List.length_set, List.length_map]; omega, encBroken_len _, by rw [encBroken_len]; exact Nat.le_refl 4⟩ ?_
          have hsw := swap_mid encBroken y z M2 M'
          rw [hL] at hsw
          simp only [go_sem, e1, e2, e11, e10, e12, e15', w1, encBroken_drop, List.append_nil]
          refine ⟨⟨M', z :: M2, by simp, ?_, rfl, ?_⟩, by simp only [natOf_int]; omega⟩
          · intro u hu
            rcases List.mem_cons.1 hu with rfl | hu
            · exact hb
            · exact hM2 u hu
          · have hd : ((L.map encBroken).set (M'.length + 1) (encBroken z)).getD M'.length [] = encBroken z := by
              rw [List.getD_eq_getElem?_getD, List.getElem?_set_ne (by omega), ← List.getD_eq_getElem?_getD, g2]
            rw [hd, encBroken_drop, List.append_nil, hsw]
        · simp only [go_sem, e1, e2, e11, e10, e12, e15', wrapS (show k ≤ 4611686018427387904 by omega)]
          refine ⟨⟨k + 1, j', hlt, rfl, rfl, ?_, take_all' hcl hb0 hz⟩, by simp only [natOf_int]; omega⟩
          rw [hnew, ins_mid ltBr_swo hSa hM2 (.inr ⟨M', z, rfl, hb⟩), hL]
          exact R
  have hge := geB hk (by simpa using hge)
  subst hge
  rw [List.take_length] at R hz
  have he : errC cols rates l = none := by
    unfold errC
    rw [List.find?_eq_none]
    intro e hm
    obtain ⟨c, hc, rfl⟩ := List.mem_map.1 hm
    rw [hz c hc]; simp
  rw [he]
  have hSl : (ssort ltBr (foundL cols rates l)).length ≤ 2048 := by
    rw [ssort_len]
    unfold foundL
    rw [List.length_map]
    exact Nat.le_trans (List.length_filter_le _ _) hpl
  generalize ssort ltBr (foundL cols rates l) = S at *
  simp only [go_sem, e1, e2, e11, e12, e10]
  refine anew_i fun i hi => ?_
  have nji : j ≠ i := fun e => by rw [← e, R] at hi; cases hi
  generalize hG : updH H i _ = H2
  have R2 : H2 j = some (fndRow S) := by rw [← hG, updH_ne _ _ _ _ nji]; exact R
  have Ri : H2 i = some (cutRow []) := by rw [← hG, updH_same]; rfl
  clear hG R hi
  simp only [go_sem, e1, e2, e11, e12, e10]
  refine ⟨fun ρ H => ∃ (k i : Nat), k ≤ (S.take 24).length ∧ ρ 10 = .os j ∧ ρ 18 = int k ∧ ρ 17 = .os i ∧ j ≠ i ∧ H j = some (fndRow S) ∧ H i = some (cutRow (((S.take 24).take k).map Broken.cut)), fun ρ _ => (S.take 24).length - natOf (ρ 18), ⟨0, i, Nat.zero_le _, by simp only [go_sem, e10], (by simp only [go_sem]; rfl), by simp only [go_sem], nji, R2, Ri⟩, ?_⟩
  clear nji R2 Ri
  rintro ρ H ⟨k, i, hk, e10, e18, e17, nji, R2, Ri⟩
  simp only [go_sem, e10, e18, e17, R2]
  refine acond_i (fun hlt => ?_) (fun hge => ?_)
  · have hlt : k < S.length ∧ k < 24 := by simp at hlt; omega
    have hkX : k < (S.take 24).length := by rw [List.length_take]; omega
    obtain ⟨b, hb⟩ := getIn hlt.1
    have hbX : (S.take 24)[k]? = some b := by rw [List.getElem?_take]; simp [hlt.2, hb]
    have b1 := inB hlt.1
    simp only [go_sem, e10, e18, e17, R2, getD_map hb, b1]
    refine ⟨hlt.1, ?_⟩
    refine wappE_i Ri ⟨rfl, rfl⟩ ⟨rfl, trivial⟩ (by simp only [List.length_map, List.length_take, List.length_cons, List.length_nil]; omega) (fun j' hj' => ?_)
    have njj : j ≠ j' := fun e => by rw [← e, R2] at hj'; cases hj'
    simp only [go_sem, e10, e18, e17, wrapS (show k ≤ 4611686018427387904 by omega)]
    refine ⟨⟨k + 1, j', hkX, rfl, rfl, njj, ?_, ?_⟩, by simp only [natOf_int]; omega⟩
    · rw [updH_ne _ _ _ _ njj, updH_ne _ _ _ _ nji]; exact R2
    · rw [take_succ hbX, List.map_append]
      exact row_appG rfl
  · have hge : ¬ (k < S.length ∧ k < 24) := by intro h; simp at hge; omega
    have hkX : k = (S.take 24).length := by rw [List.length_take] at hk ⊢; omega
    subst hkX
    rw [List.take_length] at Ri
    simp only [go_sem, e10, e18, e17]
    exact .tup _ _ (.cons _ _ _ _ (.row _ _ _ Ri (ConvE.refl _)) (.cons _ _ _ _ (.refl _) .nil))
end Go.Proofs.YtbcfajfngdmgnaaGreatDoor.Nu
end

section
set_option linter.unusedSimpArgs false
set_option linter.unusedVariables false
namespace Go.Proofs.YtbcfajfngdmgnaaGreatDoor.Nu
open Go.Aw Go.Aw.D Go.Proofs Ty Go.Nu Go.So Go.Sb
set_option maxRecDepth 100000
theorem sumR_comm (x y : Rat) : sumR x y = sumR y x := by
  unfold sumR
  rw [Rat.add_comm x y, Int.add_comm (x.num * y.den), Int.mul_comm (x.den : Int), Bool.or_comm (bigI (x.num * y.den))]
theorem bd_neg {k : Nat} {x : Rat} (h : Bd E12 k x) : Bd E12 k (-x) := ⟨by rw [Rat.neg_den]; exact h.den, by rw [Rat.neg_num, Int.natAbs_neg]; exact h.num⟩
theorem coef_01 (k : Int) (n : Nat) : coefP k n = 0 ∨ coefP k n = 1 := by
  unfold coefP
  split <;> simp
def formErr (cols : List Column) (rates : List ByteArray) : Int := if rates.length < cols.length then 2 else if (rates.take cols.length).any (fun x => !rightR x) = true then 3 else 0
theorem broken_err {cols : List Column} {rates : List ByteArray} (c : Cut) (hl : cols.length ≤ 40) (hr : ∀ s ∈ rates, s.size ≤ 12) (hn : -1048576 ≤ c.n ∧ c.n ≤ 1048576) : (brokenP c cols rates).2 = formErr cols rates := by
  unfold brokenP formErr
  split
  · rfl
  next h1 =>
  have hlen : (coefsP c cols).length = (rates.take cols.length).length := by unfold coefsP; rw [List.length_map, List.length_take]; omega
  have ht : (timesR (coefsP c cols) (rates.take cols.length)) = if (rates.take cols.length).any (fun x => !rightR x) = true then (emp, 3) else timesF ((coefsP c cols).zip (rates.take cols.length)) (dec 0) := by
    unfold timesR
    rw [if_neg (by simp [hlen])]
  rw [ht]
  by_cases hw : (rates.take cols.length).any (fun x => !rightR x) = true
  · rw [if_pos hw, if_pos hw]; rfl
  rw [if_neg hw, if_neg hw]
  have hb0 : Bd E12 0 0 := ⟨Nat.le_refl _, by simp⟩
  have hz : ((coefsP c cols).zip (rates.take cols.length)).length = cols.length := by rw [List.length_zip, ← hlen, Nat.min_self]; unfold coefsP; rw [List.length_map]
  obtain ⟨z, ez, hz2⟩ := timesF_ok ((coefsP c cols).zip (rates.take cols.length)) 0 0 (by omega) hb0 (by
    intro p hp
    have h3 := List.of_mem_zip hp
    unfold coefsP at h3
    obtain ⟨y, _, hy⟩ := List.mem_map.1 h3.1
    refine ⟨?_, ?_, hr _ (List.mem_of_mem_take h3.2)⟩
    · rw [← hy]; exact coef_01 _ _
    · have := List.any_eq_false.1 (by simpa using hw : (rates.take cols.length).any (fun x => !rightR x) = false) _ h3.2
      simpa using this)
  rw [ratS_zero] at ez
  rw [ez]
  rw [if_neg (show ¬ (0 : Int) ≠ 0 by simp)]
  rw [Nat.zero_add, hz] at hz2
  have hzr : rightR (ratS z) = true := rightR_ratS (bd_small (by omega) hz2)
  have hov : (overP c (ratS z)).2 = 0 := by
    have hE : (1048576 : Nat) ≤ E12 := by decide
    unfold overP
    split
    · unfold subR
      rw [hzr, zed_right (lt_max (k := 1) (by decide) (by decide)), if_pos (show (true && true) = true from rfl), valR_ratS, zed_rat, valR_ratS]
      rw [(sum_ok (y := -((1 : Int) : Rat)) (show cols.length ≤ 40 from hl) hz2 (by rw [Rat.neg_den, Rat.den_intCast]; omega) (by rw [Rat.neg_num, Rat.num_intCast]; omega)).1]
    · split
      · have hcn : c.n.natAbs ≤ E12 := by omega
        unfold subR
        rw [hzr, zed_right (small_lt (Nat.le_trans hcn (by have := E_le (show 1 ≤ 41 by omega); rwa [Nat.pow_one] at this))), if_pos (show (true && true) = true from rfl), valR_ratS, zed_rat, valR_ratS, sumR_comm]
        rw [(sum_ok (y := ((c.n : Int) : Rat)) (show cols.length ≤ 40 from hl) (bd_neg hz2) (by rw [Rat.den_intCast]; omega) (by rw [Rat.num_intCast]; exact hcn)).1]
      · rfl
  rw [if_neg (by rw [hov]; simp)]
  split <;> rfl
theorem trips_in {x : Instance} {d s : Nat} (h : LoadsOk x d) (hx : x.orders.length ≤ 10) : tripsP x d s ≤ 63001 := by
  unfold tripsP
  split
  · omega
  · next h1 =>
    split
    · omega
    · unfold stays at h1
      simp only [Bool.or_eq_true, not_or, Bool.not_eq_true, Bool.not_eq_false', Bool.not_eq_true'] at h1
      have hs : s < 2 ^ x.orders.length := by have := h1.1.2; rw [exist_nat] at this; simpa using this
      exact (dimF_in h (memS_in hs (by omega)) (memU_len _ 63) d (Nat.le_refl _)).2
theorem poss_spec {x : Instance} {d : Nat} (h : LoadsOk x d) (hx : x.orders.length ≤ 10) {c : Cut} (hc : c ∈ possP x d) : rightC x d c = 0 ∧ 1 ≤ c.n ∧ c.n ≤ 63001 := by
  have hp : 2 ^ x.orders.length ≤ 2 ^ 10 := Nat.pow_le_pow_right (by decide) hx
  have ha := allO_lt x
  unfold possP at hc
  rw [List.mem_append, List.mem_map, List.mem_filterMap] at hc
  rcases hc with ⟨s, h1, rfl⟩ | ⟨s, _, h2⟩
  · have h3 := (threeL_mem (by omega)).1 h1
    have hs := and_lt h3.1 ha
    refine ⟨?_, Int.le_refl _, show (1 : Int) ≤ 63001 by omega⟩
    have hpk : popK 63 s = 3 := by rw [← pop64 (by omega)]; exact h3.2
    unfold rightC threeC
    rw [if_pos rfl]
    simp only [Int.toNat_natCast, hpk, exist_nat, decide_eq_true hs]
    rfl
  · obtain ⟨h3, h4, _⟩ := cover_in h2
    have hk := trips_in (s := s) h hx
    unfold coverC at h2
    split at h2
    · next h5 =>
      cases h2
      refine ⟨?_, by show 1 ≤ tripsP x d s; omega, hk⟩
      unfold rightC
      rw [if_neg (by show ¬ (2 : Int) = 1; omega), if_pos rfl]
      have e1 : ((s : Int) == 0) = false := by simp; omega
      have e2 : decide (tripsP x d s < 1) = false := by simp; omega
      simp only [exist_nat, decide_eq_true h4, e1, e2, decide_eq_false (show ¬ tripsP x d s > tripsP x d s by omega)]
      rfl
    · cases h2
theorem errC_none {cols : List Column} {rates : List ByteArray} {l : List Cut} (h : ∀ c ∈ l, (brokenP c cols rates).2 = 0) : errC cols rates l = none := by
  unfold errC
  rw [List.find?_eq_none]
  intro e he
  obtain ⟨c, hc, rfl⟩ := List.mem_map.1 he
  rw [h c hc]; simp
theorem foundL_perm {cols : List Column} {rates : List ByteArray} {l m : List Cut} (h : l.Perm m) : (foundL cols rates l).Perm (foundL cols rates m) := (h.filter _).map _
theorem foundL_mem {cols : List Column} {rates : List ByteArray} {l : List Cut} {b : Broken} (h : b ∈ foundL cols rates l) : b.cut ∈ l ∧ b.by_ = (brokenP b.cut cols rates).1 ∧ signR b.by_ > 0 := by
  unfold foundL at h
  obtain ⟨c, hc, rfl⟩ := List.mem_map.1 h
  obtain ⟨h1, h2⟩ := List.mem_filter.1 hc
  exact ⟨h1, rfl, by simpa using h2⟩
theorem cand_key {x : Instance} {d : Nat} {a b : Cut} (ha : a ∈ candP x d) (hb : b ∈ candP x d) (hk : a.kind = b.kind) (hs : a.set = b.set) : a = b := by
  obtain ⟨s, _, _, h1⟩ := candL_mem.1 ha
  obtain ⟨t, _, _, h2⟩ := candL_mem.1 hb
  have e1 := candS_set h1
  have e2 := candS_set h2
  have hst : s = t := by omega
  subst hst
  rcases candS_mem.1 h1 with ⟨_, rfl⟩ | h3 <;> rcases candS_mem.1 h2 with ⟨_, rfl⟩ | h4
  · rfl
  · have := (cover_set h4).2
    rw [← hk] at this
    simp [threeC] at this
  · have := (cover_set h3).2
    rw [hk] at this
    simp [threeC] at this
  · rw [h3] at h4; exact Option.some.inj h4
theorem find_same {x : Instance} {d : Nat} {cols : List Column} {rates : List ByteArray} (h : LoadsOk x d) (hx : x.orders.length ≤ 10) (hl : cols.length ≤ 40) (hr : ∀ s ∈ rates, s.size ≤ 12) :
    find28P x d cols rates = findP x d cols rates ∧ (findP x d cols rates).1.length ≤ 24 ∧ ∀ c ∈ (findP x d cols rates).1, c ∈ possP x d ∧ (brokenP c cols rates).2 = 0 ∧ signR (brokenP c cols rates).1 > 0 := by
  have hz := broken_err (cols := cols) (rates := rates) ⟨0, 0, 0⟩ hl hr (by simp)
  have ho := broken_err (cols := cols) (rates := rates) ⟨1, 0, 0⟩ hl hr (by simp)
  have hp := cand_perm x d hx
  have hposs : ∀ c ∈ possP x d, (brokenP c cols rates).2 = formErr cols rates := fun c hc => by
    have := poss_spec h hx hc
    exact broken_err c hl hr (by omega)
  have hf3 : formErr cols rates = 0 ∨ formErr cols rates = 2 ∨ formErr cols rates = 3 := by
    unfold formErr
    split
    · simp
    · split <;> simp
  unfold find28P findP
  rw [hz, ho]
  rcases hf3 with e | e
  · rw [e] at hposs ⊢
    rw [errC_none (l := possP x d) hposs, errC_none (l := candP x d) fun c hc => hposs c (hp.mem_iff.1 hc)]
    rw [if_neg (by simp), if_neg (by simp)]
    have hsame : ssort ltBr (foundL cols rates (candP x d)) = ssort ltBr (foundL cols rates (possP x d)) := by
      refine ssort_same ltBr_swo (foundL_perm hp) ?_ ?_
      · unfold foundL
        refine map_nodup ((candL_nodup x d _).filter _) fun a _ b _ hab => by
          have := congrArg Broken.cut hab
          exact this
      · intro a ha b hb h1 h2
        obtain ⟨ma, ea, _⟩ := foundL_mem ha
        obtain ⟨mb, eb, _⟩ := foundL_mem hb
        have hab : a.cut = b.cut := by
          have hk : ∀ {u v : Broken}, ltBr u v = false → ¬ (valR v.by_ < valR u.by_) ∧ (valR u.by_ = valR v.by_ → ¬ (u.cut.kind < v.cut.kind) ∧ (u.cut.kind = v.cut.kind → ¬ u.cut.set < v.cut.set)) := by
            intro u v huv
            have hn : ¬ _ := fun hh => by rw [ltBr_iff.2 hh] at huv; cases huv
            exact ⟨fun e => hn (.inl e), fun e => ⟨fun e2 => hn (.inr ⟨e, .inl e2⟩), fun e2 e3 => hn (.inr ⟨e, .inr ⟨e2, e3⟩⟩)⟩⟩
          obtain ⟨p1, p2⟩ := hk h1
          obtain ⟨q1, q2⟩ := hk h2
          have hv : valR a.by_ = valR b.by_ := by
            rcases rat_tri (valR a.by_) (valR b.by_) with e | e | e
            · exact absurd e q1
            · exact e
            · exact absurd e p1
          obtain ⟨p3, p4⟩ := p2 hv
          obtain ⟨q3, q4⟩ := q2 hv.symm
          have hkind : a.cut.kind = b.cut.kind := by omega
          have h5 := p4 hkind
          have h6 := q4 hkind.symm
          exact cand_key ma mb hkind (by omega)
        rcases a with ⟨ca, ba⟩
        rcases b with ⟨cb, bb⟩
        simp only at ea eb hab
        rw [ea, eb, hab]
    rw [hsame]
    dsimp only
    refine ⟨rfl, by rw [List.length_map, List.length_take]; omega, fun c hc => ?_⟩
    obtain ⟨b, hb, rfl⟩ := List.mem_map.1 hc
    have hb := (ssort_perm ltBr_swo _).mem_iff.1 (List.mem_of_mem_take hb)
    obtain ⟨m1, m2, m3⟩ := foundL_mem hb
    exact ⟨m1, hposs _ m1, by rw [← m2]; exact m3⟩
  · have h1 : (formErr cols rates != 0) = true := by rcases e with e | e <;> rw [e] <;> rfl
    have h2 : (formErr cols rates == 2 || formErr cols rates == 3) = true := by rcases e with e | e <;> rw [e] <;> rfl
    rw [if_pos h1, if_pos h2]
    exact ⟨rfl, by simp, fun c hc => by cases hc⟩
end Go.Proofs.YtbcfajfngdmgnaaGreatDoor.Nu
end

section
set_option linter.unusedSimpArgs false
set_option linter.unusedVariables false
namespace Go.Proofs.YtbcfajfngdmgnaaGreatDoor.Nu
open Go.Aw Go.Aw.D Go.Proofs Ty Go.Nu Go.So Go.Sb
set_option maxRecDepth 100000
theorem eqCut (c : Cut) : eqCells [0, 0, 0] (encCut c) (encCut c) = some true := by
  simp [eqCells, encCut, eqCell]
  rfl
theorem cutFinds_c (x : Instance) (cols : List Column) (rates : List ByteArray) (hx : InB x) (hl : cols.length ≤ 1048576) (hr : rates.length ≤ 1048576) (hs : ∀ c ∈ cols, c.set ≤ 9223372036854775807) :
    PC Tryz.prog 4 [.agg (encInstance x), .sl (cols.map encColumn), .sl (rates.map Go.Aw.D.encStr)] (boo true) := by
  refine PC.body (c := Tryz.f4.body.getD .skip) (fun _ => false) mixed Tryz.func4 rfl (by kernel_rfl) ?_
  unfold Tryz.f4
  simp only [Option.getD_some]
  simp only [go_sem]
  refine PC.use (NC.pc (check_c x hx)) ?_
  simp only [go_sem, List.length_map]
  refine ⟨boo (few28 cols rates), fun _ => (few28_c cols rates hl hr).q rfl, ?_⟩
  simp only [go_sem]
  refine acond_i (fun hb => ?_) (fun hb => ?_)
  · simp only [go_sem]
    refine PC.use awake28_c ?_
    simp only [go_sem]
    exact .refl _
  have hb' : (checkR x).length = 0 ∧ few28 cols rates = true := by simp at hb; exact ⟨by simp [hb.1], hb.2⟩
  have hacc := acc_of (List.eq_nil_of_length_eq_zero hb'.1)
  obtain ⟨hlo, hne⟩ := loadsOk_of hacc
  have hx10 := hacc.orders
  obtain ⟨hco, h40, h60, h12⟩ := few_cols hb'.2 hs
  generalize (dimsR x.types).toNat = d at hlo
  obtain ⟨hsame, h24, hgood⟩ := find_same (x := x) (d := d) (cols := cols) (rates := rates) hlo hx10 h40 h12
  have hpo := poss_ok x d hlo hx10
  have hcp : ∀ c ∈ candP x d, okCut c := fun c hc => (hpo c ((cand_perm x d hx10).mem_iff.1 hc)).1
  have hf2 := find28_c x d cols rates hlo hne hx10 hco hcp
  rw [hsame] at hf2
  simp only [go_sem]
  refine PC.use (find_c x d cols rates hlo hne hx10 hco) ?_
  simp only [go_sem]
  refine PC.use hf2 ?_
  generalize findP x d cols rates = F at *
  obtain ⟨F, e⟩ := F
  simp only at h24 hgood
  simp only [go_sem, List.length_map]
  refine acond_i (fun hb => ?_) (fun hb => ?_)
  · simp at hb; omega
  simp only [go_sem]
  refine ⟨fun ρ H => ∃ (k : Nat), k ≤ F.length ∧ ρ 1 = .sl (cols.map encColumn) ∧ ρ 2 = .sl (rates.map Go.Aw.D.encStr) ∧ ρ 3 = .rp (encInstance x) 0 ∧ ρ 7 = .sl (F.map encCut) ∧ ρ 9 = .sl (F.map encCut) ∧ ρ 11 = int k, fun ρ _ => F.length - natOf (ρ 11), ⟨0, Nat.zero_le _, by simp only [go_sem], by simp only [go_sem], by simp only [go_sem], by simp only [go_sem], by simp only [go_sem], (by simp only [go_sem]; rfl)⟩, ?_⟩
  rintro ρ H ⟨k, hk, e1, e2, e3, e7, e9, e11⟩
  simp only [go_sem, e1, e2, e3, e7, e9, e11]
  refine acond_i (fun hlt => ?_) (fun hge => ?_)
  · have hlt := ltB (by simpa using hlt)
    obtain ⟨c, hcF⟩ := getIn hlt
    have b1 := inB hlt
    obtain ⟨g1, g2, g3⟩ := hgood c (List.mem_of_getElem? hcF)
    obtain ⟨r1, r2, r3⟩ := poss_spec hlo hx10 g1
    simp only [go_sem, e1, e2, e3, e7, e9, e11, getD_map hcF, b1]
    refine PC.use (broken_a hco (hpo c g1).1) ?_
    simp only [go_sem, e1, e2, e3, e7, e9, e11]
    refine adraw_q (by rfl) (by kernel_rfl) ?_
    simp only [go_sem, e1, e2, e3, e7, e9, e11, getD_map hcF, b1, eqCut]
    refine ⟨_, fun _ => (rightC_c x d c hlo hne).q rfl, ?_⟩
    rw [r1]
    have hsz : (brokenP c cols rates).1.size ≤ 1048576 := by
      have := right_size' (broken_right g2)
      omega
    simp only [go_sem, e1, e2, e3, e7, e9, e11, g2]
    refine ⟨int (signR (brokenP c cols rates).1), fun _ => (sign4_c _ hsz).q rfl, ?_⟩
    simp only [go_sem, e1, e2, e3, e7, e9, e11]
    refine acond_i (fun hb => ?_) (fun hb => ?_)
    · simp at hb; omega
    simp only [go_sem, e1, e2, e3, e7, e9, e11, wrapS (show k ≤ 4611686018427387904 by omega)]
    exact ⟨⟨k + 1, hlt, rfl⟩, by simp only [natOf_int]; omega⟩
  have hge := geB hk hge
  subst hge
  simp only [go_sem, e1, e2, e3, e7, e9, e11]
  refine PC.use awake28_c ?_
  simp only [go_sem]
  exact .refl _
end Go.Proofs.YtbcfajfngdmgnaaGreatDoor.Nu
end
