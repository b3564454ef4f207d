/- both searches find the same schedule; both evaluations are one; commit: whether plans keep beginnings; lorryref44: whether plans keep beginnings -/
import Derived.Test.YtbefdpmjpioijaaGreatDoorAuN
set_option linter.unusedSimpArgs false
set_option linter.unusedVariables false
namespace Go.Proofs.YtbefdpmjpioijaaGreatDoor.Sq
open Go.Aw Go.Aw.D Go.Proofs Ty
open Mv (convI convB convA NC.pc take_allP)
set_option maxRecDepth 100000

theorem stepD_mono {x : Instance} {t : VType} {r : Route} (hB : RouteB x t r) {k : Nat} (hk : k ≤ r.visits.length) {l m m' : Lab} {b : Bool} (bl : LabB l k) (bm : LabB m k) (hb : beats l m) (h : stepD x t r k m b = .ok m') :
    ∃ l', stepD x t r k l b = .ok l' ∧ beats l' m' := by
  have hs := hB.short
  by_cases hlt : k < r.visits.length
  · obtain ⟨v, hv⟩ := getIn hlt
    have e : ∀ l, stepD x t r k l b = nextV x t (placeD x t r k) (stop18 x v).1 k l b := fun l => by unfold stepD; rw [hv]
    rw [e] at h ⊢
    exact nextV_mono (by omega) hB.go (hB.stop v (List.mem_of_getElem? hv)) bl bm hb h
  · have e : ∀ l, stepD x t r k l b = nextE x t (placeD x t r k) k l b := fun l => by unfold stepD; rw [List.getElem?_eq_none (by omega)]
    rw [e] at h ⊢
    exact nextE_mono (by omega) hB.go bl bm hb h
def okO (e : Except Int Lab) : Option Lab := match e with | .ok l => some l | .error _ => none
def okL (es : List (Except Int Lab)) : List Lab := es.filterMap okO
theorem okL_app (a b : List (Except Int Lab)) : okL (a ++ b) = okL a ++ okL b := List.filterMap_append
theorem mem_okL {es : List (Except Int Lab)} {l : Lab} : l ∈ okL es ↔ .ok l ∈ es := by
  unfold okL
  rw [List.mem_filterMap]
  constructor
  · rintro ⟨e, he, h⟩
    cases e with
    | error e => cases h
    | ok l' => injection h with h; subst h; exact he
  · intro h; exact ⟨_, h, rfl⟩
def allK (fixed : List Bool) : Nat → List (List Bool)
  | 0 => [[]]
  | k + 1 => (allK fixed k).flatMap fun c => (choicesD fixed k).map fun b => c ++ [b]
theorem allK_len (fixed : List Bool) : ∀ k, ∀ c ∈ allK fixed k, c.length = k
  | 0, c, h => by
    have h : c ∈ [[]] := h
    simp at h; subst h; rfl
  | k + 1, c, h => by
    obtain ⟨d, hd, h⟩ := List.mem_flatMap.1 h
    obtain ⟨b, _, rfl⟩ := List.mem_map.1 h
    simp [allK_len fixed k d hd]
def stepEs (x : Instance) (t : VType) (r : Route) (k : Nat) (l : Lab) : List (Except Int Lab) := (choicesD r.rests k).map fun b => stepD x t r k l b
def runs (x : Instance) (t : VType) (r : Route) (L : List (List Bool)) : List Lab := okL (L.map fun c => runD x t r c 0 (lab0 t r))
theorem runs_succ (x : Instance) (t : VType) (r : Route) (k : Nat) : ∀ L : List (List Bool), (∀ c ∈ L, c.length = k) →
    runs x t r (L.flatMap fun c => (choicesD r.rests k).map fun b => c ++ [b]) = (runs x t r L).flatMap fun l => okL (stepEs x t r k l)
  | [], _ => rfl
  | c :: L, h => by
    have ih := runs_succ x t r k L fun d hd => h d (by simp [hd])
    have hc := h c (by simp)
    unfold runs at ih ⊢
    rw [List.flatMap_cons, List.map_append, okL_app, ih, List.map_cons]
    have e : okL (((choicesD r.rests k).map fun b => c ++ [b]).map fun c => runD x t r c 0 (lab0 t r)) = match runD x t r c 0 (lab0 t r) with
        | .error _ => []
        | .ok l => okL (stepEs x t r k l) := by
      rw [List.map_map]
      cases hr : runD x t r c 0 (lab0 t r) with
      | error e =>
        dsimp only
        refine List.filterMap_eq_nil_iff.2 fun a ha => ?_
        obtain ⟨b, _, rfl⟩ := List.mem_map.1 ha
        show okO (runD x t r (c ++ [b]) 0 (lab0 t r)) = none
        rw [runD_snoc, hr]; rfl
      | ok l =>
        dsimp only
        unfold stepEs
        congr 1
        refine List.map_congr_left fun b _ => ?_
        show runD x t r (c ++ [b]) 0 (lab0 t r) = _
        rw [runD_snoc, hr]
        show stepD x t r (0 + c.length) l b = _
        rw [hc, Nat.zero_add]
    rw [e]
    cases hr : runD x t r c 0 (lab0 t r) with
    | error e => rfl
    | ok l => rfl
/-- a pruned list: what is left out is beaten by something kept before it -/
inductive Cov : List Lab → List Lab → Prop
  | nil : Cov [] []
  | keep {f d : List Lab} (l : Lab) : Cov f d → Cov (f ++ [l]) (d ++ [l])
  | skip {f d : List Lab} (l m : Lab) : Cov f d → m ∈ d → beats m l → Cov (f ++ [l]) d
theorem Cov.sub {f d : List Lab} (h : Cov f d) : ∀ m ∈ d, m ∈ f := by
  induction h with
  | nil => simp
  | keep l _ ih =>
    intro m hm
    rcases List.mem_append.1 hm with hm | hm
    · exact List.mem_append_left _ (ih m hm)
    · exact List.mem_append_right _ hm
  | skip l m _ _ _ ih => intro q hq; exact List.mem_append_left _ (ih q hq)
theorem Cov.add {F D : List Lab} (h : Cov F D) (es : List (Except Int Lab)) : Cov (F ++ okL es) (es.foldl addL D) := by
    induction es generalizing F D with
    | nil => simpa [okL] using h
    | cons e es ih =>
      cases e with
      | error e => exact ih h
      | ok l =>
        have e1 : F ++ okL (.ok l :: es) = (F ++ [l]) ++ okL es := by
          rw [show okL (.ok l :: es) = l :: okL es from rfl, List.append_assoc]; rfl
        rw [e1, List.foldl_cons]
        refine ih ?_
        show Cov (F ++ [l]) (if D.any (beatsB · l) = true then D else D ++ [l])
        by_cases hb : D.any (beatsB · l) = true
        · rw [if_pos hb]
          obtain ⟨m, hm, hml⟩ := List.any_eq_true.1 hb
          exact .skip l m h hm (beatsB_iff.1 hml)
        · rw [if_neg hb]; exact .keep l h
theorem Cov.skips {F D : List Lab} (h : Cov F D) (ls : List Lab) : (∀ l ∈ ls, ∃ m ∈ D, beats m l) → Cov (F ++ ls) D := by
    induction ls generalizing F with
    | nil => intro _; simpa using h
    | cons l ls ih =>
      intro hl
      obtain ⟨m, hm, hb⟩ := hl l (by simp)
      rw [show F ++ l :: ls = (F ++ [l]) ++ ls by simp]
      exact ih (.skip l m h hm hb) fun q hq => hl q (by simp [hq])
theorem Cov.grow {x : Instance} {t : VType} {r : Route} (hB : RouteB x t r) {k : Nat} (hk : k ≤ r.visits.length) {f d : List Lab} (h : Cov f d) :
    (∀ l ∈ f, LabB l k) → Cov (f.flatMap fun l => okL (stepEs x t r k l)) (growD x t r d k) := by
  induction h with
  | nil => intro _; exact .nil
  | @keep f d l h ih =>
    intro hl
    have ih := ih fun q hq => hl q (List.mem_append_left _ hq)
    rw [List.flatMap_append, show [l].flatMap (fun l => okL (stepEs x t r k l)) = okL (stepEs x t r k l) by simp]
    have e : growD x t r (d ++ [l]) k = (stepEs x t r k l).foldl addL (growD x t r d k) := by
      unfold growD
      rw [List.flatMap_append, List.foldl_append, show [l].flatMap (fun l => (choicesD r.rests k).map fun b => stepD x t r k l b) = stepEs x t r k l by simp [stepEs]]
    rw [e]
    exact ih.add _
  | @skip f d l m h hm hb ih =>
    intro hl
    have ih := ih fun q hq => hl q (List.mem_append_left _ hq)
    rw [List.flatMap_append, show [l].flatMap (fun l => okL (stepEs x t r k l)) = okL (stepEs x t r k l) by simp]
    refine ih.skips _ fun q hq => ?_
    obtain ⟨b, hb1, hb2⟩ := List.mem_map.1 (mem_okL.1 hq)
    obtain ⟨m', h1, h2⟩ := stepD_mono hB hk (hl m (List.mem_append_left _ (h.sub m hm))) (hl l (by simp)) hb hb2
    obtain ⟨q', hq', hqb⟩ := (addL_spec (d.flatMap fun l => (choicesD r.rests k).map fun b => stepD x t r k l b) []).2.2 m' (List.mem_flatMap.2 ⟨m, hm, List.mem_map.2 ⟨b, hb1, h1⟩⟩)
    exact ⟨q', hq', hqb.trans h2⟩
theorem cov_all {x : Instance} {t : VType} {r : Route} (hB : RouteB x t r) : ∀ k, k ≤ r.visits.length + 1 → Cov (runs x t r (allK r.rests k)) (dpL x t r k)
  | 0, _ => Cov.keep (lab0 t r) Cov.nil
  | k + 1, hk => by
    have ih := cov_all hB k (by omega)
    show Cov (runs x t r ((allK r.rests k).flatMap fun c => (choicesD r.rests k).map fun b => c ++ [b])) (growD x t r (dpL x t r k) k)
    rw [runs_succ x t r k _ (allK_len r.rests k)]
    refine ih.grow hB (by omega) fun l hl => ?_
    obtain ⟨c, hc, he⟩ := List.mem_map.1 (mem_okL.1 hl)
    exact runD_B hB k c l (allK_len r.rests k c hc) (by omega) he
/-! ### the first of the least ends -/
def fmS (o : Option Lab) (m : Lab) : Option Lab := match o with | none => some m | some b => some (bestS b m)
def fm (l : List Lab) : Option Lab := l.foldl fmS none
theorem fm_cons (l : Lab) (ls : List Lab) : fm (l :: ls) = some (ls.foldl bestS l) := by
  show ls.foldl fmS (some l) = _
  induction ls generalizing l with
  | nil => rfl
  | cons a r ih => exact ih (bestS l a)
theorem fm_snoc (f : List Lab) (l : Lab) : fm (f ++ [l]) = fmS (fm f) l := by unfold fm; rw [List.foldl_append]; rfl
theorem bestS_le (b m : Lab) : (bestS b m).sheet.end_ ≤ b.sheet.end_ ∧ (bestS b m).sheet.end_ ≤ m.sheet.end_ := by
  unfold bestS
  split <;> simp_all <;> omega
theorem fold_min : ∀ (ls : List Lab) (b : Lab), (ls.foldl bestS b).sheet.end_ ≤ b.sheet.end_ ∧ ∀ m ∈ ls, (ls.foldl bestS b).sheet.end_ ≤ m.sheet.end_
  | [], b => ⟨Int.le_refl _, by simp⟩
  | a :: r, b => by
    have ih := fold_min r (bestS b a)
    have h := bestS_le b a
    refine ⟨Int.le_trans ih.1 h.1, fun m hm => ?_⟩
    rcases List.mem_cons.1 hm with rfl | hm
    · exact Int.le_trans ih.1 h.2
    · exact ih.2 m hm
theorem fm_min {d : List Lab} {m : Lab} (hm : m ∈ d) : ∃ b, fm d = some b ∧ b.sheet.end_ ≤ m.sheet.end_ := by
  cases d with
  | nil => cases hm
  | cons a r =>
    refine ⟨_, fm_cons a r, ?_⟩
    have h := fold_min r a
    rcases List.mem_cons.1 hm with rfl | hm
    · exact h.1
    · exact h.2 m hm
theorem Cov.first {f d : List Lab} (h : Cov f d) : (∀ l ∈ f, l.sheet.end_ = l.ready) → fm f = fm d := by
  induction h with
  | nil => intro _; rfl
  | keep l h ih => intro he; rw [fm_snoc, fm_snoc, ih fun q hq => he q (List.mem_append_left _ hq)]
  | skip l m h hm hb ih =>
    intro he
    rw [fm_snoc, ih fun q hq => he q (List.mem_append_left _ hq)]
    obtain ⟨b, h1, h2⟩ := fm_min hm
    rw [h1]
    have e1 := he l (by simp)
    have e2 := he m (List.mem_append_left _ (h.sub m hm))
    have e3 := hb.1
    show some (bestS b l) = some b
    unfold bestS
    rw [if_neg (by simp; omega)]
/-! ### the lists of rests -/
theorem allR_snoc : ∀ (m : Nat) (p : List Bool), allR p (m + 1) = (allR p m).flatMap fun c => [c ++ [false], c ++ [true]]
  | 0, p => rfl
  | m + 1, p => by
    show allR (p ++ [false]) (m + 1) ++ allR (p ++ [true]) (m + 1) = (allR (p ++ [false]) m ++ allR (p ++ [true]) m).flatMap _
    rw [allR_snoc m, allR_snoc m, List.flatMap_append]
theorem allK_short (fixed : List Bool) : ∀ k, k ≤ fixed.length → allK fixed k = [fixed.take k]
  | 0, _ => rfl
  | k + 1, h => by
    show (allK fixed k).flatMap _ = _
    rw [allK_short fixed k (by omega)]
    unfold choicesD
    rw [if_pos (by omega)]
    simp only [List.flatMap_cons, List.flatMap_nil, List.append_nil, List.map_cons, List.map_nil]
    rw [take_succ (List.getElem?_eq_getElem (by omega))]
    simp [List.getD, List.getElem?_eq_getElem (show k < fixed.length by omega)]
theorem allK_R (fixed : List Bool) : ∀ m, allK fixed (fixed.length + m) = allR fixed m
  | 0 => by rw [Nat.add_zero, allK_short fixed _ (Nat.le_refl _), List.take_length]; rfl
  | m + 1 => by
    show (allK fixed (fixed.length + m)).flatMap _ = _
    rw [allK_R fixed m, allR_snoc]
    unfold choicesD
    rw [if_neg (show ¬ fixed.length.add m < fixed.length from fun e => absurd (show fixed.length + m < fixed.length from e) (by omega))]
    rfl
def relB (o : Option Lab) (b : Sheet × Bool) : Prop := match o with | none => b = (zeroSheet, false) | some m => b = (m.sheet, true)
theorem bestF_fm {x : Instance} {r : Route} {t : VType} (hp : possible18 x r = true) (ht : x.types[r.type.toNat]? = some t) (hs : ∀ v ∈ r.visits, (stop18 x v).1.start ≤ (stop18 x v).1.close) :
    ∀ (L : List (List Bool)) (o : Option Lab) (b : Sheet × Bool), (∀ c ∈ L, c.length = r.visits.length + 1) → relB o b → relB ((runs x t r L).foldl fmS o) (bestF x r L b)
  | [], o, b, _, h => h
  | c :: L, o, b, hl, h => by
    have h0 := run_D (bs := c) hp ht (hl c (by simp)) hs
    have ih := bestF_fm hp ht hs L
    show relB _ (bestF x r L (bestStep x r c b))
    have hL := fun d hd => hl d (List.mem_cons_of_mem c hd)
    unfold runs
    rw [List.map_cons]
    cases hr : runD x t r c 0 (lab0 t r) with
    | error e =>
      rw [hr] at h0
      have hne := runD_err _ _ _ _ hr
      show relB ((runs x t r L).foldl fmS o) _
      have : bestStep x r c b = b := by
        unfold bestStep
        rw [if_neg]
        rw [h0.2]; simp [hne]
      rw [this]; exact ih o b hL h
    | ok m =>
      rw [hr] at h0
      show relB ((runs x t r L).foldl fmS (fmS o m)) _
      refine ih _ _ hL ?_
      unfold bestStep
      rw [h0.1, h0.2]
      cases o with
      | none =>
        have h : b = (zeroSheet, false) := h
        rw [h]; rfl
      | some q =>
        have h : b = (q.sheet, true) := h
        rw [h]
        show (if ((0 : Int) == 0 && (!true || decide (m.sheet.end_ < q.sheet.end_))) = true then (m.sheet, true) else (q.sheet, true)) = ((bestS q m).sheet, true)
        unfold bestS
        simp only [BEq.rfl, Bool.not_true, Bool.false_or, Bool.true_and]
        split <;> rfl
theorem Acc.best2 {x : Instance} (h : Acc x) (r : Route) : bestP x r = best18 x r := by
  by_cases hb : (!possible18 x r || decide ((r.rests.length : Int) > (r.visits.length : Int) + 1)) = true
  · unfold bestP best18
    rw [if_pos hb, if_pos (by simpa using hb)]
  have hb' : possible18 x r = true ∧ (r.rests.length : Int) ≤ (r.visits.length : Int) + 1 := by simpa using hb
  obtain ⟨hp, hr⟩ := hb'
  have hty : ∃ t, x.types[r.type.toNat]? = some t := by
    have := possible_type hp
    exact getIn (by omega)
  obtain ⟨t, ht⟩ := hty
  obtain ⟨hB, hs⟩ := h.route hp ht
  have hr : r.rests.length ≤ r.visits.length + 1 := by omega
  have h2 := h.best r
  have h0 := run_D (bs := rests0 r) hp ht (rests0_len hr) hs
  have hz : (run18 x r (rests0 r)).2.2 ≠ 0 → (run18 x r (rests0 r)).1 = zeroSheet := by
    intro hne
    cases hd : runD x t r (rests0 r) 0 (lab0 t r) with
    | error e => rw [hd] at h0; exact h0.1
    | ok l => rw [hd] at h0; exact absurd h0.2 hne
  refine Prod.ext ?_ h2
  rw [best_all hp hr hz]
  unfold bestP
  rw [if_neg hb, ht]
  show (bestT x t r).1 = _
  have hall : allR r.rests (restsN r) = allK r.rests (r.visits.length + 1) := by
    rw [← allK_R]; unfold restsN; congr 1; omega
  have hrel := bestF_fm hp ht hs (allR r.rests (restsN r)) none (zeroSheet, false) (fun c hc => by
    rw [hall] at hc; exact allK_len _ _ c hc) rfl
  have hcov := (cov_all hB (r.visits.length + 1) (Nat.le_refl _)).first fun l hl => by
    obtain ⟨c, hc, he⟩ := List.mem_map.1 (mem_okL.1 hl)
    obtain ⟨cs, b, rfl, hm⟩ := snoc_of (allK_len r.rests _ c hc)
    rw [runD_snoc] at he
    cases hd : runD x t r cs 0 (lab0 t r) with
    | error e => rw [hd] at he; cases he
    | ok l' =>
      rw [hd] at he
      have he : stepD x t r (0 + cs.length) l' b = .ok l := he
      unfold stepD at he
      rw [List.getElem?_eq_none (by omega)] at he
      obtain ⟨_, _, _, rfl⟩ := nextE_ok he
      rfl
  rw [← hall] at hcov
  have hrel : relB (fm (dpL x t r (r.visits.length + 1))) (bestF x r (allR r.rests (restsN r)) (zeroSheet, false)) := hcov ▸ hrel
  unfold bestT
  rw [dpPD x t r _ (Nat.le_refl _)]
  generalize hdp : dpL x t r (r.visits.length + 1) = d at hrel
  cases d with
  | nil =>
    have hrel : bestF x r (allR r.rests (restsN r)) (zeroSheet, false) = (zeroSheet, false) := hrel
    rw [hrel]
    show sheetOf (runP x t (stopsL x r.visits) (rests0 r) 0 (lab0 t r)) = zeroSheet
    rw [runPD x t r _ 0 _ (by rw [rests0_len hr]; omega)]
    have hk : keeps r.rests (rests0 r) := (keeps_prefix (by rw [rests0_len hr]; omega)).2 ⟨_, rfl⟩
    obtain ⟨e, he⟩ := (dp_nil hB).1 hdp (rests0 r) (rests0_len hr) hk
    rw [he]; rfl
  | cons l ls =>
    rw [fm_cons] at hrel
    have hrel : bestF x r (allR r.rests (restsN r)) (zeroSheet, false) = ((ls.foldl bestS l).sheet, true) := hrel
    rw [hrel]; rfl
theorem Acc.eval {x : Instance} (h : Acc x) (r : Route) : evalP x r = eval21 x r := by
  unfold evalP eval21
  by_cases hb : badNo r.type x.types.length = true
  · rw [if_pos hb, if_pos hb]
  rw [if_neg hb, if_neg hb]
  have hty : ∃ t, x.types[r.type.toNat]? = some t := by
    simp only [badNo, Bool.not_eq_true, Bool.or_eq_false_iff, decide_eq_false_iff_not] at hb
    exact getIn (by omega)
  obtain ⟨t, ht⟩ := hty
  rw [ht]
  show _ = evalT x r t
  unfold evalT
  rw [h.seq]
  by_cases hc : (check16 x r.visits != 0) = true
  · rw [if_pos hc, if_pos hc]
  rw [if_neg hc, if_neg hc]
  have hc' : check16 x r.visits = 0 := by simpa using hc
  have hT := h.type t (List.mem_of_getElem? ht)
  have es : (r.visits.any fun v => !skillP x r v) = r.visits.any fun v => !skillAt x t v := any_congr fun v hv => by
    have hin := check_in hc' v hv
    obtain ⟨o, ho⟩ := getIn (show v.order.toNat < x.orders.length by omega)
    unfold skillP skillAt
    rw [ht, ho]
    exact congrArg _ (able_same hT.skills (h.order o (List.mem_of_getElem? ho)).skills)
  unfold ableR
  rw [es, h.fits, h.best2]
  by_cases h1 : (r.visits.any fun v => !skillAt x t v) = true
  · rw [if_pos h1, if_pos (by simp), if_pos h1]
  rw [if_neg h1, if_neg (by simp), if_neg h1]

theorem take_eq {α : Type} {a b : List α} {k : Nat} {u : α} (ha : a[k]? = some u) (hb : b[k]? = some u) (h : a.take k = b.take k) : a.take (k + 1) = b.take (k + 1) := by rw [take_succ ha, take_succ hb, h]
theorem sameV_eq (u v : Visit) : (u.order == v.order && (u.drop == v.drop && true)) = decide (u = v) := by
  rw [Bool.eq_iff_iff, decide_eq_true_eq]
  cases u; cases v
  simp
theorem eqVisit (u v : Visit) : eqCells [0, 2] (encVisit u) (encVisit v) = some (decide (u = v)) := (congrArg some (sameV_eq u v) : _)
theorem equalV_c (a b : List Visit) (ha : a.length ≤ 1048576) : PC Tryz.prog 138 [.sl (a.map encVisit), .sl (b.map encVisit)] (boo (decide (a = b))) := by
  refine PC.body (c := Tryz.f138.body.getD .skip) (fun _ => false) mixed Tryz.func138 rfl (by kernel_rfl) ?_
  unfold Tryz.f138
  simp only [Option.getD_some]
  simp only [go_sem]
  refine acond_i (fun hb => ?_) (fun hb => ?_)
  · simp only [go_sem]
    refine convB (decide_eq_false ?_).symm
    rintro rfl
    simp at hb
  have hl : a.length = b.length := by
    have : (a.length : Int) = (b.length : Int) := by simpa using hb
    omega
  simp only [go_sem]
  refine ⟨fun ρ _ => ∃ k : Nat, k ≤ a.length ∧ ρ 0 = .sl (a.map encVisit) ∧ ρ 1 = .sl (b.map encVisit) ∧ ρ 12 = int a.length ∧ ρ 13 = int k ∧ a.take k = b.take k, fun ρ _ => a.length - natOf (ρ 13), ⟨0, Nat.zero_le _, rfl, rfl, by simp only [go_sem, List.length_map], rfl, by simp⟩, ?_⟩
  rintro ρ H ⟨k, hk, h0, h1, h12, h13, hz⟩
  simp only [go_sem, h0, h1, h12, h13]
  refine acond_i (fun hlt => ?_) (fun hge => ?_)
  · have hlt := le_of_lt_b hlt
    obtain ⟨u, hu⟩ := getIn hlt
    obtain ⟨v, hv⟩ := getIn (show k < b.length by omega)
    have b1 := inB hlt
    have b2 := inB (show k < b.length by omega)
    simp only [go_sem, h0, h1, h12, h13]
    refine adraw_q (by rfl) (by kernel_rfl) ?_
    simp only [go_sem, h0, h1, h12, h13, getD_map hu, getD_map hv, b1, b2]
    rw [eqVisit]
    simp only [go_sem]
    refine acond_i (fun hb2 => ?_) (fun hb2 => ?_)
    · simp only [go_sem]
      refine convB (decide_eq_false ?_).symm
      rintro rfl
      rw [hu] at hv; injection hv with hv
      simp [hv] at hb2
    · have : u = v := by simpa using hb2
      subst this
      simp only [go_sem, h0, h1, h12, h13, wrapS (show k ≤ 4611686018427387904 by omega)]
      exact ⟨⟨k + 1, hlt, rfl, take_eq hu hv hz⟩, by simp only [natOf_int]; omega⟩
  · have hge := eq_of_ge_b hk hge
    subst hge
    rw [List.take_length, List.take_of_length_le (by omega)] at hz
    simp only [go_sem]
    exact convB (decide_eq_true hz).symm
theorem equalB_c (a b : List Bool) (ha : a.length ≤ 1048576) : PC Tryz.prog 139 [.sl (a.map encBool), .sl (b.map encBool)] (boo (decide (a = b))) := by
  refine PC.body (c := Tryz.f139.body.getD .skip) (fun _ => false) mixed Tryz.func139 rfl (by kernel_rfl) ?_
  unfold Tryz.f139
  simp only [Option.getD_some]
  simp only [go_sem]
  refine acond_i (fun hb => ?_) (fun hb => ?_)
  · simp only [go_sem]
    refine convB (decide_eq_false ?_).symm
    rintro rfl
    simp at hb
  have hl : a.length = b.length := by
    have : (a.length : Int) = (b.length : Int) := by simpa using hb
    omega
  simp only [go_sem]
  refine ⟨fun ρ _ => ∃ k : Nat, k ≤ a.length ∧ ρ 0 = .sl (a.map encBool) ∧ ρ 1 = .sl (b.map encBool) ∧ ρ 12 = int a.length ∧ ρ 13 = int k ∧ a.take k = b.take k, fun ρ _ => a.length - natOf (ρ 13), ⟨0, Nat.zero_le _, rfl, rfl, by simp only [go_sem, List.length_map], rfl, by simp⟩, ?_⟩
  rintro ρ H ⟨k, hk, h0, h1, h12, h13, hz⟩
  simp only [go_sem, h0, h1, h12, h13]
  refine acond_i (fun hlt => ?_) (fun hge => ?_)
  · have hlt := le_of_lt_b hlt
    obtain ⟨u, hu⟩ := getIn hlt
    obtain ⟨v, hv⟩ := getIn (show k < b.length by omega)
    have b1 := inB hlt
    have b2 := inB (show k < b.length by omega)
    simp only [go_sem, h0, h1, h12, h13]
    refine adraw_q (by rfl) (by kernel_rfl) ?_
    simp only [go_sem, h0, h1, h12, h13, getD_map hu, getD_map hv, b1, b2]
    refine acond_i (fun hb2 => ?_) (fun hb2 => ?_)
    · simp only [go_sem]
      refine convB (decide_eq_false ?_).symm
      rintro rfl
      rw [hu] at hv; injection hv with hv
      simp [hv] at hb2
    · have : u = v := by simpa using hb2
      subst this
      simp only [go_sem, h0, h1, h12, h13, wrapS (show k ≤ 4611686018427387904 by omega)]
      exact ⟨⟨k + 1, hlt, rfl, take_eq hu hv hz⟩, by simp only [natOf_int]; omega⟩
  · have hge := eq_of_ge_b hk hge
    subst hge
    rw [List.take_length, List.take_of_length_le (by omega)] at hz
    simp only [go_sem]
    exact convB (decide_eq_true hz).symm
def startsB {α : Type} [DecidableEq α] (l f : List α) : Bool := decide ((l.length : Int) ≥ (f.length : Int)) && decide (l.take f.length = f)
theorem startsV_c (l f : List Visit) (hl : l.length ≤ 1048576) (hf : f.length ≤ 1048576) : PC Tryz.prog 109 [.sl (l.map encVisit), .sl (f.map encVisit)] (boo (startsB l f)) := by
  refine PC.body (c := Tryz.f109.body.getD .skip) (fun _ => false) mixed Tryz.func109 rfl (by kernel_rfl) ?_
  unfold Tryz.f109
  simp only [Option.getD_some]
  simp only [go_sem]
  refine ⟨fun h => ⟨by omega, by simpa using h⟩, boo (decide (l.take f.length = f)), fun h => ?_, ?_⟩
  · rw [← List.map_take]
    exact (equalV_c _ _ (by rw [List.length_take]; omega)).q rfl
  simp only [go_sem]
  exact .refl _
theorem startsB_c (l f : List Bool) (hl : l.length ≤ 1048576) (hf : f.length ≤ 1048576) : PC Tryz.prog 110 [.sl (l.map encBool), .sl (f.map encBool)] (boo (startsB l f)) := by
  refine PC.body (c := Tryz.f110.body.getD .skip) (fun _ => false) mixed Tryz.func110 rfl (by kernel_rfl) ?_
  unfold Tryz.f110
  simp only [Option.getD_some]
  simp only [go_sem]
  refine ⟨fun h => ⟨by omega, by simpa using h⟩, boo (decide (l.take f.length = f)), fun h => ?_, ?_⟩
  · rw [← List.map_take]
    exact (equalB_c _ _ (by rw [List.length_take]; omega)).q rfl
  simp only [go_sem]
  exact .refl _
def notB (r b : Route) : Bool := ((r.type != b.type || r.start != b.start) || !startsB r.visits b.visits) || !startsB r.rests b.rests
def beginsB (r b : Route) : Bool := if notB r b = true then false else !decide ((b.rests.length : Int) > (b.visits.length : Int)) || (((r.visits.length : Int) == (b.visits.length : Int)) && ((r.rests.length : Int) == (b.rests.length : Int)))
structure RouteL (r : Route) : Prop where
  visits : r.visits.length ≤ 1048576
  rests : r.rests.length ≤ 1048576
theorem begins_c (r b : Route) (hr : RouteL r) (hb : RouteL b) : PC Tryz.prog 63 [.agg (encRoute r), .agg (encRoute b)] (boo (beginsB r b)) := by
  refine PC.body (c := Tryz.f63.body.getD .skip) (fun _ => false) mixed Tryz.func63 rfl (by kernel_rfl) ?_
  unfold Tryz.f63
  simp only [Option.getD_some]
  simp only [go_sem]
  refine ⟨_, fun _ => (startsV_c _ _ hr.visits hb.visits).q rfl, ?_⟩
  simp only [go_sem]
  refine ⟨_, fun _ => (startsB_c _ _ hr.rests hb.rests).q rfl, ?_⟩
  simp only [go_sem]
  refine acond_i (fun h => ?_) (fun h => ?_)
  · simp only [go_sem]
    exact convB (by unfold beginsB; rw [if_pos (show notB r b = true from h)])
  · simp only [go_sem]
    refine convB ?_
    unfold beginsB
    rw [if_neg (by rw [show notB r b = false from h]; simp)]
theorem meet2_c (v w : Visit) : PC Tryz.prog 112 [.agg (encVisit w), .rp (encVisit v) 0] (boo (v.order == w.order)) := by
  refine PC.body (c := Tryz.f112.body.getD .skip) (fun _ => false) mixed Tryz.func112 rfl (by kernel_rfl) ?_
  unfold Tryz.f112
  simp only [Option.getD_some]
  simp only [go_sem]
  exact .refl _
theorem meet1_c (b : Route) (v : Visit) (hl : b.visits.length ≤ 1048576) : PC Tryz.prog 111 [.agg (encVisit v), .rp (encRoute b) 0] (boo (b.visits.any fun w => v.order == w.order)) := by
  refine PC.body (c := Tryz.f111.body.getD .skip) (fun _ => false) mixed Tryz.func111 rfl (by kernel_rfl) ?_
  unfold Tryz.f111
  simp only [Option.getD_some]
  simp only [go_sem]
  refine PC.use (containsFuncV_c (p := fun w => v.order == w.order) b.visits hl (by simp only [go_sem]) fun w _ => meet2_c v w) ?_
  simp only [go_sem]
  exact .refl _
def meetB (a b : Route) : Bool := a.visits.any fun v => b.visits.any fun w => v.order == w.order
theorem meet_c (a b : Route) (ha : a.visits.length ≤ 1048576) (hb : b.visits.length ≤ 1048576) : PC Tryz.prog 64 [.agg (encRoute a), .agg (encRoute b)] (boo (meetB a b)) := by
  refine PC.body (c := Tryz.f64.body.getD .skip) (fun _ => false) mixed Tryz.func64 rfl (by kernel_rfl) ?_
  unfold Tryz.f64
  simp only [Option.getD_some]
  simp only [go_sem]
  refine PC.use (containsFuncV_c (p := fun v => b.visits.any fun w => v.order == w.order) a.visits ha (by simp only [go_sem]) fun v _ => meet1_c b v hb) ?_
  simp only [go_sem]
  exact .refl _
abbrev routeRow (cs : List AV) : Row := ⟨56, 4, [cs]⟩
def keepR (p : Plan) (b : Route) (k : Nat) : Bool := ((p.routes.take k).any fun r => !beginsB r b && meetB r b)
def cntR (p : Plan) (b : Route) (k : Nat) : Nat := cntB (fun r => beginsB r b) (p.routes.take k)
def lostB (p : Plan) (b : Route) : Bool := (p.routes.any fun r => !beginsB r b && meetB r b) || (((cntB (fun r => beginsB r b) p.routes : Nat) : Int) != 1)
def keepsP (p : Plan) (l : List Route) : Int := if (l.any (lostB p)) = true then 31 else 0
theorem keeps_c (p : Plan) (l : List Route) (hp : p.routes.length ≤ 1048576) (hl : l.length ≤ 1048576) (hr : ∀ r ∈ p.routes, RouteL r) (hb : ∀ r ∈ l, RouteL r) : PC Tryz.prog 39 [.agg (encPlan p), .sl (l.map encRoute)] (int (keepsP p l)) := by
  refine PC.body (c := Tryz.f39.body.getD .skip) (fun _ => false) mixed Tryz.func39 rfl (by kernel_rfl) ?_
  unfold Tryz.f39
  simp only [Option.getD_some]
  simp only [go_sem]
  refine ⟨fun ρ _ => ∃ k : Nat, k ≤ l.length ∧ ρ 2 = .rp (encPlan p) 0 ∧ ρ 10 = .sl (l.map encRoute) ∧ ρ 11 = int l.length ∧ ρ 12 = int k ∧ ∀ b ∈ l.take k, lostB p b = false, fun ρ _ => l.length - natOf (ρ 12), ⟨0, Nat.zero_le _, rfl, rfl, by simp only [go_sem, List.length_map], rfl, by simp⟩, ?_⟩
  rintro ρ H ⟨k, hk, h2, h10, h11, h12, hz⟩
  simp only [go_sem, h2, h10, h11, h12]
  refine acond_i (fun hlt => ?_) (fun hge => ?_)
  · have hlt := le_of_lt_b hlt
    obtain ⟨b, hv⟩ := getIn hlt
    have b1 := inB hlt
    have hbL := hb b (List.mem_of_getElem? hv)
    simp only [go_sem, h2, h10, h11, h12, getD_map hv, b1]
    refine anew_i fun i6 hi60 => ?_
    simp only [go_sem, h2, h10, h11, h12]
    refine wputE_n (updH_same _ _ _) (by simp [encRoute_len]) ?_
    generalize hGi6 : updH (updH _ i6 _) i6 _ = HGi6
    have R6 : HGi6 i6 = some (routeRow (encRoute b)) := by rw [← hGi6, updH_same]; rfl
    clear hGi6 hi60
    simp only [go_sem, h2, h10, h11, h12, R6]
    refine ⟨fun ρ H => ∃ m : Nat, m ≤ p.routes.length ∧ ρ 2 = .rp (encPlan p) 0 ∧ ρ 6 = .op i6 0 0 ∧ ρ 10 = .sl (l.map encRoute) ∧ ρ 11 = int l.length ∧ ρ 12 = int k ∧ ρ 17 = .sl (p.routes.map encRoute) ∧ ρ 18 = int p.routes.length ∧ ρ 7 = int (cntB (fun r => beginsB r b) (p.routes.take m) : Nat) ∧ ρ 19 = int m ∧ H i6 = some (routeRow (encRoute b)) ∧ ∀ r ∈ p.routes.take m, (!beginsB r b && meetB r b) = false, fun ρ _ => p.routes.length - natOf (ρ 19),
      ⟨0, Nat.zero_le _, by simp only [go_sem, h2], by simp only [go_sem], by simp only [go_sem, h10], by simp only [go_sem, h11], by simp only [go_sem, h12], by simp only [go_sem], by simp only [go_sem, List.length_map], by simp only [go_sem]; rfl, by simp only [go_sem]; rfl, R6, by simp⟩, ?_⟩
    clear h2 h10 h11 h12 R6
    rintro ρ H ⟨m, hm, h2, h6, h10, h11, h12, h17, h18, h7, h19, R6, hy⟩
    simp only [go_sem, h2, h6, h10, h11, h12, h17, h18, h7, h19]
    refine acond_i (fun hlt2 => ?_) (fun hge2 => ?_)
    · have hlt2 := le_of_lt_b hlt2
      obtain ⟨r, hrm⟩ := getIn hlt2
      have b2 := inB hlt2
      have hrL := hr r (List.mem_of_getElem? hrm)
      have hcle : cntB (fun r => beginsB r b) (p.routes.take m) ≤ p.routes.length := cnt_le
      simp only [go_sem, h2, h6, h10, h11, h12, h17, h18, h7, h19, getD_map hrm, b2]
      refine anew_i fun i9 hi90 => ?_
      have ne_i6_i9 : i6 ≠ i9 := ne_new R6 hi90
      simp only [go_sem, h2, h6, h10, h11, h12, h17, h18, h7, h19, R6]
      refine wputE_n (updH_same _ _ _) (by simp [encRoute_len]) ?_
      generalize hGi9 : updH (updH _ i9 _) i9 _ = HGi9
      replace R6 := (congrFun hGi9.symm i6).trans ((updH_ne _ _ _ _ ne_i6_i9).trans ((updH_ne _ _ _ _ ne_i6_i9).trans R6))
      have R9 : HGi9 i9 = some (routeRow (encRoute r)) := by rw [← hGi9, updH_same]; rfl
      clear hGi9 hi90
      simp only [go_sem, h2, h6, h10, h11, h12, h17, h18, h7, h19, R9, R6]
      refine PC.use (begins_c r b hrL hbL) ?_
      simp only [go_sem, h2, h6, h10, h11, h12, h17, h18, h7, h19, R6, R9]
      have hcs : cntB (fun r => beginsB r b) (p.routes.take (m + 1)) = cntB (fun r => beginsB r b) (p.routes.take m) + if beginsB r b = true then 1 else 0 := cnt_take (p := fun r => beginsB r b) hrm
      refine acond_i (fun hb2 => ?_) (fun hb2 => ?_)
      · simp only [go_sem, h2, h6, h10, h11, h12, h17, h18, h7, h19, wrapS (show m ≤ 4611686018427387904 by omega), wrapS (show cntB (fun r => beginsB r b) (p.routes.take m) ≤ 4611686018427387904 by omega)]
        exact ⟨⟨m + 1, hlt2, by rw [hcs, if_pos hb2], rfl, R6, take_allP (p := fun r => (!beginsB r b && meetB r b) = false) hrm (by rw [hb2]; rfl) hy⟩, by simp only [natOf_int]; omega⟩
      · simp only [go_sem, h2, h6, h10, h11, h12, h17, h18, h7, h19, R6, R9]
        refine PC.use (meet_c r b hrL.visits hbL.visits) ?_
        simp only [go_sem, h2, h6, h10, h11, h12, h17, h18, h7, h19, R6, R9]
        refine acond_i (fun hb3 => ?_) (fun hb3 => ?_)
        · simp only [go_sem]
          refine convI ?_
          unfold keepsP
          rw [if_pos (List.any_eq_true.2 ⟨b, List.mem_of_getElem? hv, by
            unfold lostB
            rw [List.any_eq_true.2 ⟨r, List.mem_of_getElem? hrm, by rw [hb2, hb3]; rfl⟩]; rfl⟩)]
        · simp only [go_sem, h2, h6, h10, h11, h12, h17, h18, h7, h19, wrapS (show m ≤ 4611686018427387904 by omega)]
          exact ⟨⟨m + 1, hlt2, by rw [hcs, if_neg (by rw [hb2]; simp)]; rfl, rfl, R6, take_allP (p := fun r => (!beginsB r b && meetB r b) = false) hrm (by rw [hb2, hb3]; rfl) hy⟩, by simp only [natOf_int]; omega⟩
    · have hge2 := eq_of_ge_b hm hge2
      subst hge2
      rw [List.take_length] at h7 hy
      simp only [go_sem, h2, h6, h10, h11, h12, h17, h18, h7, h19]
      have hlost : lostB p b = ((((cntB (fun r => beginsB r b) p.routes : Nat) : Int) != 1)) := by unfold lostB; rw [any_no hy, Bool.false_or]
      refine acond_i (fun hb2 => ?_) (fun hb2 => ?_)
      · simp only [go_sem]
        refine convI ?_
        unfold keepsP
        rw [if_pos (List.any_eq_true.2 ⟨b, List.mem_of_getElem? hv, by rw [hlost]; exact hb2⟩)]
      · simp only [go_sem, h2, h10, h11, h12, wrapS (show k ≤ 4611686018427387904 by omega)]
        exact ⟨⟨k + 1, hlt, rfl, take_allP (p := fun b => lostB p b = false) hv (by rw [hlost]; exact hb2) hz⟩, by simp only [natOf_int]; omega⟩
  · have hge := eq_of_ge_b hk hge
    subst hge
    rw [List.take_length] at hz
    simp only [go_sem]
    refine convI ?_
    unfold keepsP
    rw [if_neg (by rw [any_no hz]; simp)]

theorem starts_no {α : Type} [DecidableEq α] {l f : List α} {k : Nat} {u v : α} (hu : l[k]? = some u) (hv : f[k]? = some v) (h : u ≠ v) : startsB l f = false := by
  unfold startsB
  rw [Bool.and_eq_false_iff]
  right
  refine decide_eq_false fun e => ?_
  have hk := (List.getElem?_eq_some_iff.1 hv).1
  have : (l.take f.length)[k]? = some u := by rw [List.getElem?_take, if_pos hk, hu]
  rw [e, hv] at this
  injection this with this
  exact h this.symm
theorem starts_yes {α : Type} [DecidableEq α] {l f : List α} (h1 : f.length ≤ l.length) (h2 : l.take f.length = f.take f.length) : startsB l f = true := by
  unfold startsB
  rw [Bool.and_eq_true]
  exact ⟨by simpa using h1, decide_eq_true (by rw [h2, List.take_length])⟩
theorem starts_short {α : Type} [DecidableEq α] {l f : List α} (h1 : l.length < f.length) : startsB l f = false := by
  unfold startsB
  rw [Bool.and_eq_false_iff]
  left; simp; omega
theorem notB_true {r b : Route} (h : beginsB r b = false → False) : notB r b = false := by
  cases hn : notB r b with
  | false => rfl
  | true => exact (h (by unfold beginsB; rw [if_pos hn])).elim
theorem begins_not {r b : Route} (h : notB r b = true) : beginsB r b = false := by unfold beginsB; rw [if_pos h]
theorem rbegins_c (r b : Route) (hr : RouteL r) (hb : RouteL b) : PC Tryz.prog 67 [.agg (encRoute r), .agg (encRoute b)] (boo (beginsB r b)) := by
  have hr1 := hr.visits
  have hr2 := hr.rests
  refine PC.body (c := Tryz.f67.body.getD .skip) (fun _ => false) mixed Tryz.func67 rfl (by kernel_rfl) ?_
  unfold Tryz.f67
  simp only [Option.getD_some]
  simp only [go_sem]
  refine acond_i (fun h => ?_) (fun h => ?_)
  · simp only [go_sem]
    refine convB (begins_not ?_).symm
    unfold notB
    simp only [Bool.or_eq_true, decide_eq_true_eq] at h
    rcases h with (h | h) | h
    · rw [show (r.type != b.type || r.start != b.start) = true by simpa using h]; rfl
    · rw [starts_short (l := r.visits) (f := b.visits) (by omega)]; simp
    · rw [starts_short (l := r.rests) (f := b.rests) (by omega)]; simp
  simp only [Bool.or_eq_false_iff, decide_eq_false_iff_not] at h
  obtain ⟨⟨ht, hlv⟩, hlr⟩ := h
  simp only [go_sem]
  refine ⟨fun ρ _ => ∃ k : Nat, k ≤ b.visits.length ∧ ρ 2 = .rp (encRoute r) 0 ∧ ρ 3 = .rp (encRoute b) 0 ∧ ρ 5 = int k ∧ r.visits.take k = b.visits.take k, fun ρ _ => b.visits.length - natOf (ρ 5), ⟨0, Nat.zero_le _, rfl, rfl, rfl, by simp⟩, ?_⟩
  rintro ρ H ⟨k, hk, h2, h3, h5, hz⟩
  simp only [go_sem, h2, h3, h5]
  refine acond_i (fun hlt => ?_) (fun hge => ?_)
  · have hlt := le_of_lt_b hlt
    obtain ⟨v, hv⟩ := getIn hlt
    obtain ⟨u, hu⟩ := getIn (show k < r.visits.length by omega)
    have b1 := inB hlt
    have b2 := inB (show k < r.visits.length by omega)
    simp only [go_sem, h2, h3, h5]
    refine adraw_q (by rfl) (by kernel_rfl) ?_
    simp only [go_sem, h2, h3, h5, getD_map hu, getD_map hv, b1, b2]
    rw [eqVisit]
    simp only [go_sem]
    refine acond_i (fun hb2 => ?_) (fun hb2 => ?_)
    · simp only [go_sem]
      refine convB (begins_not ?_).symm
      unfold notB
      rw [starts_no hu hv (by simpa using hb2)]; simp
    · have : u = v := by simpa using hb2
      subst this
      simp only [go_sem, h2, h3, h5, wrapS (show k ≤ 4611686018427387904 by omega)]
      exact ⟨⟨k + 1, hlt, rfl, take_eq hu hv hz⟩, by simp only [natOf_int]; omega⟩
  have hge := eq_of_ge_b hk hge
  subst hge
  have hsv := starts_yes (by omega) hz
  simp only [go_sem]
  refine ⟨fun ρ _ => ∃ k : Nat, k ≤ b.rests.length ∧ ρ 2 = .rp (encRoute r) 0 ∧ ρ 3 = .rp (encRoute b) 0 ∧ ρ 6 = int k ∧ r.rests.take k = b.rests.take k, fun ρ _ => b.rests.length - natOf (ρ 6), ⟨0, Nat.zero_le _, by simp only [go_sem, h2], by simp only [go_sem, h3], by simp only [go_sem]; rfl, by simp⟩, ?_⟩
  clear h2 h3 h5
  rintro ρ H ⟨k, hk, h2, h3, h6, hz⟩
  simp only [go_sem, h2, h3, h6]
  refine acond_i (fun hlt => ?_) (fun hge => ?_)
  · have hlt := le_of_lt_b hlt
    obtain ⟨v, hv⟩ := getIn hlt
    obtain ⟨u, hu⟩ := getIn (show k < r.rests.length by omega)
    have b1 := inB hlt
    have b2 := inB (show k < r.rests.length by omega)
    simp only [go_sem, h2, h3, h6]
    refine adraw_q (by rfl) (by kernel_rfl) ?_
    simp only [go_sem, h2, h3, h6, getD_map hu, getD_map hv, b1, b2]
    refine acond_i (fun hb2 => ?_) (fun hb2 => ?_)
    · simp only [go_sem]
      refine convB (begins_not ?_).symm
      unfold notB
      rw [starts_no hu hv (by simpa using hb2)]; simp
    · have : u = v := by simpa using hb2
      subst this
      simp only [go_sem, h2, h3, h6, wrapS (show k ≤ 4611686018427387904 by omega)]
      exact ⟨⟨k + 1, hlt, rfl, take_eq hu hv hz⟩, by simp only [natOf_int]; omega⟩
  have hge := eq_of_ge_b hk hge
  subst hge
  have hsr := starts_yes (by omega) hz
  simp only [go_sem, h2, h3]
  refine convB ?_
  have hn : notB r b = false := by
    unfold notB
    rw [hsv, hsr, show (r.type != b.type || r.start != b.start) = false by rw [ht.1, ht.2]; rfl]; rfl
  unfold beginsB
  rw [if_neg (by rw [hn]; simp)]
  congr 1
  rw [Bool.eq_iff_iff]
  simp only [decide_eq_true_eq, Bool.not_eq_true', decide_eq_false_iff_not]
  omega
theorem meet_hit {a b : Route} {i k : Nat} {v w : Visit} (hi : a.visits[i]? = some v) (hk : b.visits[k]? = some w) (h : (v.order == w.order) = true) : meetB a b = true :=
  List.any_eq_true.2 ⟨v, List.mem_of_getElem? hi, List.any_eq_true.2 ⟨w, List.mem_of_getElem? hk, h⟩⟩
theorem rvisits_c (a b : Route) (ha : a.visits.length ≤ 1048576) (hb : b.visits.length ≤ 1048576) : PC Tryz.prog 68 [.agg (encRoute a), .agg (encRoute b)] (boo (meetB a b)) := by
  refine PC.body (c := Tryz.f68.body.getD .skip) (fun _ => false) mixed Tryz.func68 rfl (by kernel_rfl) ?_
  unfold Tryz.f68
  simp only [Option.getD_some]
  simp only [go_sem]
  refine ⟨fun ρ _ => ∃ k : Nat, k ≤ a.visits.length ∧ ρ 2 = .rp (encRoute a) 0 ∧ ρ 3 = .rp (encRoute b) 0 ∧ ρ 5 = int k ∧ ∀ v ∈ a.visits.take k, (b.visits.any fun w => v.order == w.order) = false, fun ρ _ => a.visits.length - natOf (ρ 5), ⟨0, Nat.zero_le _, rfl, rfl, rfl, by simp⟩, ?_⟩
  rintro ρ H ⟨k, hk, h2, h3, h5, hz⟩
  simp only [go_sem, h2, h3, h5]
  refine acond_i (fun hlt => ?_) (fun hge => ?_)
  · have hlt := le_of_lt_b hlt
    obtain ⟨v, hv⟩ := getIn hlt
    have b1 := inB hlt
    simp only [go_sem, h2, h3, h5]
    refine ⟨fun ρ _ => ∃ m : Nat, m ≤ b.visits.length ∧ ρ 2 = .rp (encRoute a) 0 ∧ ρ 3 = .rp (encRoute b) 0 ∧ ρ 5 = int k ∧ ρ 6 = int m ∧ ∀ w ∈ b.visits.take m, (v.order == w.order) = false, fun ρ _ => b.visits.length - natOf (ρ 6), ⟨0, Nat.zero_le _, by simp only [go_sem, h2], by simp only [go_sem, h3], by simp only [go_sem, h5], by simp only [go_sem]; rfl, by simp⟩, ?_⟩
    clear h2 h3 h5
    rintro ρ H ⟨m, hm, h2, h3, h5, h6, hy⟩
    simp only [go_sem, h2, h3, h5, h6]
    refine acond_i (fun hlt2 => ?_) (fun hge2 => ?_)
    · have hlt2 := le_of_lt_b hlt2
      obtain ⟨w, hw⟩ := getIn hlt2
      have b2 := inB hlt2
      simp only [go_sem, h2, h3, h5, h6]
      refine adraw_q (by rfl) (by kernel_rfl) ?_
      simp only [go_sem, h2, h3, h5, h6, getD_map hv, getD_map hw, b1, b2]
      refine acond_i (fun hb2 => ?_) (fun hb2 => ?_)
      · simp only [go_sem]
        exact convB (meet_hit hv hw hb2).symm
      · simp only [go_sem, h2, h3, h5, h6, wrapS (show m ≤ 4611686018427387904 by omega)]
        exact ⟨⟨m + 1, hlt2, rfl, take_allP (p := fun w : Visit => (v.order == w.order) = false) hw hb2 hy⟩, by simp only [natOf_int]; omega⟩
    · have hge2 := eq_of_ge_b hm hge2
      subst hge2
      rw [List.take_length] at hy
      simp only [go_sem, h2, h3, h5, wrapS (show k ≤ 4611686018427387904 by omega)]
      exact ⟨⟨k + 1, hlt, rfl, take_allP (p := fun v : Visit => (b.visits.any fun w => v.order == w.order) = false) hv (any_no hy) hz⟩, by simp only [natOf_int]; omega⟩
  · have hge := eq_of_ge_b hk hge
    subst hge
    rw [List.take_length] at hz
    simp only [go_sem]
    exact convB (any_no hz).symm
theorem rkeeps_c (p : Plan) (l : List Route) (hp : p.routes.length ≤ 1048576) (hl : l.length ≤ 1048576) (hr : ∀ r ∈ p.routes, RouteL r) (hb : ∀ r ∈ l, RouteL r) : PC Tryz.prog 41 [.agg (encPlan p), .sl (l.map encRoute)] (int (keepsP p l)) := by
  refine PC.body (c := Tryz.f41.body.getD .skip) (fun _ => false) mixed Tryz.func41 rfl (by kernel_rfl) ?_
  unfold Tryz.f41
  simp only [Option.getD_some]
  simp only [go_sem]
  refine ⟨fun ρ _ => ∃ k : Nat, k ≤ l.length ∧ ρ 1 = .sl (l.map encRoute) ∧ ρ 2 = .rp (encPlan p) 0 ∧ ρ 5 = int k ∧ ∀ b ∈ l.take k, lostB p b = false, fun ρ _ => l.length - natOf (ρ 5), ⟨0, Nat.zero_le _, rfl, rfl, rfl, by simp⟩, ?_⟩
  rintro ρ H ⟨k, hk, h1, h2, h5, hz⟩
  simp only [go_sem, h1, h2, h5]
  refine acond_i (fun hlt => ?_) (fun hge => ?_)
  · have hlt := le_of_lt_b hlt
    obtain ⟨b, hv⟩ := getIn hlt
    have b1 := inB hlt
    have hbL := hb b (List.mem_of_getElem? hv)
    simp only [go_sem, h1, h2, h5]
    refine ⟨fun ρ _ => ∃ m : Nat, m ≤ p.routes.length ∧ ρ 1 = .sl (l.map encRoute) ∧ ρ 2 = .rp (encPlan p) 0 ∧ ρ 5 = int k ∧ ρ 6 = int (cntB (fun r => beginsB r b) (p.routes.take m) : Nat) ∧ ρ 7 = boo ((p.routes.take m).any fun r => !beginsB r b && meetB r b) ∧ ρ 8 = int m, fun ρ _ => p.routes.length - natOf (ρ 8),
      ⟨0, Nat.zero_le _, by simp only [go_sem, h1], by simp only [go_sem, h2], by simp only [go_sem, h5], by simp only [go_sem]; rfl, by simp only [go_sem]; rfl, by simp only [go_sem]; rfl⟩, ?_⟩
    clear h1 h2 h5
    rintro ρ H ⟨m, hm, h1, h2, h5, h6, h7, h8⟩
    simp only [go_sem, h1, h2, h5, h6, h7, h8]
    refine acond_i (fun hlt2 => ?_) (fun hge2 => ?_)
    · have hlt2 := le_of_lt_b hlt2
      obtain ⟨r, hrm⟩ := getIn hlt2
      have b2 := inB hlt2
      have hrL := hr r (List.mem_of_getElem? hrm)
      have hcle : cntB (fun r => beginsB r b) (p.routes.take m) ≤ p.routes.length := cnt_le
      have hcs : cntB (fun r => beginsB r b) (p.routes.take (m + 1)) = cntB (fun r => beginsB r b) (p.routes.take m) + if beginsB r b = true then 1 else 0 := cnt_take (p := fun r => beginsB r b) hrm
      have has : ((p.routes.take (m + 1)).any fun r => !beginsB r b && meetB r b) = (((p.routes.take m).any fun r => !beginsB r b && meetB r b) || (!beginsB r b && meetB r b)) := by rw [take_succ hrm, List.any_append]; simp
      simp only [go_sem, h1, h2, h5, h6, h7, h8]
      refine adraw_q (by rfl) (by kernel_rfl) ?_
      simp only [go_sem, h1, h2, h5, h6, h7, h8, getD_map hrm, getD_map hv, b1, b2]
      refine ⟨_, (rbegins_c r b hrL hbL).q rfl, ?_⟩
      simp only [go_sem, h1, h2, h5, h6, h7, h8]
      refine acond_i (fun hb2 => ?_) (fun hb2 => ?_)
      · simp only [go_sem, h1, h2, h5, h6, h7, h8, wrapS (show m ≤ 4611686018427387904 by omega), wrapS (show cntB (fun r => beginsB r b) (p.routes.take m) ≤ 4611686018427387904 by omega)]
        exact ⟨⟨m + 1, hlt2, by rw [hcs, if_pos hb2], by rw [has, hb2]; simp, rfl⟩, by simp only [natOf_int]; omega⟩
      · simp only [go_sem, h1, h2, h5, h6, h7, h8]
        refine adraw_q (by rfl) (by kernel_rfl) ?_
        simp only [go_sem, h1, h2, h5, h6, h7, h8, getD_map hrm, getD_map hv, b1, b2]
        refine ⟨_, fun _ => (rvisits_c r b hrL.visits hbL.visits).q rfl, ?_⟩
        simp only [go_sem, h1, h2, h5, h6, h7, h8, wrapS (show m ≤ 4611686018427387904 by omega)]
        exact ⟨⟨m + 1, hlt2, by rw [hcs, if_neg (by rw [hb2]; simp)]; rfl, by rw [has, hb2]; rfl, rfl⟩, by simp only [natOf_int]; omega⟩
    · have hge2 := eq_of_ge_b hm hge2
      subst hge2
      rw [List.take_length] at h6 h7
      simp only [go_sem, h1, h2, h5, h6, h7, h8]
      refine acond_i (fun hb2 => ?_) (fun hb2 => ?_)
      · simp only [go_sem]
        refine convI ?_
        unfold keepsP
        rw [if_pos (List.any_eq_true.2 ⟨b, List.mem_of_getElem? hv, by unfold lostB; rw [Bool.or_comm]; exact hb2⟩)]
      · simp only [go_sem, h1, h2, h5, wrapS (show k ≤ 4611686018427387904 by omega)]
        exact ⟨⟨k + 1, hlt, rfl, take_allP (p := fun b => lostB p b = false) hv (by unfold lostB; rw [Bool.or_comm]; exact hb2) hz⟩, by simp only [natOf_int]; omega⟩
  · have hge := eq_of_ge_b hk hge
    subst hge
    rw [List.take_length] at hz
    simp only [go_sem]
    refine convI ?_
    unfold keepsP
    rw [if_neg (by rw [any_no hz]; simp)]
end Go.Proofs.YtbefdpmjpioijaaGreatDoor.Sq
