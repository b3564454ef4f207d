/- the plain law of MovedFree: only lorryref20.Route and Unserved look at Now and Last; the plain law of MovedFree, second half: the scores; the instances that With and Last return are accepted; MovedFree -/
import Derived.Test.YtjlbikpgjejkjaaSqR
import Derived.Test.YtjlbikpgjejkjaaMvG
import Derived.Test.YtjlbikpgjejkjaaMvD
set_option linter.unusedSimpArgs false
set_option linter.unusedVariables false
namespace Go.Proofs.Ytjlbikpgjejkjaa.Sq
open Go.Aw Go.Aw.D Go.Proofs Ty
open Mv (nowO lastO chL chI chR chL_get chL_len kinds_ok cntS times_cnt)
open Mv (convI convB convA NC.pc take_allP nowO lastO chR With_c Last_c awake_c inB_of chL_len chL_get)
set_option maxRecDepth 100000

def core (o : Order) : Order := { o with now := 0, last := 0 }
def coreI (x : Instance) : Instance := { x with orders := x.orders.map core }
theorem core_len (x : Instance) : (coreI x).orders.length = x.orders.length := by simp [coreI]
theorem core_get (x : Instance) (k : Nat) : (coreI x).orders[k]? = x.orders[k]?.map core := by simp [coreI]
theorem offAt_core (x : Instance) (k : Int) : offAt (coreI x) k = offAt x k := by unfold offAt; rw [core_get]; cases x.orders[k.toNat]? <;> rfl
theorem visAt_core (x : Instance) (k : Int) : visAt (coreI x) k = visAt x k := by unfold visAt; rw [core_get]; cases x.orders[k.toNat]? <;> rfl
theorem paired_core (x : Instance) (l : List Visit) : paired16 (coreI x) l = paired16 x l := by unfold paired16; simp only [visAt_core]
theorem check16_core (x : Instance) (l : List Visit) : check16 (coreI x) l = check16 x l := by
  unfold check16; simp only [core_len, offAt_core, paired_core]; rfl
theorem skill_core (x : Instance) (t : VType) (v : Visit) : skillAt (coreI x) t v = skillAt x t v := by unfold skillAt; rw [core_get]; cases x.orders[v.order.toNat]? <;> rfl
theorem board_core (x : Instance) (l : List Visit) (n : Int) (k : Nat) : boardTo (coreI x).orders l n k = boardTo x.orders l n k := by
  unfold boardTo
  congr 1
  funext i
  rw [core_get]; cases x.orders[i]? <;> rfl
theorem after_core (x : Instance) (l : List Visit) (n : Int) : after17 (coreI x) l n = after17 x l n := by
  unfold after17; rw [core_len, board_core]; rfl
theorem loads_core (x : Instance) (l : List Visit) : loads17 (coreI x) l = loads17 x l := by
  unfold loads17 aftE aftL; simp only [check16_core, after_core]
theorem fits_core (x : Instance) (r : Route) : fits17 (coreI x) r = fits17 x r := by
  unfold fits17; rw [loads_core]; rfl
theorem stop_core (x : Instance) (v : Visit) : stop18 (coreI x) v = stop18 x v := by
  unfold stop18; rw [core_len, core_get]; cases x.orders[v.order.toNat]? <;> rfl
theorem possible_core (x : Instance) (r : Route) : possible18 (coreI x) r = possible18 x r := by
  unfold possible18; simp only [stop_core]; rfl
theorem arrived_core (x : Instance) (t : VType) (a : RunA) (v : Visit) : arrived (coreI x) t a v = arrived x t a v := by
  unfold arrived; rw [stop_core]; rfl
theorem runStep_core (x : Instance) (t : VType) : runStep (coreI x) t = runStep x t := by
  funext a p
  unfold runStep runNext; simp only [arrived_core, stop_core]
theorem run_core (x : Instance) (r : Route) (c : List Bool) : run18 (coreI x) r c = run18 x r c := by
  unfold run18 runO; rw [possible_core]; simp only [runStep_core]; rfl
theorem bestStep_core (x : Instance) (r : Route) : bestStep (coreI x) r = bestStep x r := by
  funext c b
  unfold bestStep; simp only [run_core]
theorem bestGo_core (x : Instance) (r : Route) (m : Nat) : ∀ f c b, bestGo (coreI x) r m f c b = bestGo x r m f c b
  | 0, _, _ => rfl
  | f + 1, c, b => by unfold bestGo; rw [bestStep_core, bestGo_core x r m f]
theorem best_core (x : Instance) (r : Route) : best18 (coreI x) r = best18 x r := by
  unfold best18; simp only [possible_core, bestGo_core, run_core]
theorem evalE_core (x : Instance) (r : Route) : (eval21 (coreI x) r).2.2 = (eval21 x r).2.2 := by
  unfold eval21
  show (if badNo r.type x.types.length = true then (zeroSheet, zeroScore, 2) else match x.types[r.type.toNat]? with | some t => evalT (coreI x) r t | none => (zeroSheet, zeroScore, 2)).2.2 = _
  by_cases h : badNo r.type x.types.length = true
  · rw [if_pos h, if_pos h]
  rw [if_neg h, if_neg h]
  cases x.types[r.type.toNat]? with
  | none => rfl
  | some t =>
    show (evalT (coreI x) r t).2.2 = (evalT x r t).2.2
    unfold evalT
    simp only [check16_core, skill_core, fits_core, best_core]
    split
    · rfl
    · split
      · rfl
      · split
        · rfl
        · split <;> rfl
theorem miss_core (x : Instance) (p : Plan) (i : Nat) : miss23 (coreI x) p i = miss23 x p i := by
  unfold miss23; rw [core_get]; cases x.orders[i]? <;> rfl
theorem check23_core (x : Instance) (p : Plan) : check23 (coreI x) p = check23 x p := by
  unfold check23
  have h1 : (fun r => (eval21 (coreI x) r).2.2) = fun r => (eval21 x r).2.2 := funext fun r => evalE_core x r
  have h2 : miss23 (coreI x) p = miss23 x p := funext fun i => miss_core x p i
  simp only [h1, h2, core_len, offAt_core]; rfl
theorem core_ch {f : Order → Int → Order} (hf : ∀ o n, core (f o n) = core o) : ∀ (l : List Order) (ks : List Int), ks.length = l.length → (chL f l ks).map core = l.map core
  | [], ks, _ => by simp [chL]
  | o :: r, [], h => by simp at h
  | o :: r, k :: ks, h => by
    have := core_ch hf r ks (by simpa using h)
    unfold chL at this ⊢
    simp only [List.zipWith_cons_cons, List.map_cons, hf, this]
theorem coreI_ch {f : Order → Int → Order} (hf : ∀ o n, core (f o n) = core o) {x : Instance} {ks : List Int} (h : ks.length = x.orders.length) : coreI (chI f x ks) = coreI x := by
  unfold coreI chI
  simp only [core_ch hf x.orders ks h]

/-! ### what a plan that is right tells -/
structure Good (x : Instance) (p : Plan) : Prop where
  eval : ∀ r ∈ p.routes, (eval21 x r).2.2 = 0
  uns : ∀ u ∈ p.unserved, badNo u x.orders.length = false
  once : ∀ i, i < x.orders.length → onA p i + onU p i ≤ 1
  off : ∀ u ∈ p.unserved, offAt x u = false
  miss : ∀ i, i < x.orders.length → miss23 x p i = false
theorem firstE_zero : ∀ {l : List Int}, firstE l = 0 → ∀ e ∈ l, e = 0
  | [], _, _, h => by simp at h
  | a :: r, h, e, he => by
    unfold firstE at h
    by_cases ha : (a != 0) = true
    · rw [if_pos ha] at h; simp [h] at ha
    · rw [if_neg ha] at h
      rcases List.mem_cons.1 he with rfl | he
      · simpa using ha
      · exact firstE_zero h e he
theorem good_of {x : Instance} {p : Plan} (h : check23 x p = 0) : Good x p := by
  unfold check23 at h
  have h1 : firstE (p.routes.map fun r => (eval21 x r).2.2) = 0 := by
    by_cases h1 : (firstE (p.routes.map fun r => (eval21 x r).2.2) != 0) = true
    · rw [if_pos h1] at h; exact h
    · simpa using h1
  rw [if_neg (by rw [h1]; simp)] at h
  by_cases h2 : (p.unserved.any fun u => badNo u x.orders.length) = true
  · rw [if_pos h2] at h; cases h
  rw [if_neg h2] at h
  by_cases h3 : ((List.range x.orders.length).any (twice23 p)) = true
  · rw [if_pos h3] at h; cases h
  rw [if_neg h3] at h
  by_cases h4 : ((List.range x.types.length).any (over23 x p)) = true
  · rw [if_pos h4] at h; cases h
  rw [if_neg h4] at h
  by_cases h5 : (p.unserved.any fun u => offAt x u) = true
  · rw [if_pos h5] at h; cases h
  rw [if_neg h5] at h
  by_cases h6 : ((List.range x.orders.length).any (miss23 x p)) = true
  · rw [if_pos h6] at h; cases h
  refine ⟨fun r hr => firstE_zero h1 _ (List.mem_map.2 ⟨r, hr, rfl⟩), fun u hu => ?_, fun i hi => ?_, fun u hu => ?_, fun i hi => ?_⟩
  · simpa using List.any_eq_false.1 (Bool.eq_false_iff.2 h2) u hu
  · have := List.any_eq_false.1 (Bool.eq_false_iff.2 h3) i (List.mem_range.2 hi)
    simp only [twice23, decide_eq_true_eq] at this
    omega
  · simpa using List.any_eq_false.1 (Bool.eq_false_iff.2 h5) u hu
  · simpa using List.any_eq_false.1 (Bool.eq_false_iff.2 h6) i (List.mem_range.2 hi)
theorem eval_in {x : Instance} {r : Route} (h : (eval21 x r).2.2 = 0) : (0 ≤ r.type ∧ r.type < (x.types.length : Int)) ∧ check16 x r.visits = 0 ∧ (eval21 x r).2.1 = route20 x r (best18 x r).1 := by
  unfold eval21 at h ⊢
  by_cases h1 : badNo r.type x.types.length = true
  · rw [if_pos h1] at h; cases h
  have hin : 0 ≤ r.type ∧ r.type < (x.types.length : Int) := by
    have : badNo r.type x.types.length = false := by simpa using h1
    simp only [badNo, Bool.or_eq_false_iff, decide_eq_false_iff_not] at this; omega
  refine ⟨hin, ?_⟩
  rw [if_neg h1] at h ⊢
  obtain ⟨t, ht⟩ := getIn (show r.type.toNat < x.types.length by omega)
  rw [ht] at h ⊢
  show check16 x r.visits = 0 ∧ (evalT x r t).2.1 = _
  have h : (evalT x r t).2.2 = 0 := h
  unfold evalT at h ⊢
  by_cases h2 : (check16 x r.visits != 0) = true
  · rw [if_pos h2] at h; exact absurd h (by simpa using h2)
  rw [if_neg h2] at h ⊢
  by_cases h3 : (r.visits.any fun v => !skillAt x t v) = true
  · rw [if_pos h3] at h; cases h
  rw [if_neg h3] at h ⊢
  by_cases h4 : (fits17 x r != 0) = true
  · rw [if_pos h4] at h; exact absurd h (by simpa using h4)
  rw [if_neg h4] at h ⊢
  by_cases h5 : ((best18 x r).2 != 0) = true
  · rw [if_pos h5] at h; exact absurd h (by simpa using h5)
  rw [if_neg h5]
  exact ⟨by simpa using h2, rfl⟩
theorem onA_cnt (p : Plan) (i : Nat) : onA p i = cntS p.routes i := rfl
theorem good_wrong {x : Instance} {p : Plan} (h : Good x p) : wrongR x p = 0 := by
  have hb : ∀ r ∈ p.routes, badRoute x.types.length x.orders.length r = false := fun r hr => by
    obtain ⟨h1, h2, _⟩ := eval_in (h.eval r hr)
    unfold badRoute
    rw [Bool.or_eq_false_iff]
    refine ⟨by simp only [badNo, Bool.or_eq_false_iff, decide_eq_false_iff_not]; omega, List.any_eq_false.2 fun v hv => ?_⟩
    have := check_in h2 v hv
    simp only [badNo, Bool.or_eq_true, decide_eq_true_eq]; omega
  unfold wrongR
  rw [if_neg (by rw [Mv.bad_none hb]; simp), if_neg]
  rw [Bool.not_eq_true, List.any_eq_false]
  intro i hi
  have hi := List.mem_range.1 hi
  have ht : timesR p.routes i = cntS p.routes i := times_cnt (fun r hr => (eval_in (h.eval r hr)).1.1) i
  have := h.once i hi
  rw [onA_cnt] at this
  simp only [decide_eq_true_eq, ht]
  omega
theorem kind_of {l : List Route} {r : Route} {k : Int} (hr : r ∈ l) (hs : servesR r k = true) (hc : (l.countP fun r => servesR r k) ≤ 1) : kindR l k = r.type := by
  induction l with
  | nil => simp at hr
  | cons a l ih =>
    rw [List.countP_cons] at hc
    by_cases ha : servesR a k = true
    · rw [if_pos ha] at hc
      have h0 : (l.countP fun r => servesR r k) = 0 := by omega
      have he : r = a := by
        rcases List.mem_cons.1 hr with rfl | hr
        · rfl
        · have := List.countP_eq_zero.1 h0 r hr; exact absurd hs this
      subst he
      simp [kindR, List.find?_cons, hs]
    · have hra : r ∈ l := by
        rcases List.mem_cons.1 hr with rfl | hr
        · exact absurd hs ha
        · exact hr
      rw [if_neg ha] at hc
      have := ih hra hc
      have ha : servesR a k = false := by simpa using ha
      simpa [kindR, List.find?_cons, ha] using this
theorem kind_none {l : List Route} {k : Int} (hc : (l.countP fun r => servesR r k) = 0) : kindR l k = -1 := by
  have : l.find? (servesR · k) = none := List.find?_eq_none.2 fun r hr => List.countP_eq_zero.1 hc r hr
  unfold kindR; rw [this]
theorem kind_range {x : Instance} {p : Plan} (h : Good x p) (k : Int) : -1 ≤ kindR p.routes k ∧ kindR p.routes k < (x.types.length : Int) := by
  unfold kindR
  cases hf : p.routes.find? (servesR · k) with
  | none => exact ⟨Int.le_refl _, by show (-1 : Int) < _; omega⟩
  | some r =>
    have := (eval_in (h.eval r (List.mem_of_find?_eq_some hf))).1
    exact ⟨by show (-1 : Int) ≤ r.type; omega, this.2⟩

theorem foldlM_inv {α β : Type} {f : β → α → Except Int β} {P : β → Prop} : ∀ {l : List α} {s : β}, (∀ a x, x ∈ l → P a → ∃ b, f a x = .ok b ∧ P b) → P s → ∃ b, l.foldlM f s = .ok b ∧ P b
  | [], s, _, hs => ⟨s, rfl, hs⟩
  | x :: r, s, h, hs => by
    obtain ⟨b, hb, hpb⟩ := h s x (by simp) hs
    obtain ⟨c, hc, hpc⟩ := foldlM_inv (l := r) (fun a y hy => h a y (by simp [hy])) hpb
    refine ⟨c, ?_, hpc⟩
    rw [List.foldlM_cons, hb]
    exact hc
theorem foldl_inv {α β : Type} {f : β → α → β} {P : β → Prop} : ∀ {l : List α} {s : β}, (∀ a x, x ∈ l → P a → P (f a x)) → P s → P (l.foldl f s)
  | [], _, _, hs => hs
  | x :: r, s, h, hs => foldl_inv (l := r) (fun a y hy => h a y (by simp [hy])) (h s x (by simp) hs)
def Free (L : Bool) (a : Score) : Prop := a.moved = 0 ∧ (L = true → a.other = 0)
theorem free_add {L : Bool} {a b : Score} (ha : Free L a) (hb : Free L b) : Free L (addScore a b) := by
  have w0 : W (0 + 0) = 0 := by decide
  refine ⟨?_, fun hL => ?_⟩
  · show W (a.moved + b.moved) = 0
    rw [ha.1, hb.1]; exact w0
  · show W (a.other + b.other) = 0
    rw [ha.2 hL, hb.2 hL]; exact w0
theorem serves_at {r : Route} {i : Nat} (h : i < r.visits.length) : servesR r (ordAt r.visits i) = true ∧ ∃ v ∈ r.visits, v.order = ordAt r.visits i := by
  obtain ⟨v, hv⟩ := getIn h
  have hm := List.mem_of_getElem? hv
  rw [ordAt_get hv]
  exact ⟨List.any_eq_true.2 ⟨v, hm, by simp⟩, v, hm, rfl⟩
theorem route_free {L : Bool} {y : Instance} {r : Route} {s : Sheet} (hs : ∀ (k : Int) (o : Order), servesR r k = true → y.orders[k.toNat]? = some o → movedB o r.type = false ∧ (L = true → otherB o r.type = false)) : Free L (route20 y r s) := by
  have hz : Free L zeroScore := ⟨rfl, fun _ => rfl⟩
  unfold route20
  split
  · exact hz
  · split
    · unfold routeT
      refine foldl_inv (P := Free L) (fun a i hi ha => ?_) ⟨rfl, fun _ => rfl⟩
      have hi := List.mem_range.1 hi
      unfold routeStep
      split
      · exact ha
      · split
        · rename_i o ho
          obtain ⟨h1, h2⟩ := hs _ o (serves_at hi).1 ho
          unfold moveS
          rw [if_neg (by rw [h1]; simp)]
          unfold otherS
          split
          · rename_i hb
            exact ⟨ha.1, fun hL => by rw [h2 hL] at hb; cases hb⟩
          · exact ha
        · exact ha
    · exact hz
theorem score_free {L : Bool} {y : Instance} {p : Plan} (hc : check23 y p = 0)
    (hs : ∀ r ∈ p.routes, ∀ (k : Int) (o : Order), servesR r k = true → y.orders[k.toNat]? = some o → movedB o r.type = false ∧ (L = true → otherB o r.type = false))
    (hu : ∀ u ∈ p.unserved, ∀ o, y.orders[u.toNat]? = some o → o.now = -1) : ∃ b, score23 y p = (b, 0) ∧ Free L b := by
  have hG := good_of hc
  unfold score23
  rw [if_neg (by rw [hc]; simp)]
  obtain ⟨a, ha, hfa⟩ := foldlM_inv (f := scR y) (P := Free L) (l := p.routes) (s := zeroScore) (fun a r hr hfa => by
    have h0 := hG.eval r hr
    refine ⟨addScore a (eval21 y r).2.1, by unfold scR; rw [if_neg (by rw [h0]; simp)], free_add hfa ?_⟩
    rw [(eval_in h0).2.2]
    exact route_free (hs r hr)) ⟨rfl, fun _ => rfl⟩
  obtain ⟨b, hb, hfb⟩ := foldlM_inv (f := scU y) (P := Free L) (l := p.unserved) (s := a) (fun a u hm hfa => by
    have h1 := hG.uns u hm
    have hio : 0 ≤ u ∧ u < (y.orders.length : Int) := by
      simp only [badNo, Bool.or_eq_false_iff, decide_eq_false_iff_not] at h1; omega
    obtain ⟨o, ho⟩ := getIn (show u.toNat < y.orders.length by omega)
    have hoff : o.off = false := by
      have := hG.off u hm
      unfold offAt at this; rw [ho] at this; exact this
    have hcnt : 0 < onU p (u.toNat : Nat) := List.countP_pos_iff.2 ⟨u, hm, by simp; omega⟩
    have hpen : (o.penalty == -1) = false := by
      have := hG.miss u.toNat (by omega)
      unfold miss23 at this
      rw [ho] at this
      have := (Bool.or_eq_false_iff.1 this).2
      rw [show decide (((onU p (u.toNat : Nat) : Nat) : Int) > 0) = true from decide_eq_true (by omega), Bool.true_and] at this
      exact this
    have hnow := hu u hm o ho
    have e : unserved20 y u = (⟨o.penalty, 0, 0, 0⟩, 0) := by
      unfold unserved20
      rw [if_neg (by rw [h1]; simp), ho]
      show unservedO o = _
      unfold unservedO
      rw [if_neg (by rw [hoff]; simp), if_neg (by rw [hpen]; simp), if_neg (by rw [hnow]; simp)]
    refine ⟨addScore a ⟨o.penalty, 0, 0, 0⟩, by unfold scU; rw [e]; rfl, free_add hfa ⟨rfl, fun _ => rfl⟩⟩) hfa
  refine ⟨b, ?_, hfb⟩
  unfold scoreP
  rw [ha]
  show scoreU y p a = _
  unfold scoreU
  rw [hb]

theorem kinds_at {x : Instance} {p : Plan} (h : Good x p) {k : Nat} (hk : k < x.orders.length) : (kindsR x p)[k]? = some (kindR p.routes k) := by
  rw [kinds_ok (good_wrong h)]; simp [hk]
theorem kinds_len {x : Instance} {p : Plan} (h : Good x p) : (kindsR x p).length = x.orders.length := by
  rw [kinds_ok (good_wrong h)]; simp
theorem ch_at {f : Order → Int → Order} {x : Instance} {p : Plan} (h : Good x p) {k : Nat} {o' : Order} (hk : (chI f x (kindsR x p)).orders[k]? = some o') : ∃ o, x.orders[k]? = some o ∧ o' = f o (kindR p.routes k) ∧ k < x.orders.length := by
  have hl : (chI f x (kindsR x p)).orders.length = x.orders.length := chL_len (kinds_len h)
  have hlt := (List.getElem?_eq_some_iff.1 hk).1
  rw [hl] at hlt
  obtain ⟨o, ho⟩ := getIn hlt
  have := chL_get (f := f) ho (kinds_at h hlt)
  refine ⟨o, ho, ?_, hlt⟩
  have hk : (chL f x.orders (kindsR x p))[k]? = some o' := hk
  rw [this] at hk
  injection hk with hk
  exact hk.symm
theorem ch_R {f : Order → Int → Order} {x : Instance} {p : Plan} (h : Good x p) : chR f x p = chI f x (kindsR x p) := by
  unfold Mv.chR; rw [if_neg (by rw [good_wrong h]; simp)]
theorem served_kind {x : Instance} {p : Plan} (h : Good x p) {r : Route} (hr : r ∈ p.routes) {k : Int} (hs : servesR r k = true) : 0 ≤ k ∧ kindR p.routes (k.toNat : Nat) = r.type ∧ 0 ≤ r.type := by
  obtain ⟨h1, h2, _⟩ := eval_in (h.eval r hr)
  obtain ⟨v, hv, hvk⟩ := List.any_eq_true.1 hs
  have hvk : v.order = k := by simpa using hvk
  have hin := check_in h2 v hv
  rw [hvk] at hin
  have e : ((k.toNat : Nat) : Int) = k := by omega
  refine ⟨hin.1, ?_, h1.1⟩
  rw [e]
  refine kind_of hr hs ?_
  have := h.once k.toNat (by omega)
  rw [e] at this
  have h3 : onA p k ≤ 1 := by omega
  exact h3
theorem free_now {x : Instance} {p : Plan} (hc : check23 x p = 0) : ∃ b, score23 (chR nowO x p) p = (b, 0) ∧ Free false b := by
  have h := good_of hc
  rw [ch_R h]
  refine score_free ?_ ?_ ?_
  · rw [← check23_core, coreI_ch (f := nowO) (fun _ _ => rfl) (kinds_len h), check23_core]; exact hc
  · intro r hr k o' hs ho'
    obtain ⟨o, ho, rfl, _⟩ := ch_at h ho'
    obtain ⟨_, hk, _⟩ := served_kind h hr hs
    refine ⟨?_, fun hL => by cases hL⟩
    unfold movedB nowO
    rw [hk]; simp
  · intro u hm o' ho'
    obtain ⟨o, ho, rfl, hlt⟩ := ch_at h ho'
    have h1 := h.uns u hm
    have hu : ((u.toNat : Nat) : Int) = u := by
      simp only [badNo, Bool.or_eq_false_iff, decide_eq_false_iff_not] at h1; omega
    have hcnt : 0 < onU p (u.toNat : Nat) := List.countP_pos_iff.2 ⟨u, hm, by simp; omega⟩
    have := h.once u.toNat hlt
    rw [onA_cnt] at this
    have h0 : cntS p.routes (u.toNat : Nat) = 0 := by omega
    exact kind_none h0
theorem free_last {x : Instance} {p : Plan} (hc : check23 x p = 0) : ∃ b, score23 (chR lastO x p) p = (b, 0) ∧ Free true b := by
  have h := good_of hc
  rw [ch_R h]
  refine score_free ?_ ?_ ?_
  · rw [← check23_core, coreI_ch (f := lastO) (fun _ _ => rfl) (kinds_len h), check23_core]; exact hc
  · intro r hr k o' hs ho'
    obtain ⟨o, ho, rfl, _⟩ := ch_at h ho'
    obtain ⟨_, hk, hr0⟩ := served_kind h hr hs
    refine ⟨by simp [movedB, lastO], fun _ => ?_⟩
    unfold otherB lastO
    rw [hk]
    simp only [show decide (r.type ≥ 0) = true from decide_eq_true hr0, if_true]
    simp
  · intro u hm o' ho'
    obtain ⟨o, ho, rfl, hlt⟩ := ch_at h ho'
    rfl

/-! ### the changed instances are accepted -/
theorem opt_eq_nil {α : Type} {b : Bool} {f : α} : opt b f = [] ↔ b = false := by cases b <;> simp [opt]
theorem known_ch {f : Order → Int → Order} (hf : ∀ o n, (f o n).name = o.name) : ∀ (l : List Order) (ks : List Int) (k : Nat) (s : ByteArray), ks.length = l.length → knownO (chL f l ks) k s = knownO l k s
  | [], ks, k, s, _ => by simp [chL]
  | o :: r, [], k, s, h => by simp at h
  | o :: r, n :: ks, 0, s, h => by simp [knownO]
  | o :: r, n :: ks, k + 1, s, h => by
    have := known_ch hf r ks k s (by simpa using h)
    unfold knownO chL at this ⊢
    simp only [List.zipWith_cons_cons, List.take_succ_cons, List.any_cons, hf]
    rw [this]
theorem checkR_ch {f : Order → Int → Order} {x : Instance} {p : Plan} (h : Good x p) (hx : checkR x = [])
    (hf : ∀ o n, (f o n).name = o.name ∧ (f o n).load = o.load ∧ (f o n).pick = o.pick ∧ (f o n).drop = o.drop ∧ (f o n).skills = o.skills ∧ (f o n).penalty = o.penalty ∧ (f o n).split = o.split)
    (hb : ∀ o n, (-1 ≤ n ∧ n < (x.types.length : Int)) → (-1 ≤ o.last ∧ o.last < (x.types.length : Int)) → (-1 ≤ o.now ∧ o.now < (x.types.length : Int)) → (-1 ≤ (f o n).last ∧ (f o n).last < (x.types.length : Int)) ∧ (-1 ≤ (f o n).now ∧ (f o n).now < (x.types.length : Int))) :
    checkR (chR f x p) = [] := by
  rw [ch_R h]
  have hl : (chI f x (kindsR x p)).orders.length = x.orders.length := chL_len (kinds_len h)
  unfold checkR at hx ⊢
  simp only [List.append_eq_nil_iff, List.map_eq_nil_iff] at hx ⊢
  obtain ⟨⟨⟨h1, h2⟩, h3⟩, h4⟩ := hx
  refine ⟨⟨⟨h1, h2⟩, ?_⟩, ?_⟩
  · unfold ordersR at h3 ⊢
    simp only [List.append_eq_nil_iff, opt_eq_nil, List.flatMap_eq_nil_iff] at h3 ⊢
    refine ⟨by rw [hl]; exact h3.1, fun k hk => ?_⟩
    have hk := List.mem_range.1 hk
    rw [hl] at hk
    have h5 := h3.2 k (List.mem_range.2 hk)
    unfold orderFaults at h5 ⊢
    simp only [List.map_eq_nil_iff] at h5 ⊢
    obtain ⟨o, ho⟩ := getIn hk
    have ho' : (chI f x (kindsR x p)).orders[k]? = some (f o (kindR p.routes k)) := chL_get ho (kinds_at h hk)
    rw [orAt_get ho] at h5
    rw [orAt_get ho']
    have hkn := kind_range h (k : Int)
    generalize kindR p.routes k = n at hkn
    obtain ⟨f1, f2, f3, f4, f5, f6, f7⟩ := hf o n
    have hkk : knownO (chI f x (kindsR x p)).orders k o.name = knownO x.orders k o.name := known_ch (fun o n => (hf o n).1) _ _ k o.name (kinds_len h)
    unfold orderErrs at h5 ⊢
    simp only [List.append_eq_nil_iff, opt_eq_nil] at h5 ⊢
    rw [f1, f2, f3, f4, f5, f6, f7, hkk]
    obtain ⟨h6, h7⟩ := h5
    refine ⟨h6, ?_⟩
    simp only [Bool.or_eq_false_iff, decide_eq_false_iff_not] at h7 ⊢
    obtain ⟨⟨⟨⟨h8, h9⟩, h10⟩, h11⟩, h12⟩ := h7
    have := hb o n hkn ⟨by omega, by show o.last < _; have : ¬ o.last ≥ (x.types.length : Int) := h10; omega⟩ ⟨by omega, by have : ¬ o.now ≥ (x.types.length : Int) := h12; omega⟩
    obtain ⟨⟨b1, b2⟩, b3, b4⟩ := this
    refine ⟨⟨⟨⟨h8, by omega⟩, ?_⟩, by omega⟩, ?_⟩
    · show ¬ (f o n).last ≥ (x.types.length : Int); omega
    · show ¬ (f o n).now ≥ (x.types.length : Int); omega
  · unfold rulesR at h4 ⊢
    rw [hl]; exact h4
theorem check_now {x : Instance} {p : Plan} (hc : check23 x p = 0) (hx : checkR x = []) : checkR (chR nowO x p) = [] :=
  checkR_ch (good_of hc) hx (fun _ _ => ⟨rfl, rfl, rfl, rfl, rfl, rfl, rfl⟩) fun o n hn hl ho => ⟨hl, hn⟩
theorem check_last {x : Instance} {p : Plan} (hc : check23 x p = 0) (hx : checkR x = []) : checkR (chR lastO x p) = [] :=
  checkR_ch (good_of hc) hx (fun _ _ => ⟨rfl, rfl, rfl, rfl, rfl, rfl, rfl⟩) fun o n hn hl ho => by
    refine ⟨?_, by show (-1 : Int) ≤ -1 ∧ (-1 : Int) < _; omega⟩
    show -1 ≤ (if decide (n ≥ 0) = true then n else o.last) ∧ (if decide (n ≥ 0) = true then n else o.last) < _
    split
    · exact hn
    · exact hl

theorem insB_of {x : Instance} (h : bInstance 1048576 x) : InsB x := by
  obtain ⟨⟨hpl, har⟩, hty, hor, hap, hbe⟩ := h
  exact ⟨⟨har.1, fun a ha => ⟨(har.2 a ha).2.2.2.2.1.1, (har.2 a ha).2.2.2.2.2.1, fun p hp => ((har.2 a ha).2.2.2.2.1.2 p hp).1⟩⟩, hty.1, hor.1, hap.1, hbe.1⟩
theorem planB_of {p : Plan} (h : bPlan 1048576 p) : PlanB p := ⟨h.1.1, fun r hr => (h.1.2 r hr).2.2.2.1, h.2.1⟩
theorem insB_ch {f : Order → Int → Order} {x : Instance} {p : Plan} (hx : InsB x) (h : Good x p) : InsB (chR f x p) := by
  rw [ch_R h]
  exact ⟨hx.net, hx.types, by show (Mv.chL f x.orders (kindsR x p)).length ≤ _; rw [chL_len (kinds_len h)]; exact hx.orders, hx.apart, hx.before⟩
theorem inB_ch {f : Order → Int → Order} (hf : ∀ o n, (f o n).name = o.name ∧ (f o n).load = o.load) {x : Instance} {p : Plan} (hx : InB x) (h : Good x p) : InB (chR f x p) := by
  rw [ch_R h]
  refine ⟨hx.places, hx.place, hx.arcs, hx.arc, hx.types, hx.type, by show (Mv.chL f x.orders (kindsR x p)).length ≤ _; rw [chL_len (kinds_len h)]; exact hx.orders, fun o' ho' => ?_, hx.apart, hx.before⟩
  obtain ⟨k, hk⟩ := List.mem_iff_getElem?.1 ho'
  obtain ⟨o, ho, rfl, _⟩ := ch_at h hk
  rw [(hf o _).1, (hf o _).2]
  exact hx.order o (List.mem_of_getElem? ho)
theorem freeLaw_c (x : Instance) (p : Plan) (hx : bInstance 1048576 x) (hp : bPlan 1048576 p) :
    PC Try.prog 5 [.agg (encInstance x), .agg (encPlan p)] (.v (.bool true)) := by
  have hB := inB_of hx
  have hS := insB_of hx
  have bp := planB_of hp
  have hI := NC.pc (check_c x hB)
  refine PC.body (c := Try.f5.body.getD .skip) (fun _ => false) mixed Try.func5 rfl (by kernel_rfl) ?_
  unfold Try.f5
  simp only [Option.getD_some]
  simp only [go_sem]
  refine PC.use hI ?_
  simp only [go_sem]
  refine ⟨_, fun _ => (few_c p bp.routes).q rfl, ?_⟩
  simp only [go_sem]
  refine ⟨_, fun _ => (check23_c x p hS bp).q rfl, ?_⟩
  simp only [go_sem]
  refine acond_i (fun hb => ?_) (fun hb => ?_)
  · simp only [go_sem]
    refine PC.use awake_c ?_
    simp only [go_sem]
    exact .refl _
  have hc : check23 x p = 0 := by
    simp only [Bool.or_eq_false_iff] at hb
    simpa using hb.2
  have hr : checkR x = [] := by
    simp only [Bool.or_eq_false_iff] at hb
    have h0 := hb.1.1
    cases hl : checkR x with
    | nil => rfl
    | cons a r => rw [hl] at h0; simp at h0
  clear hb
  have hG := good_of hc
  have hw := good_wrong hG
  have hA := NC.pc (check_c (chR nowO x p) (inB_ch (f := nowO) (fun _ _ => ⟨rfl, rfl⟩) hB hG))
  have hL := NC.pc (check_c (chR lastO x p) (inB_ch (f := lastO) (fun _ _ => ⟨rfl, rfl⟩) hB hG))
  have SA := score23_c (chR nowO x p) p (insB_ch hS hG) bp
  have SL := score23_c (chR lastO x p) p (insB_ch hS hG) bp
  obtain ⟨a, ea, fa⟩ := free_now hc
  obtain ⟨b, eb, fb⟩ := free_last hc
  rw [ea] at SA
  rw [eb] at SL
  rw [check_now hc hr] at hA
  rw [check_last hc hr] at hL
  have WA := With_c x p hS.orders bp.routes bp.visits
  have WL := Last_c x p hS.orders bp.routes bp.visits
  rw [hw] at WA WL
  generalize chR nowO x p = xa at WA hA SA
  generalize chR lastO x p = xl at WL hL SL
  have am := fa.1
  have bm := fb.1
  have bo := fb.2 rfl
  simp only [go_sem]
  refine PC.use WA ?_
  simp only [go_sem]
  refine anew_i fun j5 hj => ?_
  simp only [go_sem]
  refine wputE_n (updH_same _ _ _) (by simp [encInstance_len]) ?_
  generalize hG' : updH (updH _ j5 _) j5 _ = H1
  have R5 : H1 j5 = some ⟨30, 6, [encInstance xa]⟩ := by rw [← hG', updH_same]; rfl
  clear hG' hj
  simp only [go_sem]
  refine PC.use WL ?_
  simp only [go_sem]
  refine anew_i fun j7 hj => ?_
  simp only [go_sem]
  refine wputE_n (updH_same _ _ _) (by simp [encInstance_len]) ?_
  generalize hG' : updH (updH H1 j7 _) j7 _ = H2
  have R7 : H2 j7 = some ⟨30, 6, [encInstance xl]⟩ := by rw [← hG', updH_same]; rfl
  have R5 : H2 j5 = some ⟨30, 6, [encInstance xa]⟩ := by rw [← hG']; exact keepN R5 hj
  clear hG' hj
  simp only [go_sem, R5, R7, encInstance_len]
  refine ⟨_, fun _ => hA.qn, ?_⟩
  simp only [go_sem, R5, R7, encInstance_len]
  refine ⟨_, fun _ => hL.qn, ?_⟩
  simp only [go_sem]
  refine acond_i (fun hb => by simp at hb) (fun _ => ?_)
  simp only [go_sem, R5, R7, encInstance_len]
  refine PC.use SA ?_
  simp only [go_sem]
  refine anew_i fun j9 hj => ?_
  simp only [go_sem]
  refine wputE_n (updH_same _ _ _) (by simp [encScore]) ?_
  generalize hG' : updH (updH H2 j9 _) j9 _ = H3
  have R9 : H3 j9 = some (scRow a) := by rw [← hG', updH_same]; rfl
  have R7 : H3 j7 = some ⟨30, 6, [encInstance xl]⟩ := by rw [← hG']; exact keepN R7 hj
  clear hG' hj R5
  simp only [go_sem, R7, encInstance_len]
  refine PC.use SL ?_
  simp only [go_sem]
  refine anew_i fun j11 hj => ?_
  simp only [go_sem]
  refine wputE_n (updH_same _ _ _) (by simp [encScore]) ?_
  generalize hG' : updH (updH H3 j11 _) j11 _ = H4
  have R11 : H4 j11 = some (scRow b) := by rw [← hG', updH_same]; rfl
  have R9 : H4 j9 = some (scRow a) := by rw [← hG']; exact keepN R9 hj
  clear hG' hj R7
  simp only [go_sem, R9, R11, am, bm, bo]
  refine ⟨_, fun _ => awake_c.q rfl, ?_⟩
  simp only [go_sem]
  refine convB ?_
  simp
end Go.Proofs.Ytjlbikpgjejkjaa.Sq
