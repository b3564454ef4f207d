/- drive: the program's labels, and that they run as the reference does; the plain law.; drive: labels that are beaten; the program finds a schedule where there is one.; drive: the program's search finds a label at the end exactly if some rests are possible.; drive: the reference tries all rests that keep the fixed ones, in order. -/
import Derived.Test.YtbefdpmjpioijaaGreatDoorSqR
set_option linter.unusedSimpArgs false
set_option linter.unusedVariables false
namespace Go.Proofs.YtbefdpmjpioijaaGreatDoor.Sq
open Go.Aw Go.Aw.D Go.Proofs Ty
set_option maxRecDepth 100000

structure Lab where
  ready : Int
  since : Int
  sheet : Sheet
def zeroTm : Tm := ⟨0, 0, 0, false⟩
/-- rest and departure after k visits -/
def setDep (s : Sheet) (k : Nat) (b : Bool) (d : Int) : Sheet := match k with
  | 0 => { s with rest := b, depart := d }
  | j + 1 => { s with times := s.times.set j ⟨(s.times.getD j zeroTm).arrive, (s.times.getD j zeroTm).begin_, d, b⟩ }
def depL (t : VType) (l : Lab) (b : Bool) : Int := if b = true then W (l.ready + t.rest) else l.ready
def sinL (l : Lab) (b : Bool) : Int := if b = true then 0 else l.since
def goL (x : Instance) (t : VType) (p q : Int) (l : Lab) (b : Bool) : Int × Int × Int := go09 x.net t.profile p q (depL t l b)
def sinN (x : Instance) (t : VType) (p q : Int) (l : Lab) (b : Bool) : Int := W (W (sinL l b + (goL x t p q l b).1) - depL t l b)
def sheetV (x : Instance) (t : VType) (p : Int) (s : Stop) (k : Nat) (l : Lab) (b : Bool) : Sheet :=
  { setDep l.sheet k b (depL t l b) with
    times := (setDep l.sheet k b (depL t l b)).times ++ [⟨(goL x t p s.place l b).1, imax (goL x t p s.place l b).1 s.start, 0, false⟩]
    miles := W (l.sheet.miles + (goL x t p s.place l b).2.1) }
def nextV (x : Instance) (t : VType) (p : Int) (s : Stop) (k : Nat) (l : Lab) (b : Bool) : Except Int Lab :=
  if ((goL x t p s.place l b).2.2 != 0) = true then .error 12
  else if imax (goL x t p s.place l b).1 s.start > s.close then .error 14
  else if sinN x t p s.place l b > t.drive then .error 16
  else .ok ⟨W (imax (goL x t p s.place l b).1 s.start + s.service), sinN x t p s.place l b, sheetV x t p s k l b⟩
def sheetE (x : Instance) (t : VType) (p : Int) (k : Nat) (l : Lab) (b : Bool) : Sheet :=
  { setDep l.sheet k b (depL t l b) with
    end_ := (goL x t p t.dst l b).1
    miles := W (l.sheet.miles + (goL x t p t.dst l b).2.1) }
def nextE (x : Instance) (t : VType) (p : Int) (k : Nat) (l : Lab) (b : Bool) : Except Int Lab :=
  if ((goL x t p t.dst l b).2.2 != 0) = true then .error 12
  else if (goL x t p t.dst l b).1 > t.close then .error 15
  else if sinN x t p t.dst l b > t.drive then .error 16
  else .ok ⟨(goL x t p t.dst l b).1, sinN x t p t.dst l b, sheetE x t p k l b⟩
def runV (x : Instance) (t : VType) : List Visit → List Bool → Int → Nat → Lab → Except Int Lab
  | [], b :: _, p, k, l => nextE x t p k l b
  | v :: vs, b :: bs, p, k, l => match nextV x t p (stop18 x v).1 k l b with
    | .error e => .error e
    | .ok l' => runV x t vs bs (stop18 x v).1.place (k + 1) l'
  | _, [], _, _, l => .ok l
def lab0 (t : VType) (r : Route) : Lab := ⟨imax t.start r.start, 0, zeroSheet⟩

theorem setDep_miles (s : Sheet) (k : Nat) (b : Bool) (d : Int) : (setDep s k b d).miles = s.miles ∧ (setDep s k b d).end_ = s.end_ ∧ (setDep s k b d).times.length = s.times.length := by
  cases k <;> simp [setDep]
theorem rest_time (t : VType) (p : Int) (l : Lab) (m : Int) (b : Bool) : rest18 t ⟨p, l.ready, l.since, m⟩ b = ⟨p, depL t l b, sinL l b, m⟩ := by
  unfold rest18 depL sinL; cases b <;> rfl
theorem imax_gt {a s c : Int} (h : s ≤ c) : (imax a s > c) ↔ a > c := by
  unfold imax; split <;> omega
/-- one step, both ways -/
theorem step_same {x : Instance} {t : VType} {p : Int} {l : Lab} {b : Bool} {q c late : Int} :
    step18 x t ⟨p, depL t l b, sinL l b, l.sheet.miles⟩ q c late =
      if ((goL x t p q l b).2.2 != 0) = true then (⟨p, depL t l b, sinL l b, l.sheet.miles⟩, 12)
      else if (goL x t p q l b).1 > c then (⟨p, depL t l b, sinL l b, l.sheet.miles⟩, late)
      else if sinN x t p q l b > t.drive then (⟨p, depL t l b, sinL l b, l.sheet.miles⟩, 16)
      else (⟨q, (goL x t p q l b).1, sinN x t p q l b, W (l.sheet.miles + (goL x t p q l b).2.1)⟩, 0) := by
  unfold step18 goL sinN
  by_cases h : (go09 x.net t.profile p q (depL t l b)).2.2 = 0
  · simp only [h]; rfl
  · have : ((go09 x.net t.profile p q (depL t l b)).2.2 == 0) = false := by simpa using h
    have h2 : ((go09 x.net t.profile p q (depL t l b)).2.2 != 0) = true := by simpa using h
    simp only [this, h2]; rfl
theorem run_same (x : Instance) (t : VType) : ∀ (vs : List Visit) (bs : List Bool) (b : Bool) (p : Int) (k : Nat) (l : Lab) (dr : List Int), bs.length = vs.length → l.sheet.times.length = k →
    (∀ v ∈ vs, (stop18 x v).1.start ≤ (stop18 x v).1.close) →
    match (vs.zip bs).foldlM (runStep x t) (rest18 t ⟨p, l.ready, l.since, l.sheet.miles⟩ b, dr, (setDep l.sheet k b (depL t l b)).times) with
    | .error e => runV x t vs (b :: bs) p k l = .error e
    | .ok a => if ((step18 x t a.1 t.dst t.close 15).2 != 0) = true then runV x t vs (b :: bs) p k l = .error (step18 x t a.1 t.dst t.close 15).2
      else ∃ l', runV x t vs (b :: bs) p k l = .ok l' ∧ l'.sheet = ⟨(setDep l.sheet k b (depL t l b)).rest, (setDep l.sheet k b (depL t l b)).depart, a.2.2, (step18 x t a.1 t.dst t.close 15).1.time, (step18 x t a.1 t.dst t.close 15).1.miles⟩
  | [], bs, b, p, k, l, dr, hb, hk, _ => by
    simp only [List.zip_nil_left, List.foldlM_nil]
    show if ((step18 x t (rest18 t ⟨p, l.ready, l.since, l.sheet.miles⟩ b) t.dst t.close 15).2 != 0) = true then _ else _
    rw [rest_time, step_same]
    unfold runV nextE
    by_cases h1 : ((goL x t p t.dst l b).2.2 != 0) = true
    · simp only [h1, if_true]; exact (if_pos (by decide)).mpr trivial
    by_cases h2 : (goL x t p t.dst l b).1 > t.close
    · simp only [h1, h2, if_true, if_false, Bool.false_eq_true]; exact (if_pos (by decide)).mpr trivial
    by_cases h3 : sinN x t p t.dst l b > t.drive
    · simp only [h1, h2, h3, if_true, if_false, Bool.false_eq_true]; exact (if_pos (by decide)).mpr trivial
    · simp only [h1, h2, h3, if_false, Bool.false_eq_true]
      refine (if_neg (by decide)).mpr ⟨_, rfl, ?_⟩
      unfold sheetE
      rfl
  | v :: vs, [], b, p, k, l, dr, hb, _, _ => by simp at hb
  | v :: vs, b1 :: bs, b, p, k, l, dr, hb, hk, hs => by
    have hsv := hs v (by simp)
    rw [List.zip_cons_cons, List.foldlM_cons]
    unfold runV
    have ea : arrived x t (rest18 t ⟨p, l.ready, l.since, l.sheet.miles⟩ b, dr, (setDep l.sheet k b (depL t l b)).times) v = _ := (congrArg (fun s => step18 x t s (stop18 x v).1.place (stop18 x v).1.close 14) (rest_time t p l l.sheet.miles b)).trans step_same
    generalize hst : (stop18 x v).1 = s at ea hsv ⊢
    unfold nextV
    by_cases h1 : ((goL x t p s.place l b).2.2 != 0) = true
    · simp only [h1, if_true] at ea ⊢
      unfold runStep
      rw [ea]; rfl
    by_cases h2 : (goL x t p s.place l b).1 > s.close
    · have h2' := (imax_gt hsv).2 h2
      simp only [h1, h2, h2', if_true, if_false, Bool.false_eq_true] at ea ⊢
      unfold runStep
      rw [ea]; rfl
    have h2' : ¬ imax (goL x t p s.place l b).1 s.start > s.close := fun h => h2 ((imax_gt hsv).1 h)
    by_cases h3 : sinN x t p s.place l b > t.drive
    · simp only [h1, h2, h2', h3, if_true, if_false, Bool.false_eq_true] at ea ⊢
      unfold runStep
      rw [ea]; rfl
    simp only [h1, h2, h2', h3, if_false, Bool.false_eq_true] at ea ⊢
    have e1 : runStep x t (rest18 t ⟨p, l.ready, l.since, l.sheet.miles⟩ b, dr, (setDep l.sheet k b (depL t l b)).times) (v, b1) =
        .ok (runNext x t (rest18 t ⟨p, l.ready, l.since, l.sheet.miles⟩ b, dr, (setDep l.sheet k b (depL t l b)).times) (v, b1)) := by
      unfold runStep
      rw [ea]; rfl
    rw [e1]
    show match (vs.zip bs).foldlM (runStep x t) (runNext x t (rest18 t ⟨p, l.ready, l.since, l.sheet.miles⟩ b, dr, (setDep l.sheet k b (depL t l b)).times) (v, b1)) with
      | .error e => _
      | .ok a => _
    have hl' : (sheetV x t p s k l b).times.length = k + 1 := by
      simp only [sheetV, List.length_append, List.length_cons, List.length_nil, (setDep_miles _ _ _ _).2.2, hk]
    have ih := run_same x t vs bs b1 s.place (k + 1) ⟨W (imax (goL x t p s.place l b).1 s.start + s.service), sinN x t p s.place l b, sheetV x t p s k l b⟩ (dr ++ [(arrived x t (rest18 t ⟨p, l.ready, l.since, l.sheet.miles⟩ b, dr, (setDep l.sheet k b (depL t l b)).times) v).1.driven])
      (by simpa using hb) hl' (fun u hu => hs u (by simp [hu]))
    have e2 : runNext x t (rest18 t ⟨p, l.ready, l.since, l.sheet.miles⟩ b, dr, (setDep l.sheet k b (depL t l b)).times) (v, b1) =
        (rest18 t ⟨s.place, W (imax (goL x t p s.place l b).1 s.start + s.service), sinN x t p s.place l b, (sheetV x t p s k l b).miles⟩ b1, dr ++ [(arrived x t (rest18 t ⟨p, l.ready, l.since, l.sheet.miles⟩ b, dr, (setDep l.sheet k b (depL t l b)).times) v).1.driven],
          (setDep (sheetV x t p s k l b) (k + 1) b1 (depL t ⟨W (imax (goL x t p s.place l b).1 s.start + s.service), sinN x t p s.place l b, sheetV x t p s k l b⟩ b1)).times) := by
      unfold runNext
      rw [hst]
      simp only [ea]
      have hlen : (setDep l.sheet k b (depL t l b)).times.length = k := by rw [(setDep_miles _ _ _ _).2.2, hk]
      have et : (rest18 t (serve18 s ⟨s.place, (goL x t p s.place l b).1, sinN x t p s.place l b, W (l.sheet.miles + (goL x t p s.place l b).2.1)⟩) b1) = ⟨s.place, depL t ⟨W (imax (goL x t p s.place l b).1 s.start + s.service), sinN x t p s.place l b, sheetV x t p s k l b⟩ b1, sinL ⟨W (imax (goL x t p s.place l b).1 s.start + s.service), sinN x t p s.place l b, sheetV x t p s k l b⟩ b1, W (l.sheet.miles + (goL x t p s.place l b).2.1)⟩ := by
        exact rest_time t s.place ⟨W (imax (goL x t p s.place l b).1 s.start + s.service), sinN x t p s.place l b, sheetV x t p s k l b⟩ _ b1
      rw [et]
      rw [rest_time t s.place ⟨W (imax (goL x t p s.place l b).1 s.start + s.service), sinN x t p s.place l b, sheetV x t p s k l b⟩ _ b1]
      have hget : ((setDep l.sheet k b (depL t l b)).times ++ [(⟨(goL x t p s.place l b).1, imax (goL x t p s.place l b).1 s.start, 0, false⟩ : Tm)]).getD k zeroTm = ⟨(goL x t p s.place l b).1, imax (goL x t p s.place l b).1 s.start, 0, false⟩ := by
        rw [List.getD_eq_getElem?_getD, List.getElem?_append_right (by omega), hlen]; simp
      have hT : (sheetV x t p s k l b).times = (setDep l.sheet k b (depL t l b)).times ++ [⟨(goL x t p s.place l b).1, imax (goL x t p s.place l b).1 s.start, 0, false⟩] := rfl
      have hset : ∀ d, (setDep (sheetV x t p s k l b) (k + 1) b1 d).times = (setDep l.sheet k b (depL t l b)).times ++ [⟨(goL x t p s.place l b).1, imax (goL x t p s.place l b).1 s.start, d, b1⟩] := fun d => by
        show (sheetV x t p s k l b).times.set k ⟨((sheetV x t p s k l b).times.getD k zeroTm).arrive, ((sheetV x t p s k l b).times.getD k zeroTm).begin_, d, b1⟩ = _
        rw [hT, hget, List.set_append_right _ _ (by omega), hlen]; simp
      rw [hset]
      rfl
    rw [e2]
    have er : (setDep (sheetV x t p s k l b) (k + 1) b1 (depL t ⟨W (imax (goL x t p s.place l b).1 s.start + s.service), sinN x t p s.place l b, sheetV x t p s k l b⟩ b1)).rest = (setDep l.sheet k b (depL t l b)).rest ∧
        (setDep (sheetV x t p s k l b) (k + 1) b1 (depL t ⟨W (imax (goL x t p s.place l b).1 s.start + s.service), sinN x t p s.place l b, sheetV x t p s k l b⟩ b1)).depart = (setDep l.sheet k b (depL t l b)).depart := ⟨rfl, rfl⟩
    rw [er.1, er.2] at ih
    exact ih

/-- run18 by labels -/
theorem run_eq {x : Instance} {r : Route} {t : VType} {b : Bool} {bs : List Bool} (hp : possible18 x r = true) (ht : x.types[r.type.toNat]? = some t) (hl : bs.length = r.visits.length)
    (hs : ∀ v ∈ r.visits, (stop18 x v).1.start ≤ (stop18 x v).1.close) :
    match runV x t r.visits (b :: bs) t.src 0 (lab0 t r) with
    | .error e => (run18 x r (b :: bs)).1 = zeroSheet ∧ (run18 x r (b :: bs)).2.2 = e
    | .ok l => (run18 x r (b :: bs)).1 = l.sheet ∧ (run18 x r (b :: bs)).2.2 = 0 := by
  have e0 : run18 x r (b :: bs) = runO x r (b :: bs) t b := by
    unfold run18
    rw [if_neg, ht]
    · rfl
    · rw [hp]; simp [hl]
  rw [e0]
  have h := run_same x t r.visits bs b t.src 0 (lab0 t r) [] hl rfl hs
  unfold runO
  show match runV x t r.visits (b :: bs) t.src 0 (lab0 t r) with
    | .error e => (match (r.visits.zip bs).foldlM (runStep x t) (run0 r t b, [], []) with | .error e => (zeroSheet, [], e) | .ok a => runEnd x t b (run0 r t b) a : Sheet × List Int × Int).1 = zeroSheet ∧ _
    | .ok l => _
  have e1 : (rest18 t ⟨t.src, (lab0 t r).ready, (lab0 t r).since, (lab0 t r).sheet.miles⟩ b, ([] : List Int), (setDep (lab0 t r).sheet 0 b (depL t (lab0 t r) b)).times) = (run0 r t b, [], []) := rfl
  rw [e1] at h
  cases hf : (r.visits.zip bs).foldlM (runStep x t) (run0 r t b, [], []) with
  | error e =>
    rw [hf] at h
    have h : runV x t r.visits (b :: bs) t.src 0 (lab0 t r) = .error e := h
    rw [h]
    exact ⟨rfl, by show (match (r.visits.zip bs).foldlM (runStep x t) (run0 r t b, [], []) with | .error e => (zeroSheet, [], e) | .ok a => runEnd x t b (run0 r t b) a : Sheet × List Int × Int).2.2 = e; rw [hf]⟩
  | ok a =>
    rw [hf] at h
    simp only at h
    by_cases hn : ((step18 x t a.1 t.dst t.close 15).2 != 0) = true
    · rw [if_pos hn] at h
      rw [h]
      have e2 : runEnd x t b (run0 r t b) a = (zeroSheet, [], (step18 x t a.1 t.dst t.close 15).2) := if_pos hn
      refine ⟨?_, ?_⟩
      · show (runEnd x t b (run0 r t b) a).1 = _; rw [e2]
      · show (match (r.visits.zip bs).foldlM (runStep x t) (run0 r t b, [], []) with | .error e => (zeroSheet, [], e) | .ok a => runEnd x t b (run0 r t b) a : Sheet × List Int × Int).2.2 = _
        rw [hf]; show (runEnd x t b (run0 r t b) a).2.2 = _; rw [e2]
    · rw [if_neg hn] at h
      obtain ⟨l', h1, h2⟩ := h
      rw [h1]
      have e2 : runEnd x t b (run0 r t b) a = _ := if_neg hn
      have e3 : (run0 r t b).time = depL t (lab0 t r) b := by
        have := rest_time t t.src (lab0 t r) 0 b
        exact congrArg St8.time this
      refine ⟨?_, ?_⟩
      · show (match (r.visits.zip bs).foldlM (runStep x t) (run0 r t b, [], []) with | .error e => (zeroSheet, [], e) | .ok a => runEnd x t b (run0 r t b) a : Sheet × List Int × Int).1 = _
        rw [hf]; show (runEnd x t b (run0 r t b) a).1 = _; rw [e2, h2]
        show (⟨b, (run0 r t b).time, a.2.2, _, _⟩ : Sheet) = _
        rw [e3]; rfl
      · show (match (r.visits.zip bs).foldlM (runStep x t) (run0 r t b, [], []) with | .error e => (zeroSheet, [], e) | .ok a => runEnd x t b (run0 r t b) a : Sheet × List Int × Int).2.2 = _
        rw [hf]; show (runEnd x t b (run0 r t b) a).2.2 = _; rw [e2]

/-! ### a label that beats another one -/
structure GoB (x : Instance) (t : VType) : Prop where
  arrive : ∀ p q d, 0 ≤ d ∧ d ≤ 12288 → (go09 x.net t.profile p q d).2.2 = 0 → 0 ≤ (go09 x.net t.profile p q d).1
  rest : 0 ≤ t.rest ∧ t.rest ≤ 4096
  close : t.close ≤ 4096
  drive : t.drive ≤ 4096
structure StopB (s : Stop) : Prop where
  start : 0 ≤ s.start
  close : s.close ≤ 4096
  service : 0 ≤ s.service ∧ s.service ≤ 4096
structure LabB (l : Lab) (k : Nat) : Prop where
  ready : 0 ≤ l.ready ∧ l.ready ≤ 8192
  since : -(12288 * (k : Int)) ≤ l.since ∧ l.since ≤ 4096
def beats (l m : Lab) : Prop := l.ready = m.ready ∧ l.since ≤ m.since
theorem beats.refl (l : Lab) : beats l l := ⟨rfl, Int.le_refl _⟩
theorem beats.trans {a b c : Lab} (h : beats a b) (h' : beats b c) : beats a c := ⟨h.1.trans h'.1, Int.le_trans h.2 h'.2⟩
theorem W_in {n : Int} (h : -9223372036854775808 ≤ n ∧ n ≤ 9223372036854775807) : W n = n := wrap_in h
theorem dep_range {t : VType} {l : Lab} {k : Nat} (hr : 0 ≤ t.rest ∧ t.rest ≤ 4096) (hl : LabB l k) (b : Bool) : 0 ≤ depL t l b ∧ depL t l b ≤ 12288 := by
  have := hl.ready
  unfold depL
  cases b with
  | false => exact ⟨this.1, by simp; omega⟩
  | true => rw [if_pos rfl, W_in (by omega)]; omega
theorem sin_range {l : Lab} {k : Nat} (hl : LabB l k) (b : Bool) : -(12288 * (k : Int)) ≤ sinL l b ∧ sinL l b ≤ 4096 := by
  unfold sinL
  cases b with
  | false => exact hl.since
  | true => rw [if_pos rfl]; omega
theorem sinN_eq {x : Instance} {t : VType} {p q : Int} {l : Lab} {b : Bool} {k : Nat} (hk : k ≤ 1048576) (hg : GoB x t) (hl : LabB l k) (h0 : (goL x t p q l b).2.2 = 0) (h1 : (goL x t p q l b).1 ≤ 4096) :
    sinN x t p q l b = sinL l b + (goL x t p q l b).1 - depL t l b ∧ 0 ≤ (goL x t p q l b).1 := by
  have hd := dep_range hg.rest hl b
  have hs := sin_range hl b
  have ha : 0 ≤ (goL x t p q l b).1 := hg.arrive p q _ hd h0
  unfold sinN
  rw [W_in (n := sinL l b + (goL x t p q l b).1) (by omega), W_in (by omega)]
  exact ⟨rfl, ha⟩
theorem le_imax (a s : Int) : a ≤ imax a s ∧ s ≤ imax a s := by unfold imax; split <;> omega
theorem nextV_ok {x : Instance} {t : VType} {p : Int} {s : Stop} {k j : Nat} {l l' : Lab} {b : Bool} (h : nextV x t p s j l b = .ok l') :
    (goL x t p s.place l b).2.2 = 0 ∧ imax (goL x t p s.place l b).1 s.start ≤ s.close ∧ sinN x t p s.place l b ≤ t.drive ∧
      l' = ⟨W (imax (goL x t p s.place l b).1 s.start + s.service), sinN x t p s.place l b, sheetV x t p s j l b⟩ := by
  unfold nextV at h
  split at h
  · cases h
  · rename_i h1
    split at h
    · cases h
    · rename_i h2
      split at h
      · cases h
      · rename_i h3
        injection h with h
        exact ⟨by simpa using h1, by omega, by omega, h.symm⟩
theorem nextE_ok {x : Instance} {t : VType} {p : Int} {j : Nat} {l l' : Lab} {b : Bool} (h : nextE x t p j l b = .ok l') :
    (goL x t p t.dst l b).2.2 = 0 ∧ (goL x t p t.dst l b).1 ≤ t.close ∧ sinN x t p t.dst l b ≤ t.drive ∧
      l' = ⟨(goL x t p t.dst l b).1, sinN x t p t.dst l b, sheetE x t p j l b⟩ := by
  unfold nextE at h
  split at h
  · cases h
  · rename_i h1
    split at h
    · cases h
    · rename_i h2
      split at h
      · cases h
      · rename_i h3
        injection h with h
        exact ⟨by simpa using h1, by omega, by omega, h.symm⟩
theorem nextV_B {x : Instance} {t : VType} {p : Int} {s : Stop} {k j : Nat} {l l' : Lab} {b : Bool} (hk : k ≤ 1048576) (hg : GoB x t) (hs : StopB s) (hl : LabB l k) (h : nextV x t p s j l b = .ok l') : LabB l' (k + 1) := by
  obtain ⟨h0, h1, h2, rfl⟩ := nextV_ok (k := k) h
  have hi := le_imax (goL x t p s.place l b).1 s.start
  have hc := hs.close
  have h3 := hs.start
  have h4 := hs.service
  obtain ⟨e, ha⟩ := sinN_eq hk hg hl h0 (by omega)
  have hd := dep_range hg.rest hl b
  have hsr := sin_range hl b
  have hdr := hg.drive
  refine ⟨?_, ?_⟩
  · show 0 ≤ W _ ∧ W _ ≤ 8192
    rw [W_in (by omega)]; omega
  · show _ ≤ sinN x t p s.place l b ∧ sinN x t p s.place l b ≤ 4096
    refine ⟨?_, by omega⟩
    rw [e]; push_cast; omega
theorem go_same {x : Instance} {t : VType} {p q : Int} {l m : Lab} {b : Bool} (h : l.ready = m.ready) : goL x t p q l b = goL x t p q m b ∧ depL t l b = depL t m b := by
  have e : depL t l b = depL t m b := by unfold depL; rw [h]
  exact ⟨by unfold goL; rw [e], e⟩
theorem nextV_mono {x : Instance} {t : VType} {p : Int} {s : Stop} {k j : Nat} {l m m' : Lab} {b : Bool} (hk : k ≤ 1048576) (hg : GoB x t) (hs : StopB s) (hl : LabB l k) (hm : LabB m k) (hb : beats l m) (h : nextV x t p s j m b = .ok m') :
    ∃ l', nextV x t p s j l b = .ok l' ∧ beats l' m' := by
  obtain ⟨h0, h1, h2, rfl⟩ := nextV_ok (k := k) h
  obtain ⟨eg, ed⟩ := go_same (x := x) (t := t) (p := p) (q := s.place) (b := b) hb.1
  have hi := le_imax (goL x t p s.place m b).1 s.start
  have hc := hs.close
  have e1 := (sinN_eq (p := p) (q := s.place) (b := b) hk hg hm h0 (by omega)).1
  have e2 := (sinN_eq (p := p) (q := s.place) (b := b) hk hg hl (by rw [eg]; exact h0) (by rw [eg]; omega)).1
  have hsin : sinL l b ≤ sinL m b := by
    unfold sinL
    cases b with
    | false => exact hb.2
    | true => exact Int.le_refl _
  have hle : sinN x t p s.place l b ≤ sinN x t p s.place m b := by rw [e1, e2, eg, ed]; omega
  refine ⟨⟨W (imax (goL x t p s.place l b).1 s.start + s.service), sinN x t p s.place l b, sheetV x t p s j l b⟩, ?_, ?_, hle⟩
  · unfold nextV
    rw [eg, if_neg (by rw [h0]; simp), if_neg (by omega), if_neg (by omega)]
  · show W _ = W _
    rw [eg]
theorem nextE_mono {x : Instance} {t : VType} {p : Int} {k j : Nat} {l m m' : Lab} {b : Bool} (hk : k ≤ 1048576) (hg : GoB x t) (hl : LabB l k) (hm : LabB m k) (hb : beats l m) (h : nextE x t p j m b = .ok m') :
    ∃ l', nextE x t p j l b = .ok l' ∧ beats l' m' := by
  obtain ⟨h0, h1, h2, rfl⟩ := nextE_ok h
  obtain ⟨eg, ed⟩ := go_same (x := x) (t := t) (p := p) (q := t.dst) (b := b) hb.1
  have hc := hg.close
  have e1 := (sinN_eq (p := p) (q := t.dst) (b := b) hk hg hm h0 (by omega)).1
  have e2 := (sinN_eq (p := p) (q := t.dst) (b := b) hk hg hl (by rw [eg]; exact h0) (by rw [eg]; omega)).1
  have hsin : sinL l b ≤ sinL m b := by
    unfold sinL
    cases b with
    | false => exact hb.2
    | true => exact Int.le_refl _
  have hle : sinN x t p t.dst l b ≤ sinN x t p t.dst m b := by rw [e1, e2, eg, ed]; omega
  refine ⟨⟨(goL x t p t.dst l b).1, sinN x t p t.dst l b, sheetE x t p j l b⟩, ?_, ?_, hle⟩
  · unfold nextE
    rw [eg, if_neg (by rw [h0]; simp), if_neg (by omega), if_neg (by omega)]
  · show (goL x t p t.dst l b).1 = _
    rw [eg]

def choicesD (fixed : List Bool) (k : Nat) : List Bool := if k < fixed.length then [fixed.getD k false] else [false, true]
def placeD (x : Instance) (t : VType) (r : Route) : Nat → Int
  | 0 => t.src
  | k + 1 => match r.visits[k]? with | some v => (stop18 x v).1.place | none => 0
def stepD (x : Instance) (t : VType) (r : Route) (k : Nat) (l : Lab) (b : Bool) : Except Int Lab := match r.visits[k]? with
  | some v => nextV x t (placeD x t r k) (stop18 x v).1 k l b
  | none => nextE x t (placeD x t r k) k l b
def runD (x : Instance) (t : VType) (r : Route) : List Bool → Nat → Lab → Except Int Lab
  | [], _, l => .ok l
  | b :: bs, k, l => match stepD x t r k l b with
    | .error e => .error e
    | .ok l' => runD x t r bs (k + 1) l'
theorem runV_D {x : Instance} {t : VType} {r : Route} : ∀ (bs : List Bool) (k : Nat) (l : Lab), bs.length + k = r.visits.length + 1 → k ≤ r.visits.length → runV x t (r.visits.drop k) bs (placeD x t r k) k l = runD x t r bs k l
  | [], k, l, h, hk => by simp at h; omega
  | b :: bs, k, l, h, hk => by
    by_cases hlt : k < r.visits.length
    · obtain ⟨v, hv⟩ := getIn hlt
      have hd : r.visits.drop k = v :: r.visits.drop (k + 1) := by
        rw [List.drop_eq_getElem_cons hlt]
        have : r.visits[k] = v := by rw [List.getElem?_eq_getElem hlt] at hv; exact Option.some.inj hv
        rw [this]
      rw [hd]
      unfold runV runD stepD
      rw [hv]
      have ih := fun l' => runV_D (x := x) (t := t) (r := r) bs (k + 1) l' (by simp at h; omega) (by omega)
      have hp : placeD x t r (k + 1) = (stop18 x v).1.place := by
        show (match r.visits[k]? with | some v => (stop18 x v).1.place | none => 0) = _
        rw [hv]
      rw [hp] at ih
      show (match nextV x t (placeD x t r k) (stop18 x v).1 k l b with | .error e => Except.error e | .ok l' => runV x t (r.visits.drop (k + 1)) bs (stop18 x v).1.place (k + 1) l') = (match nextV x t (placeD x t r k) (stop18 x v).1 k l b with | .error e => Except.error e | .ok l' => runD x t r bs (k + 1) l')
      cases nextV x t (placeD x t r k) (stop18 x v).1 k l b with
      | error e => rfl
      | ok l' => exact ih l'
    · have hke : k = r.visits.length := by omega
      have hb0 : bs = [] := by
        have : bs.length = 0 := by simp at h; omega
        exact List.eq_nil_of_length_eq_zero this
      subst hb0
      rw [List.drop_eq_nil_of_le (by omega)]
      unfold runV runD stepD
      rw [List.getElem?_eq_none (by omega)]
      show nextE x t (placeD x t r k) k l b = match nextE x t (placeD x t r k) k l b with | .error e => Except.error e | .ok l' => runD x t r [] (k + 1) l'
      cases nextE x t (placeD x t r k) k l b with
      | error e => rfl
      | ok l' => rfl
theorem runD_snoc {x : Instance} {t : VType} {r : Route} : ∀ (bs : List Bool) (b : Bool) (k : Nat) (l : Lab), runD x t r (bs ++ [b]) k l = match runD x t r bs k l with
    | .error e => .error e
    | .ok l' => stepD x t r (k + bs.length) l' b
  | [], b, k, l => by
    show (match stepD x t r k l b with | .error e => Except.error e | .ok l' => runD x t r [] (k + 1) l') = stepD x t r (k + 0) l b
    cases stepD x t r k l b <;> rfl
  | c :: bs, b, k, l => by
    show (match stepD x t r k l c with | .error e => Except.error e | .ok l' => runD x t r (bs ++ [b]) (k + 1) l') = match (match stepD x t r k l c with | .error e => Except.error e | .ok l' => runD x t r bs (k + 1) l') with | .error e => Except.error e | .ok l' => stepD x t r (k + (bs.length + 1)) l' b
    cases stepD x t r k l c with
    | error e => rfl
    | ok l' =>
      show runD x t r (bs ++ [b]) (k + 1) l' = _
      rw [runD_snoc bs b (k + 1) l', show k + 1 + bs.length = k + (bs.length + 1) by omega]
def beatsB (m l : Lab) : Bool := m.ready == l.ready && decide (m.since ≤ l.since)
theorem beatsB_iff {m l : Lab} : beatsB m l = true ↔ beats m l := by
  unfold beatsB beats; simp
def addL (out : List Lab) (e : Except Int Lab) : List Lab := match e with
  | .error _ => out
  | .ok l => if out.any (beatsB · l) = true then out else out ++ [l]
def growD (x : Instance) (t : VType) (r : Route) (ls : List Lab) (k : Nat) : List Lab := (ls.flatMap fun l => (choicesD r.rests k).map fun b => stepD x t r k l b).foldl addL []
def dpL (x : Instance) (t : VType) (r : Route) : Nat → List Lab
  | 0 => [lab0 t r]
  | k + 1 => growD x t r (dpL x t r k) k
theorem addL_spec : ∀ (es : List (Except Int Lab)) (out : List Lab),
    (∀ l ∈ es.foldl addL out, l ∈ out ∨ .ok l ∈ es) ∧ (∀ l ∈ out, l ∈ es.foldl addL out) ∧ (∀ l, .ok l ∈ es → ∃ m ∈ es.foldl addL out, beats m l)
  | [], out => ⟨fun l h => .inl h, fun l h => h, fun l h => by cases h⟩
  | e :: es, out => by
    obtain ⟨h1, h2, h3⟩ := addL_spec es (addL out e)
    have hsub : ∀ l ∈ out, l ∈ addL out e := fun l hl => by
      unfold addL
      split
      · exact hl
      · split
        · exact hl
        · exact List.mem_append_left _ hl
    refine ⟨fun l hl => ?_, fun l hl => h2 l (hsub l hl), fun l hl => ?_⟩
    · rcases h1 l hl with h | h
      · unfold addL at h
        split at h
        · exact .inl h
        · split at h
          · exact .inl h
          · rcases List.mem_append.1 h with h | h
            · exact .inl h
            · simp at h; subst h; exact .inr (by simp)
      · exact .inr (by simp [h])
    · rcases List.mem_cons.1 hl with h | h
      · subst h
        have hex : ∃ m ∈ addL out (.ok l), beats m l := by
          unfold addL
          simp only
          split
          · rename_i ha
            obtain ⟨m, hm, hb⟩ := List.any_eq_true.1 ha
            exact ⟨m, hm, beatsB_iff.1 hb⟩
          · exact ⟨l, by simp, beats.refl l⟩
        obtain ⟨m, hm, hb⟩ := hex
        exact ⟨m, h2 m hm, hb⟩
      · exact h3 l h
/-- rests that keep the fixed ones -/
def keeps (fixed bs : List Bool) : Prop := ∀ (i : Nat) (b : Bool), bs[i]? = some b → b ∈ choicesD fixed i
theorem keeps_snoc {fixed bs : List Bool} {b : Bool} : keeps fixed (bs ++ [b]) ↔ keeps fixed bs ∧ b ∈ choicesD fixed bs.length := by
  constructor
  · intro h
    refine ⟨fun i c hc => h i c ?_, h bs.length b (by simp)⟩
    have := (List.getElem?_eq_some_iff.1 hc).1
    rw [List.getElem?_append_left this]; exact hc
  · rintro ⟨h1, h2⟩ i c hc
    by_cases hi : i < bs.length
    · rw [List.getElem?_append_left hi] at hc; exact h1 i c hc
    · rw [List.getElem?_append_right (by omega)] at hc
      by_cases he : i = bs.length
      · subst he; simp at hc; subst hc; exact h2
      · have : i - bs.length ≠ 0 := by omega
        cases hx : i - bs.length with
        | zero => omega
        | succ n => rw [hx] at hc; simp at hc
structure RouteB (x : Instance) (t : VType) (r : Route) : Prop where
  go : GoB x t
  stop : ∀ v ∈ r.visits, StopB (stop18 x v).1
  first : LabB (lab0 t r) 0
  short : r.visits.length ≤ 1048575
theorem snoc_of {α : Type} {l : List α} {k : Nat} (h : l.length = k + 1) : ∃ m b, l = m ++ [b] ∧ m.length = k := by
  have hne : l ≠ [] := by intro e; subst e; simp at h
  refine ⟨l.dropLast, l.getLast hne, (List.dropLast_concat_getLast hne).symm, by simp [h]⟩
theorem stepD_V {x : Instance} {t : VType} {r : Route} {k : Nat} (hk : k < r.visits.length) (l : Lab) (b : Bool) : ∃ v ∈ r.visits, stepD x t r k l b = nextV x t (placeD x t r k) (stop18 x v).1 k l b := by
  obtain ⟨v, hv⟩ := getIn hk
  exact ⟨v, List.mem_of_getElem? hv, by unfold stepD; rw [hv]⟩
theorem runD_B {x : Instance} {t : VType} {r : Route} (hB : RouteB x t r) : ∀ (k : Nat) (bs : List Bool) (l : Lab), bs.length = k → k ≤ r.visits.length → runD x t r bs 0 (lab0 t r) = .ok l → LabB l k
  | 0, bs, l, hl, _, h => by
    have := List.eq_nil_of_length_eq_zero hl
    subst this
    injection h with h; subst h; exact hB.first
  | k + 1, bs, l, hl, hk, h => by
    obtain ⟨m, b, rfl, hm⟩ := snoc_of hl
    rw [runD_snoc] at h
    cases hr : runD x t r m 0 (lab0 t r) with
    | error e => rw [hr] at h; cases h
    | ok l' =>
      rw [hr] at h
      have h : stepD x t r (0 + m.length) l' b = .ok l := h
      rw [hm, Nat.zero_add] at h
      have hb := runD_B hB k m l' hm (by omega) hr
      have hs := hB.short
      obtain ⟨v, hv, e⟩ := stepD_V (x := x) (t := t) (r := r) (k := k) (by omega) l' b
      rw [e] at h
      exact nextV_B (by omega) hB.go (hB.stop v hv) hb h
theorem dp_sound {x : Instance} {t : VType} {r : Route} : ∀ (k : Nat) (l : Lab), l ∈ dpL x t r k → ∃ bs, bs.length = k ∧ keeps r.rests bs ∧ runD x t r bs 0 (lab0 t r) = .ok l
  | 0, l, h => by
    have h : l ∈ [lab0 t r] := h
    simp at h; subst h
    exact ⟨[], rfl, fun i b hb => by simp at hb, rfl⟩
  | k + 1, l, h => by
    have h : l ∈ growD x t r (dpL x t r k) k := h
    unfold growD at h
    rcases (addL_spec _ []).1 l h with h | h
    · cases h
    · obtain ⟨l', hl', h⟩ := List.mem_flatMap.1 h
      obtain ⟨b, hb, h⟩ := List.mem_map.1 h
      obtain ⟨bs, h1, h2, h3⟩ := dp_sound k l' hl'
      refine ⟨bs ++ [b], by simp [h1], keeps_snoc.2 ⟨h2, by rw [h1]; exact hb⟩, ?_⟩
      rw [runD_snoc, h3]
      show stepD x t r (0 + bs.length) l' b = .ok l
      rw [h1, Nat.zero_add]; exact h
theorem dp_complete {x : Instance} {t : VType} {r : Route} (hB : RouteB x t r) : ∀ (k : Nat) (bs : List Bool) (m : Lab), bs.length = k → k ≤ r.visits.length + 1 → keeps r.rests bs → runD x t r bs 0 (lab0 t r) = .ok m → ∃ l ∈ dpL x t r k, beats l m
  | 0, bs, m, hl, _, _, h => by
    have := List.eq_nil_of_length_eq_zero hl
    subst this
    injection h with h; subst h
    exact ⟨_, by show lab0 t r ∈ [lab0 t r]; simp, beats.refl _⟩
  | k + 1, bs, m, hl, hk, hc, h => by
    obtain ⟨cs, b, rfl, hm⟩ := snoc_of hl
    obtain ⟨hc1, hc2⟩ := keeps_snoc.1 hc
    rw [hm] at hc2
    rw [runD_snoc] at h
    cases hr : runD x t r cs 0 (lab0 t r) with
    | error e => rw [hr] at h; cases h
    | ok m' =>
      rw [hr] at h
      have h : stepD x t r (0 + cs.length) m' b = .ok m := h
      rw [hm, Nat.zero_add] at h
      obtain ⟨l', hl', hb'⟩ := dp_complete hB k cs m' hm (by omega) hc1 hr
      have hs := hB.short
      have bm := runD_B hB k cs m' hm (by omega) hr
      obtain ⟨ds, d1, d2, d3⟩ := dp_sound k l' hl'
      have bl := runD_B hB k ds l' d1 (by omega) d3
      have step : ∃ l, stepD x t r k l' b = .ok l ∧ beats l m := by
        by_cases hlt : k < r.visits.length
        · obtain ⟨v, hv⟩ := getIn hlt
          have e : ∀ l, stepD x t r k l b = nextV x t (placeD x t r k) (stop18 x v).1 k l b := fun l => by unfold stepD; rw [hv]
          rw [e] at h ⊢
          exact nextV_mono (by omega) hB.go (hB.stop v (List.mem_of_getElem? hv)) bl bm hb' h
        · have e : ∀ l, stepD x t r k l b = nextE x t (placeD x t r k) k l b := fun l => by unfold stepD; rw [List.getElem?_eq_none (by omega)]
          rw [e] at h ⊢
          exact nextE_mono (by omega) hB.go bl bm hb' h
      obtain ⟨l, hl1, hl2⟩ := step
      obtain ⟨q, hq, hqb⟩ := (addL_spec ((dpL x t r k).flatMap fun l => (choicesD r.rests k).map fun b => stepD x t r k l b) []).2.2 l
        (List.mem_flatMap.2 ⟨l', hl', List.mem_map.2 ⟨b, hc2, hl1⟩⟩)
      exact ⟨q, hq, hqb.trans hl2⟩
theorem dp_nil {x : Instance} {t : VType} {r : Route} (hB : RouteB x t r) : dpL x t r (r.visits.length + 1) = [] ↔ ∀ bs, bs.length = r.visits.length + 1 → keeps r.rests bs → ∃ e, runD x t r bs 0 (lab0 t r) = .error e := by
  constructor
  · intro h bs hl hc
    cases hr : runD x t r bs 0 (lab0 t r) with
    | error e => exact ⟨e, rfl⟩
    | ok m =>
      obtain ⟨l, hl', _⟩ := dp_complete hB _ bs m hl (Nat.le_refl _) hc hr
      rw [h] at hl'; cases hl'
  · intro h
    cases hd : dpL x t r (r.visits.length + 1) with
    | nil => rfl
    | cons l ls =>
      obtain ⟨bs, h1, h2, h3⟩ := dp_sound (r.visits.length + 1) l (by rw [hd]; simp)
      obtain ⟨e, he⟩ := h bs h1 h2
      rw [h3] at he; cases he

theorem set_mid {α : Type} (a c : List α) (b d : α) : (a ++ b :: c).set a.length d = a ++ d :: c := by simp
theorem getD_mid {α : Type} (a c : List α) (b d : α) : (a ++ b :: c).getD a.length d = b := by simp
theorem rep_snoc {α : Type} (n : Nat) (a : α) : List.replicate (n + 1) a = List.replicate n a ++ [a] := List.replicate_succ'
theorem nextGo_mid (n : Nat) : ∀ (j m : Nat) (q : List Bool), n ≤ q.length → nextGo n (q.length + 1 + j) (q ++ false :: (List.replicate j true ++ List.replicate m false)) = (q ++ true :: List.replicate (j + m) false, true)
  | 0, m, q, hq => by
    unfold nextGo
    rw [if_pos hq]
    simp only [List.replicate_zero, List.nil_append, getD_mid, Nat.zero_add]
    rw [if_neg (by simp), set_mid]
  | j + 1, m, q, hq => by
    have e : q ++ false :: (List.replicate (j + 1) true ++ List.replicate m false) = (q ++ false :: List.replicate j true) ++ true :: List.replicate m false := by rw [rep_snoc]; simp
    have hl : (q ++ false :: List.replicate j true).length = q.length + 1 + j := by simp; omega
    rw [show q.length + 1 + (j + 1) = (q ++ false :: List.replicate j true).length + 1 by omega, e]
    unfold nextGo
    rw [if_pos (by omega), getD_mid, if_pos rfl, set_mid, hl]
    have ih := nextGo_mid n j (m + 1) q hq
    rw [List.replicate_succ] at ih
    rw [show (q ++ false :: List.replicate j true) ++ false :: List.replicate m false = q ++ false :: (List.replicate j true ++ false :: List.replicate m false) by simp, ih, show j + (m + 1) = j + 1 + m by omega]
theorem nextGo_end (n : Nat) : ∀ (j m : Nat) (p : List Bool), p.length = n → nextGo n (n + j) (p ++ (List.replicate j true ++ List.replicate m false)) = ([], false)
  | 0, m, p, hp => by
    rw [Nat.add_zero]
    cases n with
    | zero => rfl
    | succ k => conv => lhs; unfold nextGo
                rw [if_neg (by omega)]
  | j + 1, m, p, hp => by
    have e : p ++ (List.replicate (j + 1) true ++ List.replicate m false) = (p ++ List.replicate j true) ++ true :: List.replicate m false := by rw [rep_snoc]; simp
    have hl : (p ++ List.replicate j true).length = n + j := by simp; omega
    rw [show n + (j + 1) = (p ++ List.replicate j true).length + 1 by omega, e]
    unfold nextGo
    rw [if_pos (by omega), getD_mid, if_pos rfl, set_mid, hl]
    have ih := nextGo_end n j (m + 1) p hp
    rw [List.replicate_succ] at ih
    rw [show (p ++ List.replicate j true) ++ false :: List.replicate m false = p ++ (List.replicate j true ++ false :: List.replicate m false) by simp, ih]
theorem next_mid {n m : Nat} {q : List Bool} (hq : n ≤ q.length) : next18 (q ++ false :: List.replicate m true) n = (q ++ true :: List.replicate m false, true) := by
  have h := nextGo_mid n m 0 q hq
  simp only [List.replicate_zero, List.append_nil, Nat.add_zero] at h
  unfold next18
  rw [show (q ++ false :: List.replicate m true).length = q.length + 1 + m by simp; omega, h]
theorem next_end {n m : Nat} {p : List Bool} (hp : p.length = n) : next18 (p ++ List.replicate m true) n = ([], false) := by
  have h := nextGo_end n m 0 p hp
  simp only [List.replicate_zero, List.append_nil] at h
  unfold next18
  rw [show (p ++ List.replicate m true).length = n + m by simp [hp], h]

/-- all lists of m more rests, in order -/
def allR (p : List Bool) : Nat → List (List Bool)
  | 0 => [p]
  | m + 1 => allR (p ++ [false]) m ++ allR (p ++ [true]) m
theorem mem_allR : ∀ (m : Nat) (p c : List Bool), c ∈ allR p m ↔ c.length = p.length + m ∧ p <+: c
  | 0, p, c => by
    show c ∈ [p] ↔ _
    simp only [List.mem_cons, List.not_mem_nil, or_false]
    constructor
    · rintro rfl; exact ⟨rfl, List.prefix_refl _⟩
    · rintro ⟨h1, h2⟩; exact (h2.eq_of_length (by omega)).symm
  | m + 1, p, c => by
    show c ∈ allR (p ++ [false]) m ++ allR (p ++ [true]) m ↔ _
    rw [List.mem_append, mem_allR m, mem_allR m]
    constructor
    · rintro (⟨h1, h2⟩ | ⟨h1, h2⟩)
      · exact ⟨by simp at h1; omega, (List.prefix_append _ _).trans h2⟩
      · exact ⟨by simp at h1; omega, (List.prefix_append _ _).trans h2⟩
    · rintro ⟨h1, s, rfl⟩
      cases s with
      | nil => simp at h1
      | cons b s =>
        cases b
        · exact .inl ⟨by simp at h1 ⊢; omega, ⟨s, by simp⟩⟩
        · exact .inr ⟨by simp at h1 ⊢; omega, ⟨s, by simp⟩⟩
def bestF (x : Instance) (r : Route) (l : List (List Bool)) (b : Sheet × Bool) : Sheet × Bool := l.foldl (fun b c => bestStep x r c b) b
theorem bestGo_all {x : Instance} {r : Route} {n : Nat} : ∀ (m : Nat) (p : List Bool) (b : Sheet × Bool), n ≤ p.length →
    bestGo x r n (remB (p ++ List.replicate m false, true)) (p ++ List.replicate m false, true) b = bestGo x r n (remB (next18 (p ++ List.replicate m true) n)) (next18 (p ++ List.replicate m true) n) (bestF x r (allR p m) b)
  | 0, p, b, hp => (bestGo_step (x := x) (r := r) (m := n) (c := (p ++ List.replicate 0 false, true)) (b := b) rfl).1.trans (by simp only [List.replicate_zero, List.append_nil]; rfl)
  | m + 1, p, b, hp => by
    have h1 := bestGo_all (x := x) (r := r) (n := n) m (p ++ [false]) b (by simp; omega)
    have h2 := bestGo_all (x := x) (r := r) (n := n) m (p ++ [true]) (bestF x r (allR (p ++ [false]) m) b) (by simp; omega)
    rw [show p ++ [false] ++ List.replicate m false = p ++ List.replicate (m + 1) false by simp [List.replicate_succ]] at h1
    rw [show p ++ [false] ++ List.replicate m true = p ++ false :: List.replicate m true by simp, next_mid hp] at h1
    rw [show p ++ [true] ++ List.replicate m false = p ++ true :: List.replicate m false by simp] at h2
    rw [show p ++ [true] ++ List.replicate m true = p ++ List.replicate (m + 1) true by simp [List.replicate_succ]] at h2
    rw [h1, h2]
    unfold bestF
    rw [show allR p (m + 1) = allR (p ++ [false]) m ++ allR (p ++ [true]) m from rfl, List.foldl_append]
def restsN (r : Route) : Nat := r.visits.length + 1 - r.rests.length
/-- what best18 finds -/
theorem best_all {x : Instance} {r : Route} (hp : possible18 x r = true) (hr : r.rests.length ≤ r.visits.length + 1) (hz : (run18 x r (rests0 r)).2.2 ≠ 0 → (run18 x r (rests0 r)).1 = zeroSheet) :
    best18 x r = bestEnd (bestF x r (allR r.rests (restsN r)) (zeroSheet, false)) (run18 x r (rests0 r)).2.2 := by
  have e : best18 x r = _ := if_neg (by rw [hp]; simp; omega)
  rw [e]
  have hb : ((run18 x r (rests0 r)).1, (run18 x r (rests0 r)).2.2 == 0) = bestStep x r (rests0 r) (zeroSheet, false) := by
    unfold bestStep
    by_cases h : (run18 x r (rests0 r)).2.2 = 0
    · rw [if_pos (by rw [h]; rfl), h]; rfl
    · rw [if_neg (by simp [h]), hz h]
      have : ((run18 x r (rests0 r)).2.2 == 0) = false := by simpa using h
      rw [this]
  rw [hb]
  have hs := (bestGo_step (x := x) (r := r) (m := r.rests.length) (c := (rests0 r, true)) (b := (zeroSheet, false)) rfl).1
  have ha := bestGo_all (x := x) (r := r) (n := r.rests.length) (restsN r) r.rests (zeroSheet, false) (Nat.le_refl _)
  have e0 : r.rests ++ List.replicate (restsN r) false = rests0 r := rfl
  rw [e0] at ha
  rw [← hs, ha, next_end rfl, bestGo_done rfl]
theorem bestF_2 {x : Instance} {r : Route} : ∀ (l : List (List Bool)) (b : Sheet × Bool), (bestF x r l b).2 = (b.2 || l.any fun c => (run18 x r c).2.2 == 0)
  | [], b => by simp [bestF]
  | c :: l, b => by
    have ih := bestF_2 (x := x) (r := r) l (bestStep x r c b)
    show (bestF x r l (bestStep x r c b)).2 = _
    rw [ih]
    unfold bestStep
    simp only [List.any_cons]
    cases h : (run18 x r c).2.2 == 0 <;> simp [h]
    cases hb : b.2 <;> simp [hb]
    split <;> simp [hb]
theorem best_err {x : Instance} {r : Route} (hp : possible18 x r = true) (hr : r.rests.length ≤ r.visits.length + 1) (hz : (run18 x r (rests0 r)).2.2 ≠ 0 → (run18 x r (rests0 r)).1 = zeroSheet) :
    (best18 x r).2 = if (allR r.rests (restsN r)).any (fun c => (run18 x r c).2.2 == 0) = true then 0 else (run18 x r (rests0 r)).2.2 := by
  rw [best_all hp hr hz]
  have h2 := bestF_2 (x := x) (r := r) (allR r.rests (restsN r)) (zeroSheet, false)
  simp only [Bool.false_or] at h2
  unfold bestEnd
  rw [h2]
  split <;> rfl
theorem keeps_prefix {p c : List Bool} (h : p.length ≤ c.length) : keeps p c ↔ p <+: c := by
  constructor
  · intro hk
    refine List.prefix_iff_getElem?.2 fun i hi => ?_
    have hc : i < c.length := by omega
    have hb := hk i c[i] (List.getElem?_eq_getElem hc)
    unfold choicesD at hb
    rw [if_pos hi] at hb
    simp only [List.mem_cons, List.not_mem_nil, or_false] at hb
    rw [List.getElem?_eq_getElem hc, hb]
    simp [List.getD, List.getElem?_eq_getElem hi]
  · rintro ⟨s, rfl⟩ i b hb
    unfold choicesD
    by_cases hi : i < p.length
    · rw [if_pos hi]
      rw [List.getElem?_append_left hi] at hb
      simp [List.getD, hb]
    · rw [if_neg hi]
      cases b <;> simp
theorem rests0_len {r : Route} (hr : r.rests.length ≤ r.visits.length + 1) : (rests0 r).length = r.visits.length + 1 := by unfold rests0; simp; omega
theorem ne_cons {bs : List Bool} {n : Nat} (h : bs.length = n + 1) : ∃ b cs, bs = b :: cs ∧ cs.length = n := by
  cases bs with
  | nil => simp at h
  | cons b cs => exact ⟨b, cs, rfl, by simpa using h⟩
/-- run18 by the program's steps -/
theorem run_D {x : Instance} {r : Route} {t : VType} {bs : List Bool} (hp : possible18 x r = true) (ht : x.types[r.type.toNat]? = some t) (hl : bs.length = r.visits.length + 1)
    (hs : ∀ v ∈ r.visits, (stop18 x v).1.start ≤ (stop18 x v).1.close) :
    match runD x t r bs 0 (lab0 t r) with
    | .error e => (run18 x r bs).1 = zeroSheet ∧ (run18 x r bs).2.2 = e
    | .ok l => (run18 x r bs).1 = l.sheet ∧ (run18 x r bs).2.2 = 0 := by
  obtain ⟨b, cs, rfl, hc⟩ := ne_cons hl
  have h := run_eq (b := b) hp ht hc hs
  have e := runV_D (x := x) (t := t) (r := r) (b :: cs) 0 (lab0 t r) (by simpa using hl) (Nat.zero_le _)
  have e : runV x t r.visits (b :: cs) t.src 0 (lab0 t r) = runD x t r (b :: cs) 0 (lab0 t r) := e
  rw [e] at h
  exact h
theorem nextV_err {x : Instance} {t : VType} {p : Int} {s : Stop} {k : Nat} {l : Lab} {b : Bool} {e : Int} (h : nextV x t p s k l b = .error e) : e ≠ 0 := by
  unfold nextV at h
  repeat' split at h
  all_goals first | (injection h with h; omega) | cases h
theorem nextE_err {x : Instance} {t : VType} {p : Int} {k : Nat} {l : Lab} {b : Bool} {e : Int} (h : nextE x t p k l b = .error e) : e ≠ 0 := by
  unfold nextE at h
  repeat' split at h
  all_goals first | (injection h with h; omega) | cases h
theorem runD_err {x : Instance} {t : VType} {r : Route} : ∀ (bs : List Bool) (k : Nat) (l : Lab) (e : Int), runD x t r bs k l = .error e → e ≠ 0
  | [], k, l, e, h => by cases h
  | b :: bs, k, l, e, h => by
    unfold runD at h
    cases hs : stepD x t r k l b with
    | error e' =>
      rw [hs] at h
      have h : (Except.error e' : Except Int Lab) = .error e := h
      injection h with h
      subst h
      unfold stepD at hs
      split at hs
      · exact nextV_err hs
      · exact nextE_err hs
    | ok l' => rw [hs] at h; exact runD_err bs (k + 1) l' e h
def errD (e : Except Int Lab) : Int := match e with | .error e => e | .ok _ => 0
/-- the reference's error by the program's search -/
theorem best_dp {x : Instance} {r : Route} {t : VType} (hB : RouteB x t r) (hp : possible18 x r = true) (ht : x.types[r.type.toNat]? = some t) (hr : r.rests.length ≤ r.visits.length + 1)
    (hs : ∀ v ∈ r.visits, (stop18 x v).1.start ≤ (stop18 x v).1.close) :
    (best18 x r).2 = match dpL x t r (r.visits.length + 1) with
      | [] => errD (runD x t r (rests0 r) 0 (lab0 t r))
      | _ :: _ => 0 := by
  have h0 := run_D (bs := rests0 r) hp ht (rests0_len hr) hs
  have hz : (run18 x r (rests0 r)).2.2 ≠ 0 → (run18 x r (rests0 r)).1 = zeroSheet := by
    intro hne
    cases hd : runD x t r (rests0 r) 0 (lab0 t r) with
    | error e => rw [hd] at h0; exact h0.1
    | ok l => rw [hd] at h0; exact absurd h0.2 hne
  have e0 : (run18 x r (rests0 r)).2.2 = errD (runD x t r (rests0 r) 0 (lab0 t r)) := by
    cases hd : runD x t r (rests0 r) 0 (lab0 t r) with
    | error e => rw [hd] at h0; exact h0.2
    | ok l => rw [hd] at h0; exact h0.2
  rw [best_err hp hr hz, e0]
  cases hdp : dpL x t r (r.visits.length + 1) with
  | nil =>
    rw [if_neg]
    rw [List.any_eq_true]
    rintro ⟨c, hc, he⟩
    obtain ⟨hc1, hc2⟩ := (mem_allR _ _ _).1 hc
    have hcl : c.length = r.visits.length + 1 := by unfold restsN at hc1; omega
    obtain ⟨e, hed⟩ := (dp_nil hB).1 hdp c hcl ((keeps_prefix (by omega)).2 hc2)
    have h1 := run_D (bs := c) hp ht hcl hs
    rw [hed] at h1
    have h2 : (run18 x r c).2.2 = 0 := by simpa using he
    exact runD_err _ _ _ _ hed (h1.2.symm.trans h2)
  | cons l ls =>
    rw [if_pos]
    rw [List.any_eq_true]
    obtain ⟨bs, h1, h2, h3⟩ := dp_sound (r.visits.length + 1) l (by rw [hdp]; simp)
    refine ⟨bs, (mem_allR _ _ _).2 ⟨by unfold restsN; omega, (keeps_prefix (by omega)).1 h2⟩, ?_⟩
    have hd := run_D (bs := bs) hp ht h1 hs
    rw [h3] at hd
    rw [hd.2]; rfl
end Go.Proofs.YtbefdpmjpioijaaGreatDoor.Sq
