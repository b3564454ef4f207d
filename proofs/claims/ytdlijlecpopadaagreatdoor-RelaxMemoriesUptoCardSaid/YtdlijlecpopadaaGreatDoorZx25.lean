/- Texts joined by a program: SqF, SqJ, SqO, SqR, AuA, AuE, AuF. -/
import Derived.Test.YtdlijlecpopadaaGreatDoorZx24

section
set_option linter.unusedSimpArgs false
set_option linter.unusedVariables false
namespace Go.Proofs.YtdlijlecpopadaaGreatDoor.Sq
open Go.Aw Go.Aw.D Go.Proofs Ty
open Mv (convI convB NC.pc take_allP)
open Mv (convI convB convA NC.pc take_allP)
set_option maxRecDepth 100000
def place09 (n : Network) (i : Int) : Bool := decide (i ≥ 0) && decide (i < (n.places.length : Int))
def zeroArc : Arc := ⟨0, 0, 0, 0, [], []⟩
def arcIs (p f t : Int) (a : Arc) : Bool := a.src == f && a.dst == t && a.profile == p
def find09 (n : Network) (p f t : Int) : Option Arc := n.arcs.find? (arcIs p f t)
theorem find_hit {α : Type} {p : α → Bool} {l : List α} {k : Nat} {x : α} (h : ∀ y ∈ l.take k, p y = false) (hk : l[k]? = some x) (hx : p x = true) : l.find? p = some x := by
  induction l generalizing k with
  | nil => simp at hk
  | cons a r ih =>
    cases k with
    | zero => simp at hk; subst hk; simp [List.find?, hx]
    | succ k =>
      have h0 := h a (by simp)
      rw [List.find?_cons, h0]
      exact ih (k := k) (fun y hy => h y (by simp [hy])) (by simpa using hk)
theorem find_miss {α : Type} {p : α → Bool} {l : List α} (h : ∀ y ∈ l, p y = false) : l.find? p = none := List.find?_eq_none.2 fun y hy => by rw [h y hy]; simp
def W (n : Int) : Int := IntKind.i64.wrap n
def segIs (l : List Point) (t : Int) (k : Nat) : Bool := decide ((ptAt l k).t ≤ t) && decide (t < (ptAt l (k + 1)).t)
def segV (p q : Point) (t : Int) : Int := W (p.a + IntKind.i64.wrap (Int.tdiv (W (W (W (W (W (t - p.t) * W (q.a - p.a)) + q.t) - p.t) - 1)) (W (q.t - p.t))))
def endV (e : Point) (t : Int) : Int := W (W (t + e.a) - e.t)
def badArr (l : List Point) (t : Int) : Bool := decide (((travelR l).length : Int) > 0) || decide (t < 0) || decide (t > 1073741824)
def arrive07 (l : List Point) (t : Int) : Int :=
  if badArr l t = true then 0 else match (List.range (l.length - 1)).find? (segIs l t) with
  | some k => segV (ptAt l k) (ptAt l (k + 1)) t
  | none => if decide (t > (ptAt l 0).t) = true then endV (ptAt l (l.length - 1)) t else endV (ptAt l 0) t
def i64B (n : Int) : Prop := -9223372036854775808 ≤ n ∧ n ≤ 9223372036854775807
theorem wrap_nz {n : Int} (h : 0 < n ∧ n < 18446744073709551616) : ¬ IntKind.i64.wrap n = 0 := by
  show ¬ (if (true && decide (n % 18446744073709551616 ≥ 9223372036854775808)) = true then n % 18446744073709551616 - 18446744073709551616 else n % 18446744073709551616) = 0
  by_cases h1 : n % 18446744073709551616 ≥ 9223372036854775808
  · rw [if_pos (by simpa using h1)]; omega
  · rw [if_neg (by simpa using h1)]; omega
end Go.Proofs.YtdlijlecpopadaaGreatDoor.Sq
end

section
set_option linter.unusedSimpArgs false
set_option linter.unusedVariables false
namespace Go.Proofs.YtdlijlecpopadaaGreatDoor.Sq
open Go.Aw Go.Aw.D Go.Proofs Ty
open Mv (convI convB convA NC.pc take_allP)
set_option maxRecDepth 100000
def slowS (t : Int) (s : Int) (p : Point) : Int := if decide (p.t ≤ t) = true then W (s + p.a) else s
def arrive09 (a : Arc) (t : Int) : Int := a.slow.foldl (slowS t) (arrive07 a.travel t)
structure ArcB (a : Arc) : Prop where
  travel : a.travel.length ≤ 1048576
  slow : a.slow.length ≤ 1048576
  time : ∀ p ∈ a.travel, i64B p.t
structure NetB (n : Network) : Prop where
  arcs : n.arcs.length ≤ 1048576
  arc : ∀ a ∈ n.arcs, ArcB a
def go09 (n : Network) (p f t time : Int) : Int × Int × Int :=
  if (!place09 n f || !place09 n t) = true then (0, 0, 11) else if (f == t) = true then (time, 0, 0)
  else match find09 n p f t with | some a => (arrive09 a time, a.miles, 0) | none => (0, 0, 12)
structure Score where
  cost : Int
  moved : Int
  other : Int
  work : Int
def zeroStop : Stop := ⟨0, 0, 0, 0⟩
def stopO (o : Order) (v : Visit) : Stop := if v.drop = true then o.drop else o.pick
def stop18 (x : Instance) (v : Visit) : Stop × Bool := if badNo v.order x.orders.length = true then (zeroStop, false) else
  match x.orders[v.order.toNat]? with
  | some o => (stopO o v, decide ((stopO o v).place ≥ 0))
  | none => (zeroStop, false)
structure St8 where
  place : Int
  time : Int
  driven : Int
  miles : Int
end Go.Proofs.YtdlijlecpopadaaGreatDoor.Sq
end

section
set_option linter.unusedSimpArgs false
set_option linter.unusedVariables false
namespace Go.Proofs.YtdlijlecpopadaaGreatDoor.Sq
open Go.Aw Go.Aw.D Go.Proofs Ty
open Mv (convI convB convA NC.pc take_allP)
set_option maxRecDepth 100000
structure Tm where
  arrive : Int
  begin_ : Int
  depart : Int
  rest : Bool
structure Sheet where
  rest : Bool
  depart : Int
  times : List Tm
  end_ : Int
  miles : Int
theorem keepS {H : Heap} {i j : Nat} {r : Row} {b : Option Row} (hi : H i = some r) (h1 : i ≠ j) : updH H j b i = some r := by rw [updH_ne _ _ _ _ h1, hi]
abbrev stopRow (s : Stop) : Row := ⟨141, 4, [encStop s]⟩
abbrev intRow (l : List Int) : Row := ⟨3, 1, l.map encInt⟩
abbrev zeroCells : List AV := [boo false, int 0, .sl [], int 0, int 0]
end Go.Proofs.YtdlijlecpopadaaGreatDoor.Sq
end

section
set_option linter.unusedSimpArgs false
set_option linter.unusedVariables false
namespace Go.Proofs.YtdlijlecpopadaaGreatDoor.Sq
open Go.Aw Go.Aw.D Go.Proofs Ty
open Mv (convI convB convA NC.pc take_allP)
set_option maxRecDepth 100000
structure InsB (x : Instance) : Prop where
  net : NetB x.net
  types : x.types.length ≤ 1048576
  orders : x.orders.length ≤ 1048576
  apart : x.apart.length ≤ 1048576
  before : x.before.length ≤ 1048576
structure PlanB (p : Plan) : Prop where
  routes : p.routes.length ≤ 1048576
  visits : ∀ r ∈ p.routes, r.visits.length ≤ 1048576
  unserved : p.unserved.length ≤ 1048576
theorem adraw_join {P : Program} {C : CallP} {PC : FuncId → List AV → Heap → AV → Prop} {mt : Nat → Bool} {ops : Array Oper} {K : Env → Heap → Prop} {m : Nat} {ρ : Env} {H : Heap} (J : Env → Heap → Prop) (h1 : ∀ ρ H, J ρ H → K ρ H)
    (h2 : ∀ K' : Env → Heap → Prop, (∀ ρ H, J ρ H → K' ρ H) → adraw P C PC mt ops K' m ρ H) : adraw P C PC mt ops K m ρ H := h2 K h1
end Go.Proofs.YtdlijlecpopadaaGreatDoor.Sq
end

section
set_option linter.unusedSimpArgs false
set_option linter.unusedVariables false
namespace Go.Proofs.YtdlijlecpopadaaGreatDoor.Sq
open Go.Aw Go.Aw.D Go.Proofs Ty
open Mv (convI convB convA NC.pc take_allP)
set_option maxRecDepth 100000
theorem idxF_any {α : Type} {p : α → Bool} : ∀ (l : List α) (n : Int), 0 ≤ n → decide (idxF p l n ≥ 0) = l.any p
  | [], n, _ => rfl
  | a :: r, n, hn => by
    have ih := idxF_any (p := p) r (n + 1) (by omega)
    rw [Bool.eq_iff_iff] at ih ⊢
    simp only [decide_eq_true_eq] at ih ⊢
    rw [List.any_cons, Bool.or_eq_true, ← ih]
    by_cases h : p a = true
    · rw [show idxF p (a :: r) n = n from if_pos h]; exact ⟨fun _ => .inl h, fun _ => hn⟩
    · rw [show idxF p (a :: r) n = idxF p r (n + 1) from if_neg h]; exact ⟨fun x => .inr x, fun x => x.resolve_left h⟩
theorem encInts_len' (l : List Int) : (encInts l).length = 1 := (rfl)
attribute [go_sem] encInts_len'
theorem there_c (l : List Order) (k : Int) : PC Tryz.prog 122 [.sl (l.map encOrder), int k] (boo (!badNo k l.length)) := by
  refine PC.body (c := Tryz.f122.body.getD .skip) (fun _ => false) mixed Tryz.func122 rfl (by kernel_rfl) ?_
  unfold Tryz.f122
  simp only [Option.getD_some]
  simp only [go_sem]
  refine convB ?_
  unfold badNo
  rw [Bool.eq_iff_iff]; simp
theorem all_hit {α : Type} {p : α → Bool} {l : List α} {k : Nat} {x : α} (hk : l[k]? = some x) (hx : p x = false) : l.all p = false := by
  rw [List.all_eq_false]
  exact ⟨x, List.mem_of_getElem? hk, by simp [hx]⟩
theorem and1 (x : Int) : bitV .and .i64 x 1 = x % 2 := by
  have h : ((BitVec.ofInt 64 x &&& BitVec.ofInt 64 1).toNat : Int) = x % 2 := by
    rw [BitVec.toNat_and, BitVec.toNat_ofInt, BitVec.toNat_ofInt]
    have : ((1 : Int) % ((2 ^ 64 : Nat) : Int)).toNat = 1 := by decide
    rw [this, Nat.and_one_is_mod]
    omega
  refine Eq.trans (congrArg IntKind.i64.wrap h) ?_
  exact wrap_in (by omega)
theorem or_nat {a b : Nat} (ha : a < 2 ^ 63) (hb : b < 2 ^ 63) : bitV .or .i64 (a : Int) (b : Int) = ((a ||| b : Nat) : Int) := by
  have h : ((BitVec.ofInt 64 (a : Int) ||| BitVec.ofInt 64 (b : Int)).toNat : Int) = ((a ||| b : Nat) : Int) := by
    rw [BitVec.toNat_or, BitVec.toNat_ofInt, BitVec.toNat_ofInt]
    have h1 : ((a : Int) % ((2 ^ 64 : Nat) : Int)).toNat = a := by omega
    have h2 : ((b : Int) % ((2 ^ 64 : Nat) : Int)).toNat = b := by omega
    rw [h1, h2]
  refine Eq.trans (congrArg IntKind.i64.wrap h) ?_
  have := Nat.or_lt_two_pow ha hb
  exact wrap_in (by omega)
theorem shr_in {x : Int} {i : Nat} (h : i ≤ 62) : shV .shr .i64 x (i : Int) = x / 2 ^ i := by
  show x.fdiv (2 ^ min ((i : Int)).toNat 64) = _
  have : min ((i : Int)).toNat 64 = i := by omega
  rw [this, Int.fdiv_eq_ediv_of_nonneg _ (by exact Int.le_of_lt (Int.pow_pos (by decide)))]
theorem shl_in {i : Nat} (h : i ≤ 62) : shV .shl .i64 1 (i : Int) = ((2 ^ i : Nat) : Int) := by
  show IntKind.i64.wrap (1 * 2 ^ min ((i : Int)).toNat 64) = _
  have : min ((i : Int)).toNat 64 = i := by omega
  rw [this, Int.one_mul]
  have h2 : (2 : Nat) ^ i ≤ 2 ^ 62 := Nat.pow_le_pow_right (by decide) h
  have h3 : ((2 : Int) ^ i) = ((2 ^ i : Nat) : Int) := by norm_cast
  rw [h3]
  generalize 2 ^ i = m at h2
  exact wrap_in (by omega)
def hasR (set i : Int) : Bool := decide (i ≥ 0) && decide (i ≤ 62) && ((set / 2 ^ i.toNat) % 2 == 1)
theorem sHas_c (set i : Int) : PC Tryz.prog 80 [int set, int i] (boo (hasR set i)) := by
  refine PC.body (c := Tryz.f80.body.getD .skip) (fun _ => false) mixed Tryz.func80 rfl (by kernel_rfl) ?_
  unfold Tryz.f80
  simp only [Option.getD_some]
  simp only [go_sem]
  refine ⟨fun h => ?_, ?_⟩
  · simp at h; omega
  · refine convB ?_
    unfold hasR
    rw [and1]
    by_cases h : 0 ≤ i ∧ i ≤ 62
    · obtain ⟨h0, h1⟩ := h
      have e := shr_in (x := set) (i := i.toNat) (by omega)
      rw [Int.toNat_of_nonneg h0] at e
      rw [e]
    · have : (decide (i ≥ 0) && decide (i ≤ 62)) = false := by simp; omega
      rw [this]; rfl
theorem uwrap_in' {n : Int} (h : 0 ≤ n ∧ n < 18446744073709551616) : IntKind.u64.wrap n = n := Mv.uwrap_in h
end Go.Proofs.YtdlijlecpopadaaGreatDoor.Sq
end

section
set_option linter.unusedSimpArgs false
set_option linter.unusedVariables false
namespace Go.Proofs.YtdlijlecpopadaaGreatDoor.Sq
open Go.Aw Go.Aw.D Go.Proofs Ty
open Mv (convI convB convA NC.pc take_allP)
set_option maxRecDepth 100000
def visitsO (o : Order) (i : Int) : List Visit := (if decide (o.pick.place ≥ 0) = true then [⟨i, false⟩] else []) ++ (if decide (o.drop.place ≥ 0) = true then [⟨i, true⟩] else [])
def visP (os : List Order) (i : Int) : List Visit := if badNo i os.length = true then [] else match os[i.toNat]? with | some o => visitsO o i | none => []
theorem visitsO_len (o : Order) (i : Int) : (visitsO o i).length ≤ 2 := by unfold visitsO; split <;> split <;> simp
theorem visP_len (os : List Order) (i : Int) : (visP os i).length ≤ 2 := by
  unfold visP
  split
  · simp
  · split
    · exact visitsO_len _ _
    · simp
theorem ovisits_c (os : List Order) (i : Int) : PC Tryz.prog 64 [.sl (os.map encOrder), int i] (.sl ((visP os i).map encVisit)) := by
  refine PC.body (c := Tryz.f64.body.getD .skip) (fun t => t == 5) mixed Tryz.func64 rfl (by kernel_rfl) ?_
  unfold Tryz.f64
  simp only [Option.getD_some]
  simp only [go_sem]
  refine anew_i fun j hj => ?_
  simp only [go_sem]
  refine PC.use (there_c os i) ?_
  simp only [go_sem]
  refine acond_i (fun h0 => ?_) (fun h0 => ?_)
  · have hb : badNo i os.length = true := by simpa using h0
    simp only [go_sem]
    rw [visP, if_pos hb]
    exact .refl _
  have hb : badNo i os.length = false := by simpa using h0
  have b0 : 0 ≤ i ∧ i < (os.length : Int) := by simp only [badNo, Bool.or_eq_false_iff, decide_eq_false_iff_not] at hb; omega
  obtain ⟨o, ho⟩ := getIn (show i.toNat < os.length by omega)
  rw [visP, if_neg (by rw [hb]; simp), ho]
  simp only [go_sem, getD_map ho, b0]
  refine acond_i (fun h1 => ?_) (fun h1 => ?_)
  · simp only [go_sem, getD_map ho, b0]
    refine wappE_i (updH_same _ _ _) ⟨rfl, rfl⟩ ⟨rfl, trivial⟩ (by simp) (fun j' hj' => ?_)
    simp only [go_sem, getD_map ho, b0]
    refine acond_i (fun h2 => ?_) (fun h2 => ?_)
    · simp only [go_sem, getD_map ho, b0]
      refine wappE_i (updH_same _ _ _) ⟨rfl, rfl⟩ ⟨rfl, trivial⟩ (by simp) (fun j2 hj2 => ?_)
      simp only [go_sem]
      have e : visitsO o i = [⟨i, false⟩, ⟨i, true⟩] := by unfold visitsO; rw [if_pos h1, if_pos h2]; rfl
      rw [e]
      exact .row _ _ _ (updH_same _ _ _) (ConvE.refl _)
    · simp only [go_sem]
      have e : visitsO o i = [⟨i, false⟩] := by unfold visitsO; rw [if_pos h1, if_neg (by rw [h2]; simp)]; rfl
      rw [e]
      exact .row _ _ _ (updH_same _ _ _) (ConvE.refl _)
  · simp only [go_sem, getD_map ho, b0]
    refine acond_i (fun h2 => ?_) (fun h2 => ?_)
    · simp only [go_sem, getD_map ho, b0]
      refine wappE_i (updH_same _ _ _) ⟨rfl, rfl⟩ ⟨rfl, trivial⟩ (by simp) (fun j2 hj2 => ?_)
      simp only [go_sem]
      have e : visitsO o i = [⟨i, true⟩] := by unfold visitsO; rw [if_neg (by rw [h1]; simp), if_pos h2]; rfl
      rw [e]
      exact .row _ _ _ (updH_same _ _ _) (ConvE.refl _)
    · simp only [go_sem]
      have e : visitsO o i = [] := by unfold visitsO; rw [if_neg (by rw [h1]; simp), if_neg (by rw [h2]; simp)]; rfl
      rw [e]
      exact .row _ _ _ (updH_same _ _ _) (ConvE.refl _)
def stopV (x : Instance) (v : Visit) : Stop × Int := if (stop18 x v).2 = true then ((stop18 x v).1, 0) else (zeroStop, if badNo v.order x.orders.length = true then 2 else 19)
theorem ostop_c (x : Instance) (v : Visit) : PC Tryz.prog 91 [.sl (x.orders.map encOrder), .agg (encVisit v)] (.tup [.agg (encStop (stopV x v).1), int (stopV x v).2]) := by
  refine PC.body (c := Tryz.f91.body.getD .skip) (fun _ => false) mixed Tryz.func91 rfl (by kernel_rfl) ?_
  unfold Tryz.f91
  simp only [Option.getD_some]
  simp only [go_sem]
  refine anew_i fun i4 hi40 => ?_
  generalize hGi4 : updH _ i4 _ = HGi4
  have R4 : HGi4 i4 = some (stopRow zeroStop) := by rw [← hGi4, updH_same]; try rfl
  clear hGi4 hi40
  simp only [go_sem, R4]
  refine PC.use (there_c x.orders v.order) ?_
  simp only [go_sem]
  refine acond_i (fun h1 => ?_) (fun h1 => ?_)
  · have h1 : badNo v.order x.orders.length = true := by simpa using h1
    have e : stopV x v = (zeroStop, 2) := by unfold stopV stop18; rw [if_pos h1, if_pos h1]; rfl
    rw [e]
    simp only [go_sem]
    refine wputE_n R4 (by simp) ?_
    simp only [go_sem]
    exact .refl _
  have h1 : badNo v.order x.orders.length = false := by simpa using h1
  have hin : 0 ≤ v.order ∧ v.order < (x.orders.length : Int) := by
    simp only [badNo, Bool.or_eq_false_iff, decide_eq_false_iff_not] at h1; omega
  obtain ⟨o, ho⟩ := getIn (show v.order.toNat < x.orders.length by omega)
  have e0 : stop18 x v = (stopO o v, decide ((stopO o v).place ≥ 0)) := by unfold stop18; rw [if_neg (by rw [h1]; simp), ho]
  have e : stopV x v = if (stopO o v).place < 0 then (zeroStop, 19) else (stopO o v, 0) := by
    unfold stopV
    rw [e0, if_neg (show ¬ badNo v.order x.orders.length = true by rw [h1]; simp)]
    by_cases h : (stopO o v).place < 0
    · rw [if_pos h, if_neg (by simp; omega)]
    · rw [if_neg h, if_pos (by simp; omega)]
  rw [e]
  simp only [go_sem, getD_map ho, hin]
  refine anew_i fun i6 hi60 => ?_
  have ne_i4_i6 : i4 ≠ i6 := ne_new R4 hi60
  simp only [go_sem, R4]
  refine wputE_n (updH_same _ _ _) (by simp [encStop_len]) ?_
  generalize hGi6 : updH (updH _ i6 _) i6 _ = HGi6
  replace R4 := (congrFun hGi6.symm i4).trans ((updH_ne _ _ _ _ ne_i4_i6).trans ((updH_ne _ _ _ _ ne_i4_i6).trans R4))
  have R6 : HGi6 i6 = some (stopRow o.pick) := by rw [← hGi6, updH_same]; try rfl
  clear hGi6 hi60
  simp only [go_sem, R6, R4]
  refine acond_join (fun ρ' H' => ρ' 4 = .op i4 0 0 ∧ ρ' 6 = .op i6 0 0 ∧ H' i4 = some (stopRow zeroStop) ∧ H' i6 = some (stopRow (stopO o v))) ?_ fun K hK => acond_i (fun hb => ?_) (fun hb => ?_)
  · clear R4 R6
    rintro ρ H ⟨h4, h6, R4, R6⟩
    simp only [go_sem, h4, h6, R6]
    refine acond_i (fun hp => ?_) (fun hp => ?_)
    · have hp : (stopO o v).place < 0 := by simpa using hp
      rw [if_pos hp]
      simp only [go_sem, h4]
      refine wputE_n R4 (by simp) ?_
      simp only [go_sem, h4]
      exact .refl _
    · have hp : ¬ (stopO o v).place < 0 := by simpa using hp
      rw [if_neg hp]
      simp only [go_sem, h4, h6, R6]
      refine wputE_n R4 (by simp [encStop_len]) ?_
      simp only [go_sem, h4]
      exact .refl _
  · simp only [go_sem, getD_map ho, hin]
    refine wputE_n R6 (by simp [encStop_len]) ?_
    simp only [go_sem]
    refine hK _ _ ⟨by simp only [go_sem], by simp only [go_sem], by rw [updH_ne _ _ _ _ ne_i4_i6]; exact R4, ?_⟩
    rw [updH_same, stopO, if_pos hb]; rfl
  · simp only [go_sem]
    refine hK _ _ ⟨by simp only [go_sem], by simp only [go_sem], R4, ?_⟩
    rw [stopO, if_neg (by rw [hb]; simp)]; exact R6
end Go.Proofs.YtdlijlecpopadaaGreatDoor.Sq
end

section
set_option linter.unusedSimpArgs false
set_option linter.unusedVariables false
namespace Go.Proofs.YtdlijlecpopadaaGreatDoor.Sq
open Go.Aw Go.Aw.D Go.Proofs Ty
open Mv (convI convB convA NC.pc take_allP)
set_option maxRecDepth 100000
def memU (set : Int) (k : Nat) : List Int := ((List.range k).filter fun i : Nat => hasR set (i : Int)).map fun i : Nat => (i : Int)
def memS (set : Int) : List Int := memU set 63
def plusI (a b : Int) : Int := W (a + b)
def minusI (a b : Int) : Int := W (a - b)
theorem plus_c (a b : Int) : PC Tryz.prog 190 [int a, int b] (int (plusI a b)) := by
  refine PC.body (c := Tryz.f190.body.getD .skip) (fun _ => false) mixed Tryz.func190 rfl (by kernel_rfl) ?_
  unfold Tryz.f190
  simp only [Option.getD_some]
  simp only [go_sem]
  exact .refl _
theorem minus_c (a b : Int) : PC Tryz.prog 191 [int a, int b] (int (minusI a b)) := by
  refine PC.body (c := Tryz.f191.body.getD .skip) (fun _ => false) mixed Tryz.func191 rfl (by kernel_rfl) ?_
  unfold Tryz.f191
  simp only [Option.getD_some]
  simp only [go_sem]
  exact .refl _
theorem set_prog {α : Type} {l : List α} {k n : Nat} {x z : α} (hl : l.length = n) (h : l[k]? = some x) : (l.take k ++ List.replicate (n - k) z).set k x = l.take (k + 1) ++ List.replicate (n - (k + 1)) z := by
  have hlt := (List.getElem?_eq_some_iff.1 h).1
  have e : n - k = (n - (k + 1)) + 1 := by omega
  rw [take_succ h, e, List.replicate_succ, List.set_append_right _ _ (by simp; omega)]
  have : k - (l.take k).length = 0 := by simp; omega
  rw [this, List.set_cons_zero]
  simp
theorem combine_n {g : Nat} {op : Int → Int → Int} (a b : List Int) (hl : a.length ≤ 1048576) (hab : a.length = b.length) (hok : callOk Tryz.prog g = true) (hg : ∀ p q, PC Tryz.prog g [int p, int q] (int (op p q))) :
    NC Tryz.prog 189 [.sl (a.map encInt), .sl (b.map encInt), .v (.func (.func g) #[] #[])] (intRow (List.zipWith op a b)) (fun j => .tup [.os j, int 0]) := by
  have hzl : (List.zipWith op a b).length = a.length := by rw [List.length_zipWith, ← hab, Nat.min_self]
  refine NC.body (c := Tryz.f189.body.getD .skip) (fun _ => false) mixed Tryz.func189 rfl (by kernel_rfl) ?_
  unfold Tryz.f189
  simp only [Option.getD_some]
  simp only [go_sem]
  refine acond_i (fun hb => by rw [hab] at hb; simp at hb) (fun _ => ?_)
  simp only [go_sem]
  refine ⟨⟨by omega, by omega⟩, anew_i fun j hj => ?_⟩
  simp only [go_sem]
  refine ⟨fun ρ H => ∃ k : Nat, k ≤ a.length ∧ ρ 0 = .sl (a.map encInt) ∧ ρ 1 = .sl (b.map encInt) ∧ ρ 2 = .v (.func (.func g) #[] #[]) ∧ ρ 8 = .os j ∧ ρ 19 = int a.length ∧ ρ 20 = int k ∧ H j = some (intRow ((List.zipWith op a b).take k ++ List.replicate (a.length - k) 0)), fun ρ _ => a.length - natOf (ρ 20), ⟨0, Nat.zero_le _, rfl, rfl, rfl, rfl, by simp only [go_sem, List.length_map], rfl, ?_⟩, ?_⟩
  · rw [updH_same]
    simp [intRow, List.map_replicate, encInt]
  clear hj
  rintro ρ H ⟨k, hk, h0, h1, h2, h8, h19, h20, R⟩
  simp only [go_sem, h0, h1, h2, h8, h19, h20]
  refine acond_i (fun hlt => ?_) (fun hge => ?_)
  · have hlt := le_of_lt_b hlt
    obtain ⟨p, hp⟩ := getIn hlt
    obtain ⟨q, hq⟩ := getIn (show k < b.length by omega)
    have b1 := inB hlt
    have b2 := inB (show k < b.length by omega)
    simp only [go_sem, h0, h1, h2, h8, h19, h20]
    refine adraw_m [(0, true), (1, true), (2, true), (3, true), (4, true), (5, true), (6, true), (7, true), (8, false), (9, false), (10, false), (11, false), (12, false), (13, false)] (by kernel_rfl) ?_
    simp only [go_sem, h0, h1, h2, h8, h19, h20, getD_map hp, getD_map hq, b1, b2, hok]
    refine PC.use (hg p q) ?_
    have hlen : ((List.zipWith op a b).take k ++ List.replicate (a.length - k) 0 : List Int).length = a.length := by simp [hzl]; omega
    simp only [go_sem, h0, h1, h2, h8, h19, h20, R]
    refine ⟨⟨b1.1, by rw [hlen]; exact b1.2⟩, wputE_1 so3 R (by rw [List.length_map, hlen]; exact ⟨hlt, rfl, Nat.le_refl 1⟩) ?_⟩
    have hz : (List.zipWith op a b)[k]? = some (op p q) := by rw [List.getElem?_zipWith, hp, hq]
    have hk0 : k < ((List.zipWith op a b).take k ++ List.replicate (a.length - k) 0 : List Int).length := by omega
    obtain ⟨y, hy⟩ := getIn hk0
    have hs := set_prog (n := a.length) (z := (0 : Int)) hzl hz
    simp only [go_sem, h0, h1, h2, h8, h19, h20, getD_map hy, wrapS (show k ≤ 4611686018427387904 by omega)]
    refine ⟨⟨k + 1, hlt, rfl, ?_⟩, by simp only [natOf_int]; omega⟩
    rw [← hs]
    show _ = some (⟨3, 1, _⟩ : Row)
    rw [List.map_set]
    rfl
  · have hge := eq_of_ge_b hk hge
    subst hge
    simp only [go_sem, h8]
    refine ⟨j, rfl, ?_⟩
    rw [R, List.take_of_length_le (by omega)]
    simp
def addP (a b : List Int) : List Int := List.zipWith plusI a b
def subP (a b : List Int) : List Int := List.zipWith minusI a b
theorem add_n (a b : List Int) (hl : a.length ≤ 1048576) (hab : a.length = b.length) : NC Tryz.prog 149 [.sl (a.map encInt), .sl (b.map encInt)] (intRow (addP a b)) (fun j => .tup [.os j, int 0]) := by
  refine NC.body (c := Tryz.f149.body.getD .skip) (fun _ => false) mixed Tryz.func149 rfl (by kernel_rfl) ?_
  unfold Tryz.f149
  simp only [Option.getD_some]
  simp only [go_sem]
  refine NC.use (combine_n a b hl hab (by simp only [go_sem]) plus_c) fun j hj => ?_
  simp only [go_sem]
  exact ⟨j, rfl, updH_same _ _ _⟩
theorem sub_n (a b : List Int) (hl : a.length ≤ 1048576) (hab : a.length = b.length) : NC Tryz.prog 150 [.sl (a.map encInt), .sl (b.map encInt)] (intRow (subP a b)) (fun j => .tup [.os j, int 0]) := by
  refine NC.body (c := Tryz.f150.body.getD .skip) (fun _ => false) mixed Tryz.func150 rfl (by kernel_rfl) ?_
  unfold Tryz.f150
  simp only [Option.getD_some]
  simp only [go_sem]
  refine NC.use (combine_n a b hl hab (by simp only [go_sem]) minus_c) fun j hj => ?_
  simp only [go_sem]
  exact ⟨j, rfl, updH_same _ _ _⟩
theorem lfits_c (a c : List Int) (hl : a.length ≤ 1048576) : PC Tryz.prog 97 [.sl (a.map encInt), .sl (c.map encInt)] (boo (fits06 a c)) := by
  refine PC.body (c := Tryz.f97.body.getD .skip) (fun _ => false) mixed Tryz.func97 rfl (by kernel_rfl) ?_
  unfold Tryz.f97
  simp only [Option.getD_some]
  simp only [go_sem]
  refine acond_i (fun hb => ?_) (fun hb => ?_)
  · simp only [go_sem]
    refine convB ?_
    unfold fits06
    have : ((a.length : Int) == (c.length : Int)) = false := by simpa [bne] using hb
    rw [this]; rfl
  have hac : a.length = c.length := by simp [bne] at hb; omega
  simp only [go_sem]
  refine ⟨fun ρ _ => ∃ k : Nat, k ≤ a.length ∧ ρ 1 = .sl (c.map encInt) ∧ ρ 12 = .sl (a.map encInt) ∧ ρ 13 = int a.length ∧ ρ 14 = int k ∧ ∀ i ∈ (List.range a.length).take k, decide (a.getD i 0 > c.getD i 0) = false, fun ρ _ => a.length - natOf (ρ 14), ⟨0, Nat.zero_le _, rfl, rfl, by simp only [go_sem, List.length_map], rfl, by simp⟩, ?_⟩
  rintro ρ H ⟨k, hk, h1, h12, h13, h14, hz⟩
  simp only [go_sem, h1, h12, h13, h14]
  refine acond_i (fun hlt => ?_) (fun hge => ?_)
  · have hlt := le_of_lt_b hlt
    obtain ⟨p, hp⟩ := getIn hlt
    obtain ⟨q, hq⟩ := getIn (show k < c.length by omega)
    have b1 := inB hlt
    have b2 := inB (show k < c.length by omega)
    have e1 : a.getD k 0 = p := by simp [List.getD, hp]
    have e2 : c.getD k 0 = q := by simp [List.getD, hq]
    simp only [go_sem, h1, h12, h13, h14, getD_map hp, getD_map hq, b1, b2]
    refine acond_i (fun hb' => ?_) (fun hb' => ?_)
    · simp only [go_sem]
      refine convB ?_
      unfold fits06
      symm
      rw [Bool.and_eq_false_iff]
      right
      exact all_hit (range_get hlt) (by rw [e1, e2, hb']; rfl)
    · simp only [go_sem, h1, h12, h13, h14, wrapS (show k ≤ 4611686018427387904 by omega)]
      exact ⟨⟨k + 1, hlt, rfl, take_allP (p := fun i => decide (a.getD i 0 > c.getD i 0) = false) (range_get hlt) (by rw [e1, e2]; exact hb') hz⟩, by simp only [natOf_int]; omega⟩
  · have hge := eq_of_ge_b hk hge
    subst hge
    simp only [go_sem]
    refine convB ?_
    unfold fits06
    symm
    rw [Bool.and_eq_true]
    refine ⟨by simp [hac], List.all_eq_true.2 fun i hi => ?_⟩
    rw [hz i (by rw [List.take_of_length_le (by simp)]; exact hi)]; rfl
def ableP (c s : Int) : Bool := (decide (c ≥ 0) && decide (s ≥ 0)) && (bitV .andNot .i64 s c == 0)
theorem able_c (t : VType) (s : Int) : PC Tryz.prog 88 [.agg (encVType t), int s] (boo (ableP t.skills s)) := by
  refine PC.body (c := Tryz.f88.body.getD .skip) (fun _ => false) mixed Tryz.func88 rfl (by kernel_rfl) ?_
  unfold Tryz.f88
  simp only [Option.getD_some]
  simp only [go_sem]
  exact .refl _
def startS (x : Instance) (s : List Int) (i : Int) : List Int := match x.orders[i.toNat]? with
  | some o => if decide (o.pick.place < 0) = true then addP s o.load else s
  | none => s
def startP (x : Instance) (set dims : Int) : List Int := (memS set).foldl (startS x) (List.replicate dims.toNat 0)
theorem foldl_take {α β : Type} {f : β → α → β} {l : List α} {k : Nat} {x : α} {b : β} (h : l[k]? = some x) : (l.take (k + 1)).foldl f b = f ((l.take k).foldl f b) x := by rw [take_succ h, List.foldl_append]; rfl
structure LoadB (x : Instance) : Prop where
  dims : 0 ≤ dims17 x ∧ dims17 x ≤ 1048576
  load : ∀ o ∈ x.orders, o.load.length = (dims17 x).toNat
  few : x.orders.length ≤ 63
end Go.Proofs.YtdlijlecpopadaaGreatDoor.Sq
end
