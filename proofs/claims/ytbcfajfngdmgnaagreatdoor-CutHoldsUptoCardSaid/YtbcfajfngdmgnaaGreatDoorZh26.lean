/- Texts joined by a program: SqF. -/
import Derived.Test.YtbcfajfngdmgnaaGreatDoorZh25

set_option linter.unusedSimpArgs false
set_option linter.unusedVariables false
namespace Go.Proofs.YtbcfajfngdmgnaaGreatDoor.Sq
open Go.Aw Go.Aw.D Go.Proofs Ty
open Mv (convI convB NC.pc take_allP)
open Mv (convI convB convA NC.pc take_allP)
set_option maxRecDepth 100000
def onS (i n : Int) (s : Bool × Bool) (kv : Nat × Visit) : Bool × Bool :=
  if (kv.2.order != i) = true then s else (if decide ((kv.1 : Int) < n) = true then !kv.2.drop else s.1, true)
def onAt (l : List Visit) (i n : Int) (b : Bool) : Bool × Bool := ((List.range l.length).map fun k => (k, l.getD k ⟨0, false⟩)).foldl (onS i n) (b, false)
def onTo (l : List Visit) (i n : Int) (b : Bool) (k : Nat) : Bool × Bool := ((List.range k).map fun k => (k, l.getD k ⟨0, false⟩)).foldl (onS i n) (b, false)
theorem onTo_succ {l : List Visit} {i n : Int} {b : Bool} {k : Nat} {v : Visit} (h : l[k]? = some v) : onTo l i n b (k + 1) = onS i n (onTo l i n b k) (k, v) := by
  unfold onTo
  rw [List.range_succ, List.map_append, List.foldl_append]
  simp [List.getD, h]
def onB (l : List Visit) (n : Int) (i : Nat) (o : Order) : Bool := (onAt l i n (decide (o.pick.place < 0))).1 && (onAt l i n (decide (o.pick.place < 0))).2
def boardTo (os : List Order) (l : List Visit) (n : Int) (k : Nat) : List (List Int) := (List.range k).flatMap fun i => match os[i]? with | some o => if onB l n i o = true then [o.load] else [] | none => []
theorem boardTo_succ {os : List Order} {l : List Visit} {n : Int} {k : Nat} {o : Order} (h : os[k]? = some o) : boardTo os l n (k + 1) = boardTo os l n k ++ (if onB l n k o = true then [o.load] else []) := by
  unfold boardTo
  rw [List.range_succ, List.flatMap_append]
  simp [h]
theorem boardTo_len (os : List Order) (l : List Visit) (n : Int) (k : Nat) : (boardTo os l n k).length ≤ k := by
  induction k with
  | zero => simp [boardTo]
  | succ k ih =>
    have : (boardTo os l n (k + 1)).length ≤ (boardTo os l n k).length + 1 := by
      unfold boardTo
      rw [List.range_succ, List.flatMap_append, List.length_append]
      simp only [List.flatMap_cons, List.flatMap_nil, List.append_nil]
      split
      · split <;> simp
      · simp
    omega
def after17 (x : Instance) (l : List Visit) (n : Int) : List Int × Int := sum06 (boardTo x.orders l n x.orders.length) (dims17 x)
abbrev llRow (ll : List (List Int)) : Row := ⟨51, 1, ll.map encInts⟩
theorem after17_c (x : Instance) (l : List Visit) (n : Int) (ho : x.orders.length ≤ 1048576) (hl : l.length ≤ 1048576) :
    PC Tryz.prog 298 [.agg (encInstance x), .sl (l.map encVisit), int n] (.tup [.sl ((after17 x l n).1.map encInt), int (after17 x l n).2]) := by
  refine PC.body (c := Tryz.f298.body.getD .skip) (fun t => t == 8) mixed Tryz.func298 rfl (by kernel_rfl) ?_
  unfold Tryz.f298
  simp only [Option.getD_some]
  simp only [go_sem]
  refine anew_i fun j hj => ?_
  simp only [go_sem]
  refine ⟨fun ρ H => ∃ i : Nat, i ≤ x.orders.length ∧ ρ 1 = .sl (l.map encVisit) ∧ ρ 2 = int n ∧ ρ 3 = .rp (encInstance x) 0 ∧ ρ 9 = int i ∧ ∃ j, ρ 8 = .os j ∧ H j = some (llRow (boardTo x.orders l n i)), fun ρ _ => x.orders.length - natOf (ρ 9), ⟨0, Nat.zero_le _, rfl, rfl, rfl, rfl, j, rfl, updH_same _ _ _⟩, ?_⟩
  clear hj
  rintro ρ H ⟨i, hi, h1, h2, h3, h9, j, h8, hj⟩
  simp only [go_sem, h1, h2, h3, h9, h8]
  refine acond_i (fun hlt => ?_) (fun hge => ?_)
  · have hlt := le_of_lt_b hlt
    obtain ⟨o, hok⟩ := getIn hlt
    have b1 := inB hlt
    simp only [go_sem, h1, h2, h3, h9, h8, getD_map hok, b1]
    refine ⟨fun ρ H => ∃ k : Nat, k ≤ l.length ∧ ρ 1 = .sl (l.map encVisit) ∧ ρ 2 = int n ∧ ρ 3 = .rp (encInstance x) 0 ∧ ρ 8 = .os j ∧ ρ 9 = int i ∧ ρ 10 = boo (onTo l i n (decide (o.pick.place < 0)) k).1 ∧ ρ 11 = boo (onTo l i n (decide (o.pick.place < 0)) k).2 ∧ ρ 12 = int k ∧ H j = some (llRow (boardTo x.orders l n i)), fun ρ _ => l.length - natOf (ρ 12), ⟨0, Nat.zero_le _, by simp only [go_sem, h1], by simp only [go_sem, h2], by simp only [go_sem, h3], by simp only [go_sem, h8], by simp only [go_sem, h9], by simp only [go_sem]; rfl, by simp only [go_sem]; rfl, by simp only [go_sem]; rfl, hj⟩, ?_⟩
    clear h1 h2 h3 h9 h8 hj
    rintro ρ H ⟨k, hk, h1, h2, h3, h8, h9, h10, h11, h12, hj⟩
    simp only [go_sem, h1, h2, h3, h8, h9, h10, h11, h12]
    refine acond_i (fun hlt2 => ?_) (fun hge2 => ?_)
    · have hlt2 := le_of_lt_b hlt2
      obtain ⟨v, hv⟩ := getIn hlt2
      have b2 := inB hlt2
      have hsucc := onTo_succ (i := i) (n := n) (b := decide (o.pick.place < 0)) hv
      simp only [go_sem, h1, h2, h3, h8, h9, h10, h11, h12, getD_map hv, b2]
      refine acond_i (fun hb => ?_) (fun hb => ?_)
      · simp only [go_sem, h1, h2, h3, h8, h9, h10, h11, h12, wrapS (show k ≤ 4611686018427387904 by omega)]
        have e : onTo l i n (decide (o.pick.place < 0)) (k + 1) = onTo l i n (decide (o.pick.place < 0)) k := by rw [hsucc]; unfold onS; rw [if_pos hb]
        exact ⟨⟨k + 1, hlt2, by rw [e], by rw [e], rfl, hj⟩, by simp only [natOf_int]; omega⟩
      · simp only [go_sem, h1, h2, h3, h8, h9, h10, h11, h12, getD_map hv, b2]
        have e : onTo l i n (decide (o.pick.place < 0)) (k + 1) = (if decide ((k : Int) < n) = true then !v.drop else (onTo l i n (decide (o.pick.place < 0)) k).1, true) := by rw [hsucc]; unfold onS; rw [if_neg (by rw [hb]; simp)]
        refine acond_joinL (fun ρ' H' => ρ' 1 = .sl (l.map encVisit) ∧ ρ' 2 = int n ∧ ρ' 3 = .rp (encInstance x) 0 ∧ ρ' 8 = .os j ∧ ρ' 9 = int i ∧ ρ' 10 = boo (onTo l i n (decide (o.pick.place < 0)) (k + 1)).1 ∧ ρ' 11 = boo (onTo l i n (decide (o.pick.place < 0)) (k + 1)).2 ∧ ρ' 12 = int k ∧ H' j = some (llRow (boardTo x.orders l n i))) ?_ fun K hK _ _ => acond_i (fun hb2 => ?_) (fun hb2 => ?_)
        · clear h1 h2 h3 h8 h9 h10 h11 h12 hj
          rintro ρ H ⟨h1, h2, h3, h8, h9, h10, h11, h12, hj⟩
          simp only [go_sem, h1, h2, h3, h8, h9, h10, h11, h12, wrapS (show k ≤ 4611686018427387904 by omega)]
          exact ⟨⟨k + 1, hlt2, rfl, rfl, rfl, hj⟩, by simp only [natOf_int]; omega⟩
        · simp only [go_sem, h1, h2, h3, h8, h9, h10, h11, h12, getD_map hv, b2]
          refine hK _ _ ⟨by simp only [go_sem, h1], by simp only [go_sem, h2], by simp only [go_sem, h3], by simp only [go_sem, h8], by simp only [go_sem, h9], ?_, ?_, by simp only [go_sem, h12], hj⟩
          · simp only [go_sem]; rw [e, if_pos hb2]
          · simp only [go_sem]; rw [e]
        · simp only [go_sem]
          refine hK _ _ ⟨by simp only [go_sem, h1], by simp only [go_sem, h2], by simp only [go_sem, h3], by simp only [go_sem, h8], by simp only [go_sem, h9], ?_, ?_, by simp only [go_sem, h12], hj⟩
          · simp only [go_sem, h10]; rw [e, if_neg (by rw [hb2]; simp)]
          · simp only [go_sem]; rw [e]
    · have hge2 := eq_of_ge_b hk hge2
      subst hge2
      have eon : onB l n i o = ((onTo l i n (decide (o.pick.place < 0)) l.length).1 && (onTo l i n (decide (o.pick.place < 0)) l.length).2) := rfl
      have hbl := boardTo_len x.orders l n i
      simp only [go_sem, h1, h2, h3, h8, h9, h10, h11]
      rw [← eon]
      refine acond_joinL (fun ρ' H' => ρ' 1 = .sl (l.map encVisit) ∧ ρ' 2 = int n ∧ ρ' 3 = .rp (encInstance x) 0 ∧ ρ' 9 = int i ∧ ∃ j, ρ' 8 = .os j ∧ H' j = some (llRow (boardTo x.orders l n (i + 1)))) ?_ fun K hK _ _ => acond_i (fun hb => ?_) (fun hb => ?_)
      · clear h1 h2 h3 h8 h9 h10 h11 hj
        rintro ρ H ⟨h1, h2, h3, h9, j, h8, hj⟩
        simp only [go_sem, h1, h2, h3, h9, h8, wrapS (show i ≤ 4611686018427387904 by omega)]
        exact ⟨⟨i + 1, hlt, rfl, j, rfl, hj⟩, by simp only [natOf_int]; omega⟩
      · simp only [go_sem, h1, h2, h3, h8, h9, getD_map hok, b1]
        refine wappE_i hj ⟨rfl, rfl⟩ ⟨rfl, trivial⟩ (by simp only [List.length_map, List.length_cons, List.length_nil]; omega) (fun j' hj' => ?_)
        simp only [go_sem]
        refine hK _ _ ⟨by simp only [go_sem, h1], by simp only [go_sem, h2], by simp only [go_sem, h3], by simp only [go_sem, h9], j', by simp only [go_sem], ?_⟩
        rw [boardTo_succ hok, if_pos hb, updH_same]
        simp [encInts]
      · simp only [go_sem]
        refine hK _ _ ⟨by simp only [go_sem, h1], by simp only [go_sem, h2], by simp only [go_sem, h3], by simp only [go_sem, h9], j, by simp only [go_sem, h8], ?_⟩
        rw [boardTo_succ hok, if_neg (by rw [hb]; simp), List.append_nil]
        exact hj
  · have hge := eq_of_ge_b hi hge
    subst hge
    have hbl := boardTo_len x.orders l n x.orders.length
    simp only [go_sem, h3, h8]
    refine PC.use (dims17_c x) ?_
    simp only [go_sem, h3, h8]
    refine sum06_f H _ j (boardTo x.orders l n x.orders.length) (dims17 x) (by omega) hj (fun he => ?_) (fun he j' H' hj' => ?_)
    · simp only [go_sem]
      have : after17 x l n = ([], 2) := by unfold after17 sum06; rw [if_neg (by rw [he]; simp)]
      rw [this]; exact .refl _
    · simp only [go_sem]
      have : after17 x l n = ((List.range (dims17 x).toNat).map (sumAt (boardTo x.orders l n x.orders.length)), 0) := by unfold after17 sum06; rw [if_pos he]
      rw [this]
      exact .tup _ _ (.cons _ _ _ _ (.row _ _ _ hj' (ConvE.refl _)) (ConvL.refl _))
def firstE : List Int → Int
  | [] => 0
  | e :: r => if (e != 0) = true then e else firstE r
theorem firstE_hit {l : List Int} {k : Nat} {e : Int} (h : ∀ e ∈ l.take k, (e != 0) = false) (hk : l[k]? = some e) (he : (e != 0) = true) : firstE l = e := by
  induction l generalizing k with
  | nil => simp at hk
  | cons a r ih =>
    cases k with
    | zero => simp at hk; subst hk; simp only [firstE]; rw [if_pos he]
    | succ k =>
      have h0 := h a (by simp)
      simp only [firstE]
      rw [if_neg (by rw [h0]; simp)]
      exact ih (k := k) (fun e he' => h e (by simp [he'])) (by simpa using hk)
theorem firstE_none {l : List Int} (h : ∀ e ∈ l, (e != 0) = false) : firstE l = 0 := by
  induction l with
  | nil => rfl
  | cons a r ih => simp only [firstE]; rw [if_neg (by rw [h a (by simp)]; simp)]; exact ih fun e he => h e (by simp [he])
def aftL (x : Instance) (l : List Visit) (k : Nat) : List (List Int) := (List.range k).map fun n : Nat => (after17 x l n).1
def aftE (x : Instance) (l : List Visit) : List Int := (List.range (l.length + 1)).map fun n : Nat => (after17 x l n).2
theorem aftE_get {x : Instance} {l : List Visit} {k : Nat} (h : k ≤ l.length) : (aftE x l)[k]? = some (after17 x l k).2 := by
  have : k < l.length + 1 := by omega
  simp [aftE, this]
def loads17 (x : Instance) (l : List Visit) : List (List Int) × Int :=
  if (check16 x l != 0) = true then ([], check16 x l) else if (firstE (aftE x l) != 0) = true then ([], firstE (aftE x l)) else (aftL x l (l.length + 1), 0)
theorem loads17_c (x : Instance) (r : Route) (ho : x.orders.length ≤ 1048576) (hl : r.visits.length ≤ 1048576) (ha : x.apart.length ≤ 1048576) (hb : x.before.length ≤ 1048576) :
    PC Tryz.prog 270 [.agg (encInstance x), .agg (encRoute r)] (.tup [.sl ((loads17 x r.visits).1.map encInts), int (loads17 x r.visits).2]) := by
  refine PC.body (c := Tryz.f270.body.getD .skip) (fun t => t == 7) mixed Tryz.func270 rfl (by kernel_rfl) ?_
  unfold Tryz.f270
  simp only [Option.getD_some]
  simp only [go_sem]
  refine PC.use (check16_c x r hl ha hb) ?_
  simp only [go_sem]
  refine acond_i (fun hc => ?_) (fun hc => ?_)
  · simp only [go_sem]
    have : loads17 x r.visits = ([], check16 x r.visits) := by unfold loads17; rw [if_pos hc]
    rw [this]; exact .refl _
  simp only [go_sem]
  refine anew_i fun j hj => ?_
  simp only [go_sem]
  refine ⟨fun ρ H => ∃ k : Nat, k ≤ r.visits.length + 1 ∧ ρ 2 = .rp (encInstance x) 0 ∧ ρ 3 = .rp (encRoute r) 0 ∧ ρ 8 = int k ∧ (∀ e ∈ (aftE x r.visits).take k, (e != 0) = false) ∧ ∃ j, ρ 7 = .os j ∧ H j = some (llRow (aftL x r.visits k)), fun ρ _ => r.visits.length + 1 - natOf (ρ 8), ⟨0, Nat.zero_le _, rfl, rfl, rfl, by simp, j, rfl, updH_same _ _ _⟩, ?_⟩
  clear hj
  rintro ρ H ⟨k, hk, h2, h3, h8, hz, j, h7, hj⟩
  simp only [go_sem, h2, h3, h8, h7]
  refine acond_i (fun hlt => ?_) (fun hge => ?_)
  · have hlt : k ≤ r.visits.length := by simp at hlt; omega
    simp only [go_sem, h2, h3, h8, h7]
    refine PC.use (after17_c x r.visits k ho hl) ?_
    simp only [go_sem, h2, h3, h8, h7]
    refine acond_i (fun he => ?_) (fun he => ?_)
    · simp only [go_sem]
      have e := firstE_hit hz (aftE_get hlt) he
      have : loads17 x r.visits = ([], (after17 x r.visits k).2) := by
        unfold loads17
        rw [if_neg (by rw [hc]; simp), e, if_pos he]
      rw [this]; exact .refl _
    · simp only [go_sem, h2, h3, h8, h7]
      refine wappE_i hj ⟨rfl, rfl⟩ ⟨rfl, trivial⟩ (by simp only [aftL, List.length_map, List.length_range, List.length_cons, List.length_nil]; omega) (fun j' hj' => ?_)
      simp only [go_sem, h2, h3, h8, wrapS (show k ≤ 4611686018427387904 by omega)]
      refine ⟨⟨k + 1, by omega, rfl, ?_, j', rfl, ?_⟩, by simp only [natOf_int]; omega⟩
      · exact take_allP (p := fun e : Int => (e != 0) = false) (aftE_get hlt) he hz
      · have : aftL x r.visits (k + 1) = aftL x r.visits k ++ [(after17 x r.visits k).1] := by unfold aftL; rw [List.range_succ, List.map_append]; rfl
        rw [this]
        show _ = some (⟨51, 1, (aftL x r.visits k ++ [(after17 x r.visits k).1]).map encInts⟩ : Row)
        rw [List.map_append]
        exact updH_same _ _ _
  · have hge : k = r.visits.length + 1 := by simp at hge; omega
    subst hge
    simp only [go_sem, h7]
    have e := firstE_none (l := aftE x r.visits) (by rw [List.take_of_length_le (by simp [aftE])] at hz; exact hz)
    have : loads17 x r.visits = (aftL x r.visits (r.visits.length + 1), 0) := by
      unfold loads17
      rw [if_neg (by rw [hc]; simp), e]; rfl
    rw [this]
    exact .tup _ _ (.cons _ _ _ _ (.row _ _ _ hj (ConvE.refl _)) (ConvL.refl _))
def capAt (x : Instance) (t : Int) : List Int := match x.types[t.toNat]? with | some t => t.cap | none => []
def fits17 (x : Instance) (r : Route) : Int :=
  if badNo r.type x.types.length = true then 2 else if ((loads17 x r.visits).2 != 0) = true then (loads17 x r.visits).2
  else if ((loads17 x r.visits).1.any fun l => !fits06 l (capAt x r.type)) = true then 17 else 0
theorem sum_len {ll : List (List Int)} {d : Int} : (sum06 ll d).1.length ≤ 3 := by
  unfold sum06
  by_cases h : even06 ll d = true
  · rw [if_pos h]
    have := even_spec h
    simp; omega
  · rw [if_neg h]; simp
theorem loads_len {x : Instance} {l : List Visit} : (loads17 x l).1.length ≤ l.length + 1 ∧ ∀ a ∈ (loads17 x l).1, a.length ≤ 3 := by
  unfold loads17
  split
  · simp
  · split
    · simp
    · refine ⟨by simp [aftL], fun a ha => ?_⟩
      simp only [aftL, List.mem_map, List.mem_range] at ha
      obtain ⟨n, _, rfl⟩ := ha
      exact sum_len
theorem fits17_c (x : Instance) (r : Route) (ho : x.orders.length ≤ 1048576) (hl : r.visits.length ≤ 1048576) (ha : x.apart.length ≤ 1048576) (hb : x.before.length ≤ 1048576) :
    PC Tryz.prog 222 [.agg (encInstance x), .agg (encRoute r)] (int (fits17 x r)) := by
  refine PC.body (c := Tryz.f222.body.getD .skip) (fun _ => false) mixed Tryz.func222 rfl (by kernel_rfl) ?_
  unfold Tryz.f222
  simp only [Option.getD_some]
  simp only [go_sem]
  refine acond_i (fun h1 => ?_) (fun h1 => ?_)
  · simp only [go_sem]
    exact convI (by unfold fits17; rw [if_pos (show badNo r.type x.types.length = true from h1)])
  have hin : 0 ≤ r.type ∧ r.type < (x.types.length : Int) := by
    simp only [Bool.or_eq_false_iff, decide_eq_false_iff_not] at h1; omega
  obtain ⟨t, ht⟩ := getIn (show r.type.toNat < x.types.length by omega)
  have ec : capAt x r.type = t.cap := by unfold capAt; rw [ht]
  simp only [go_sem]
  refine PC.use (loads17_c x r ho hl ha hb) ?_
  simp only [go_sem]
  refine acond_i (fun h2 => ?_) (fun h2 => ?_)
  · simp only [go_sem]
    exact convI (by unfold fits17; rw [if_neg (by rw [show badNo r.type x.types.length = false from h1]; simp), if_pos h2])
  have hf : fits17 x r = if ((loads17 x r.visits).1.any fun l => !fits06 l t.cap) = true then 17 else 0 := by
    unfold fits17; rw [if_neg (by rw [show badNo r.type x.types.length = false from h1]; simp), if_neg (by rw [h2]; simp), ec]
  rw [hf]
  obtain ⟨ln, la⟩ := loads_len (x := x) (l := r.visits)
  generalize (loads17 x r.visits).1 = ll at ln la
  simp only [go_sem]
  refine ⟨fun ρ _ => ∃ k : Nat, k ≤ ll.length ∧ ρ 2 = .rp (encInstance x) 0 ∧ ρ 3 = .rp (encRoute r) 0 ∧ ρ 5 = .sl (ll.map encInts) ∧ ρ 7 = int k ∧ ∀ l ∈ ll.take k, (!fits06 l t.cap) = false, fun ρ _ => ll.length - natOf (ρ 7), ⟨0, Nat.zero_le _, rfl, rfl, rfl, rfl, by simp⟩, ?_⟩
  rintro ρ H ⟨k, hk, h2, h3, h5, h7, hz⟩
  simp only [go_sem, h2, h3, h5, h7]
  refine acond_i (fun hlt => ?_) (fun hge => ?_)
  · have hlt := le_of_lt_b hlt
    obtain ⟨u, hu⟩ := getIn hlt
    have b1 := inB hlt
    have hul := la u (List.mem_of_getElem? hu)
    simp only [go_sem]
    refine adraw_q (by rfl) (by kernel_rfl) ?_
    simp only [go_sem, h2, h3, h5, h7, getD_map hu, b1, encInts, getD_map ht, hin]
    refine ⟨_, (fits06_c u t.cap (by omega)).q rfl, ?_⟩
    simp only [go_sem, h2, h3, h5, h7]
    refine acond_i (fun hb => ?_) (fun hb => ?_)
    · simp only [go_sem]
      exact convI (by rw [if_pos (List.any_eq_true.2 ⟨u, List.mem_of_getElem? hu, hb⟩)])
    · simp only [go_sem, h2, h3, h5, h7, wrapS (show k ≤ 4611686018427387904 by omega)]
      exact ⟨⟨k + 1, hlt, rfl, take_allP (p := fun l => (!fits06 l t.cap) = false) hu hb hz⟩, by simp only [natOf_int]; omega⟩
  · have hge := eq_of_ge_b hk hge
    subst hge
    rw [List.take_length] at hz
    simp only [go_sem]
    exact convI (by rw [if_neg (by rw [any_no hz]; simp)])
def place09 (n : Network) (i : Int) : Bool := decide (i ≥ 0) && decide (i < (n.places.length : Int))
theorem place09_c (n : Network) (i : Int) : PC Tryz.prog 334 [.agg (encNetwork n), int i] (boo (place09 n i)) := by
  refine PC.body (c := Tryz.f334.body.getD .skip) (fun _ => false) mixed Tryz.func334 rfl (by kernel_rfl) ?_
  unfold Tryz.f334
  simp only [Option.getD_some]
  simp only [go_sem]
  exact .refl _
def zeroArc : Arc := ⟨0, 0, 0, 0, [], []⟩
def arcIs (p f t : Int) (a : Arc) : Bool := a.src == f && a.dst == t && a.profile == p
def find09 (n : Network) (p f t : Int) : Option Arc := n.arcs.find? (arcIs p f t)
theorem find_hit {α : Type} {p : α → Bool} {l : List α} {k : Nat} {x : α} (h : ∀ y ∈ l.take k, p y = false) (hk : l[k]? = some x) (hx : p x = true) : l.find? p = some x := by
  induction l generalizing k with
  | nil => simp at hk
  | cons a r ih =>
    cases k with
    | zero => simp at hk; subst hk; simp [List.find?, hx]
    | succ k =>
      have h0 := h a (by simp)
      rw [List.find?_cons, h0]
      exact ih (k := k) (fun y hy => h y (by simp [hy])) (by simpa using hk)
theorem find_miss {α : Type} {p : α → Bool} {l : List α} (h : ∀ y ∈ l, p y = false) : l.find? p = none := List.find?_eq_none.2 fun y hy => by rw [h y hy]; simp
theorem find09_c (n : Network) (p f t : Int) (hl : n.arcs.length ≤ 1048576) : PC Tryz.prog 335 [.agg (encNetwork n), int p, int f, int t] (.tup [.agg (encArc ((find09 n p f t).getD zeroArc)), boo (find09 n p f t).isSome]) := by
  refine PC.body (c := Tryz.f335.body.getD .skip) (fun _ => false) mixed Tryz.func335 rfl (by kernel_rfl) ?_
  unfold Tryz.f335
  simp only [Option.getD_some]
  simp only [go_sem]
  refine anew_i fun j hj => ?_
  simp only [go_sem]
  refine ⟨fun ρ H => ∃ k : Nat, k ≤ n.arcs.length ∧ ρ 1 = int p ∧ ρ 2 = int f ∧ ρ 3 = int t ∧ ρ 4 = .rp (encNetwork n) 0 ∧ ρ 8 = .op j 0 0 ∧ ρ 10 = int k ∧ H j = some ⟨240, 6, [[int 0, int 0, int 0, int 0, .sl [], .sl []]]⟩ ∧ ∀ a ∈ n.arcs.take k, arcIs p f t a = false, fun ρ _ => n.arcs.length - natOf (ρ 10), ⟨0, Nat.zero_le _, rfl, rfl, rfl, rfl, rfl, rfl, updH_same _ _ _, by simp⟩, ?_⟩
  clear hj
  rintro ρ H ⟨k, hk, h1, h2, h3, h4, h8, h10, hj, hz⟩
  simp only [go_sem, h1, h2, h3, h4, h8, h10]
  refine acond_i (fun hlt => ?_) (fun hge => ?_)
  · have hlt := le_of_lt_b hlt
    obtain ⟨a, hak⟩ := getIn hlt
    have b1 := inB hlt
    simp only [go_sem, h1, h2, h3, h4, h8, h10, getD_map hak, b1]
    refine anew_i fun i hi => ?_
    have hne : j ≠ i := ne_new hj hi
    simp only [go_sem, h1, h2, h3, h4, h8, h10, getD_map hak, b1]
    refine wputE_n (updH_same _ _ _) (by simp [encArc_len]) ?_
    simp only [go_sem, h1, h2, h3, h4, h8, h10, getD_map hak, b1]
    generalize hG : updH (updH H i _) i _ = HG
    have hj' : HG j = some ⟨240, 6, [[int 0, int 0, int 0, int 0, .sl [], .sl []]]⟩ := by rw [← hG, updH_ne _ _ _ _ hne, updH_ne _ _ _ _ hne]; exact hj
    have hi' : HG i = some ⟨240, 6, [encArc a]⟩ := by rw [← hG, updH_same]
    clear hG hj hi
    refine acond_i (fun hb => ?_) (fun hb => ?_)
    · simp only [go_sem, h8, hi', encArc_len]
      refine wputE_n hj' (by simp [encArc_len]) ?_
      simp only [go_sem, h8, encArc_len]
      have : find09 n p f t = some a := find_hit hz hak hb
      rw [this]
      exact .refl _
    · simp only [go_sem, h1, h2, h3, h4, h8, h10, wrapS (show k ≤ 4611686018427387904 by omega)]
      exact ⟨⟨k + 1, hlt, rfl, hj', take_allP (p := fun a => arcIs p f t a = false) hak hb hz⟩, by simp only [natOf_int]; omega⟩
  · have hge := eq_of_ge_b hk hge
    subst hge
    rw [List.take_length] at hz
    simp only [go_sem, h8]
    refine wputE_n hj (by simp) ?_
    simp only [go_sem, h8]
    have : find09 n p f t = none := find_miss hz
    rw [this]
    exact .refl _
def W (n : Int) : Int := IntKind.i64.wrap n
def segIs (l : List Point) (t : Int) (k : Nat) : Bool := decide ((ptAt l k).t ≤ t) && decide (t < (ptAt l (k + 1)).t)
def segV (p q : Point) (t : Int) : Int := W (p.a + IntKind.i64.wrap (Int.tdiv (W (W (W (W (W (t - p.t) * W (q.a - p.a)) + q.t) - p.t) - 1)) (W (q.t - p.t))))
def endV (e : Point) (t : Int) : Int := W (W (t + e.a) - e.t)
def badArr (l : List Point) (t : Int) : Bool := decide (((travelR l).length : Int) > 0) || decide (t < 0) || decide (t > 1073741824)
def arrive07 (l : List Point) (t : Int) : Int :=
  if badArr l t = true then 0 else match (List.range (l.length - 1)).find? (segIs l t) with
  | some k => segV (ptAt l k) (ptAt l (k + 1)) t
  | none => if decide (t > (ptAt l 0).t) = true then endV (ptAt l (l.length - 1)) t else endV (ptAt l 0) t
def i64B (n : Int) : Prop := -9223372036854775808 ≤ n ∧ n ≤ 9223372036854775807
theorem wrap_nz {n : Int} (h : 0 < n ∧ n < 18446744073709551616) : ¬ IntKind.i64.wrap n = 0 := by
  show ¬ (if (true && decide (n % 18446744073709551616 ≥ 9223372036854775808)) = true then n % 18446744073709551616 - 18446744073709551616 else n % 18446744073709551616) = 0
  by_cases h1 : n % 18446744073709551616 ≥ 9223372036854775808
  · rw [if_pos (by simpa using h1)]; omega
  · rw [if_neg (by simpa using h1)]; omega
theorem arrive07_c (l : List Point) (t : Int) (hl : l.length ≤ 1048576) (hp : ∀ p ∈ l, i64B p.t) : PC Tryz.prog 337 [.sl (l.map encPoint), int t] (int (arrive07 l t)) := by
  refine PC.body (c := Tryz.f337.body.getD .skip) (fun _ => false) mixed Tryz.func337 rfl (by kernel_rfl) ?_
  unfold Tryz.f337
  simp only [Option.getD_some]
  simp only [go_sem]
  refine PC.use (travelP_c l hl) ?_
  simp only [go_sem]
  refine acond_i (fun hb => ?_) (fun hb => ?_)
  · simp only [go_sem]
    exact convI (by unfold arrive07; rw [if_pos (show badArr l t = true by simpa [badArr] using hb)])
  have hbad : badArr l t = false := by simpa [badArr] using hb
  have hne : 0 < l.length := by
    simp only [badArr, Bool.or_eq_false_iff, decide_eq_false_iff_not] at hbad
    have h0 : travelR l = [] := List.eq_nil_of_length_eq_zero (by omega)
    simp only [travelR, List.append_eq_nil_iff] at h0
    have h1 := h0.1
    cases hbl : badLen l.length 1 16 with
    | true => rw [hbl] at h1; simp [opt] at h1
    | false => simp only [badLen, Bool.or_eq_false_iff, decide_eq_false_iff_not] at hbl; omega
  have ht : 0 ≤ t ∧ t ≤ 1073741824 := by
    simp only [badArr, Bool.or_eq_false_iff, decide_eq_false_iff_not] at hbad; omega
  have hval : arrive07 l t = match (List.range (l.length - 1)).find? (segIs l t) with
    | some k => segV (ptAt l k) (ptAt l (k + 1)) t
    | none => if decide (t > (ptAt l 0).t) = true then endV (ptAt l (l.length - 1)) t else endV (ptAt l 0) t := by
    unfold arrive07; rw [if_neg (by rw [hbad]; simp)]
  rw [hval]
  simp only [go_sem]
  refine ⟨fun ρ _ => ∃ k : Nat, k ≤ l.length - 1 ∧ ρ 0 = .sl (l.map encPoint) ∧ ρ 1 = int t ∧ ρ 5 = int k ∧ ∀ c ∈ (List.range (l.length - 1)).take k, segIs l t c = false, fun ρ _ => l.length - 1 - natOf (ρ 5), ⟨0, Nat.zero_le _, rfl, rfl, rfl, by simp⟩, ?_⟩
  rintro ρ H ⟨k, hk, h0, h1, h5, hz⟩
  simp only [go_sem, h0, h1, h5, wrapS (show k ≤ 4611686018427387904 by omega)]
  refine acond_i (fun hlt => ?_) (fun hge => ?_)
  · have hlt : k < l.length - 1 := by simp at hlt; omega
    obtain ⟨p, hpk⟩ := getIn (show k < l.length by omega)
    obtain ⟨q, hqk⟩ := getIn (show k + 1 < l.length by omega)
    have b1 := inB (show k < l.length by omega)
    have b2 := inB (show k + 1 < l.length by omega)
    have pb := hp p (List.mem_of_getElem? hpk)
    have qb := hp q (List.mem_of_getElem? hqk)
    have es : segIs l t k = (decide (p.t ≤ t) && decide (t < q.t)) := by unfold segIs; rw [ptAt_get hpk, ptAt_get hqk]
    simp only [go_sem, h0, h1, h5, getD_map hpk, b1]
    refine anew_i fun i1 hi1 => ?_
    simp only [go_sem, h0, h1, h5, getD_map hpk, b1]
    refine wputE_n (updH_same _ _ _) (by simp [encPoint_len]) ?_
    simp only [go_sem, h0, h1, h5, getD_map hqk, b2, wrapS (show k ≤ 4611686018427387904 by omega)]
    generalize hG : updH (updH H i1 _) i1 _ = H1
    have R1 : H1 i1 = some ⟨243, 2, [encPoint p]⟩ := by rw [← hG, updH_same]
    clear hG hi1
    refine anew_i fun i2 hi2 => ?_
    have n12 : i1 ≠ i2 := ne_new R1 hi2
    simp only [go_sem, h0, h1, h5, getD_map hqk, b2, wrapS (show k ≤ 4611686018427387904 by omega)]
    refine wputE_n (updH_same _ _ _) (by simp [encPoint_len]) ?_
    generalize hG : updH (updH H1 i2 _) i2 _ = H2
    have R2 : H2 i2 = some ⟨243, 2, [encPoint q]⟩ := by rw [← hG, updH_same]; rfl
    have R1 : H2 i1 = some ⟨243, 2, [encPoint p]⟩ := by rw [← hG, updH_ne _ _ _ _ n12, updH_ne _ _ _ _ n12]; exact R1
    clear hG hi2
    simp only [go_sem, h0, h1, h5, R1, R2]
    rw [← es]
    refine acond_i (fun hs => ?_) (fun hs => ?_)
    · have hs2 := hs
      rw [es] at hs2
      simp only [Bool.and_eq_true, decide_eq_true_eq] at hs2
      simp only [go_sem]
      refine adraw_q (by rfl) (by kernel_rfl) ?_
      simp only [go_sem, h0, h1, h5, R1, R2]
      have hf : (List.range (l.length - 1)).find? (segIs l t) = some k := find_hit hz (range_get hlt) hs
      rw [hf]
      simp only
      rw [ptAt_get hpk, ptAt_get hqk]
      unfold i64B at pb qb
      exact ⟨wrap_nz (by omega), .refl _⟩
    · simp only [go_sem, h0, h1, h5, wrapS (show k ≤ 4611686018427387904 by omega)]
      exact ⟨⟨k + 1, by omega, rfl, take_allP (p := fun c => segIs l t c = false) (range_get hlt) hs hz⟩, by simp only [natOf_int]; omega⟩
  · have hge : k = l.length - 1 := by simp at hge; omega
    subst hge
    have hf : (List.range (l.length - 1)).find? (segIs l t) = none := find_miss fun c hc => hz c (by rw [List.take_of_length_le (by simp)]; exact hc)
    rw [hf]
    obtain ⟨p, hpk⟩ := getIn hne
    obtain ⟨q, hqk⟩ := getIn (show l.length - 1 < l.length by omega)
    have e0 := ptAt_get hpk
    have e1 := ptAt_get hqk
    have wl : IntKind.i64.wrap ((l.length : Int) - 1) = ((l.length - 1 : Nat) : Int) := by rw [wrap_in (by omega)]; omega
    simp only [go_sem, h0, h1, getD_map hpk]
    refine ⟨⟨by decide, by omega⟩, ?_⟩
    refine anew_i fun i hi => ?_
    simp only [go_sem, h0, h1, getD_map hpk]
    refine wputE_n (updH_same _ _ _) (by simp [encPoint_len]) ?_
    generalize hG : updH (updH H i _) i _ = H1
    have R1 : H1 i = some ⟨243, 2, [encPoint p]⟩ := by rw [← hG, updH_same]; rfl
    clear hG hi
    simp only [go_sem, h0, h1, R1]
    rw [e0]
    refine acond_joinL (fun ρ' H' => ρ' 1 = int t ∧ ρ' 8 = .op i 0 0 ∧ H' i = some ⟨243, 2, [encPoint (if decide (t > p.t) = true then q else p)]⟩) ?_ fun K hK _ _ => acond_i (fun hb => ?_) (fun hb => ?_)
    · clear h0 h1 h5 R1
      rintro ρ H ⟨h1, h8, R⟩
      simp only [go_sem, h1, h8, R]
      rw [e1]
      refine convI ?_
      cases decide (t > p.t) <;> rfl
    · simp only [go_sem, h0, h1, wl, getD_map hqk]
      refine ⟨⟨by omega, by omega⟩, ?_⟩
      refine wputE_n R1 (by simp [encPoint_len]) ?_
      simp only [go_sem]
      refine hK _ _ ⟨by simp only [go_sem, h1], by simp only [go_sem], ?_⟩
      rw [updH_same, if_pos hb]; rfl
    · simp only [go_sem]
      refine hK _ _ ⟨by simp only [go_sem, h1], by simp only [go_sem], ?_⟩
      rw [if_neg (by rw [hb]; simp)]; exact R1
end Go.Proofs.YtbcfajfngdmgnaaGreatDoor.Sq
