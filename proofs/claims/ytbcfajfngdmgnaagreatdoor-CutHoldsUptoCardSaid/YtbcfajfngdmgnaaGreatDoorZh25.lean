/- Texts joined by a program: MvZ, SqA. -/
import Derived.Test.YtbcfajfngdmgnaaGreatDoorZh23
import Derived.Test.YtbcfajfngdmgnaaGreatDoorZh24

section
set_option linter.unusedSimpArgs false
set_option linter.unusedVariables false
namespace Go.Proofs.YtbcfajfngdmgnaaGreatDoor
def badNo (n N : Int) : Bool := decide (n < 0) || decide (n ≥ N)
end Go.Proofs.YtbcfajfngdmgnaaGreatDoor
namespace Go.Proofs.YtbcfajfngdmgnaaGreatDoor.Mv
open Go.Aw Go.Aw.D Go.Proofs Ty
set_option maxRecDepth 100000
theorem convI {H : Heap} {k : IntKind} {a b : Int} (h : a = b) : Conv H (.v (.int k a)) (.v (.int k b)) := h ▸ .refl _
theorem convB {H : Heap} {a b : Bool} (h : a = b) : Conv H (.v (.bool a)) (.v (.bool b)) := h ▸ .refl _
theorem convA {H : Heap} {a b : List AV} (h : a = b) : Conv H (.agg a) (.agg b) := h ▸ .refl _
theorem take_allP {α : Type} {p : α → Prop} {l : List α} {k : Nat} {x : α} (hk : l[k]? = some x) (hx : p x) (h : ∀ x ∈ l.take k, p x) : ∀ x ∈ l.take (k + 1), p x := by
  rw [take_succ hk]
  intro y hy
  rcases List.mem_append.1 hy with hy | hy
  · exact h y hy
  · simp at hy; subst hy; exact hx
theorem NC.pc {f : FuncId} {args : List AV} {r : Row} (h : NC Tryz.prog f args r .os) : PC Tryz.prog f args (.sl r.es) :=
  RC.conv (RC.mono h fun x H' ⟨k, hx, hk⟩ => hx ▸ .row k r r.es hk (ConvE.refl _))
theorem inB_of {x : Instance} (h : bInstance 1048576 x) : InB x := by
  obtain ⟨⟨hpl, har⟩, hty, hor, hap, hbe⟩ := h
  exact ⟨hpl.1, hpl.2, har.1, fun a ha => ⟨(har.2 a ha).2.2.2.2.1.1, (har.2 a ha).2.2.2.2.2.1⟩, hty.1, fun t ht => ⟨(hty.2 t ht).1, (hty.2 t ht).2.2.2.2.1.1⟩, hor.1, fun t ht => ⟨(hor.2 t ht).1, (hor.2 t ht).2.1.1⟩, hap.1, hbe.1⟩
end Go.Proofs.YtbcfajfngdmgnaaGreatDoor.Mv
end

section
set_option linter.unusedSimpArgs false
set_option linter.unusedVariables false
namespace Go.Proofs.YtbcfajfngdmgnaaGreatDoor.Sq
open Go.Aw Go.Aw.D Go.Proofs Ty
open Mv (convI convB NC.pc take_allP)
set_option maxRecDepth 100000
def has16 (s i : Int) : Bool := decide (s ≥ 0) && decide (i ≥ 0) && decide (i ≤ 62) && ((shV .shr .i64 s (IntKind.u64.wrap i)).tmod 2 == 1)
theorem has16_c (s i : Int) : PC Tryz.prog 295 [int s, int i] (boo (has16 s i)) := by
  refine PC.body (c := Tryz.f295.body.getD .skip) (fun _ => false) mixed Tryz.func295 rfl (by kernel_rfl) ?_
  unfold Tryz.f295
  simp only [Option.getD_some]
  simp only [go_sem]
  refine ⟨fun _ => by decide, ?_⟩
  exact .refl _
def ordS (s n : Int) : Int := if has16 s n = true then s else IntKind.i64.wrap (s + shV .shl .i64 1 (IntKind.u64.wrap n))
def badO (v : Visit) : Bool := decide (v.order < 0) || decide (v.order > 62)
def foldO (l : List Visit) : Int := l.foldl (fun s v => ordS s v.order) 0
theorem foldO_succ {l : List Visit} {k : Nat} {v : Visit} (h : l[k]? = some v) : foldO (l.take (k + 1)) = ordS (foldO (l.take k)) v.order := by unfold foldO; rw [take_succ h, List.foldl_append]; rfl
def orders16 (l : List Visit) : Int × Int := if l.any badO = true then (0, 2) else (foldO l, 0)
theorem orders16_c (r : Route) (hr : r.visits.length ≤ 1048576) : PC Tryz.prog 265 [.agg (encRoute r)] (.tup [int (orders16 r.visits).1, int (orders16 r.visits).2]) := by
  refine PC.body (c := Tryz.f265.body.getD .skip) (fun _ => false) mixed Tryz.func265 rfl (by kernel_rfl) ?_
  unfold Tryz.f265
  simp only [Option.getD_some]
  simp only [go_sem]
  refine ⟨fun ρ _ => ∃ k : Nat, k ≤ r.visits.length ∧ ρ 1 = .rp (encRoute r) 0 ∧ ρ 5 = int k ∧ ρ 4 = int (foldO (r.visits.take k)) ∧ ∀ v ∈ r.visits.take k, badO v = false, fun ρ _ => r.visits.length - natOf (ρ 5), ⟨0, Nat.zero_le _, rfl, rfl, rfl, by simp⟩, ?_⟩
  rintro ρ H ⟨k, hk, h1, h5, h4, hz⟩
  simp only [go_sem, h1, h5, h4]
  refine acond_i (fun hlt => ?_) (fun hge => ?_)
  · have hlt := le_of_lt_b hlt
    obtain ⟨v, hv⟩ := getIn hlt
    have b1 := inB hlt
    simp only [go_sem, h1, h5, h4, getD_map hv, b1]
    refine acond_i (fun hb => ?_) (fun hb => ?_)
    · simp only [go_sem]
      have : orders16 r.visits = (0, 2) := by unfold orders16; rw [if_pos (List.any_eq_true.2 ⟨v, List.mem_of_getElem? hv, hb⟩)]
      rw [this]; exact .refl _
    simp only [go_sem, h1, h5, h4]
    refine PC.use (has16_c _ _) ?_
    simp only [go_sem, h1, h5, h4]
    refine acond_joinL (fun ρ' _ => ρ' 1 = .rp (encRoute r) 0 ∧ ρ' 5 = int k ∧ ρ' 4 = int (foldO (r.visits.take (k + 1)))) ?_ fun K hK _ _ => acond_i (fun hb2 => ?_) (fun hb2 => ?_)
    · clear h1 h5 h4
      rintro ρ H ⟨h1, h5, h4⟩
      simp only [go_sem, h1, h5, h4, wrapS (show k ≤ 4611686018427387904 by omega)]
      exact ⟨⟨k + 1, hlt, rfl, rfl, take_allP (p := fun v => badO v = false) hv hb hz⟩, by simp only [natOf_int]; omega⟩
    · simp only [go_sem, h1, h5, h4]
      refine hK _ _ ⟨by simp only [go_sem, h1], by simp only [go_sem, h5], ?_⟩
      simp only [go_sem]
      rw [foldO_succ hv, ordS, if_neg (by simpa using hb2)]
    · simp only [go_sem]
      refine hK _ _ ⟨by simp only [go_sem, h1], by simp only [go_sem, h5], ?_⟩
      simp only [go_sem, h4]
      rw [foldO_succ hv, ordS, if_pos (by simpa using hb2)]
  · have hge := eq_of_ge_b hk hge
    subst hge
    simp only [go_sem, h4]
    rw [List.take_length] at hz h4 ⊢
    have : orders16 r.visits = (foldO r.visits, 0) := by
      unfold orders16
      rw [if_neg]
      intro h
      obtain ⟨v, hv, hb⟩ := List.any_eq_true.1 h
      rw [hz v hv] at hb; cases hb
    rw [this]; exact .refl _
def sameV (v u : Visit) : Bool := u.order == v.order && (u.drop == v.drop && true)
def idxF {α : Type} (p : α → Bool) : List α → Int → Int
  | [], _ => -1
  | x :: r, n => if p x = true then n else idxF p r (n + 1)
theorem idxF_hit {α : Type} {p : α → Bool} {l : List α} {k : Nat} {x : α} (h : ∀ y ∈ l.take k, p y = false) (hk : l[k]? = some x) (hx : p x = true) : ∀ n, idxF p l n = n + k := by
  induction l generalizing k with
  | nil => simp at hk
  | cons a r ih =>
    intro n
    cases k with
    | zero => simp at hk; subst hk; simp only [idxF]; rw [if_pos hx]; simp
    | succ k =>
      have h0 := h a (by simp)
      simp only [idxF]
      rw [if_neg (by rw [h0]; simp), ih (k := k) (fun y hy => h y (by simp [hy])) (by simpa using hk)]
      omega
theorem idxF_miss {α : Type} {p : α → Bool} {l : List α} (h : ∀ y ∈ l, p y = false) : ∀ n, idxF p l n = -1 := by
  induction l with
  | nil => intro n; rfl
  | cons a r ih => intro n; simp only [idxF]; rw [if_neg (by rw [h a (by simp)]; simp)]; exact ih (fun y hy => h y (by simp [hy])) _
def index16 (l : List Visit) (v : Visit) : Int := idxF (sameV v) l 0
theorem index16_c (l : List Visit) (v : Visit) (hl : l.length ≤ 1048576) : PC Tryz.prog 266 [.sl (l.map encVisit), .agg (encVisit v)] (int (index16 l v)) := by
  refine PC.body (c := Tryz.f266.body.getD .skip) (fun _ => false) mixed Tryz.func266 rfl (by kernel_rfl) ?_
  unfold Tryz.f266
  simp only [Option.getD_some]
  simp only [go_sem]
  refine ⟨fun ρ _ => ∃ k : Nat, k ≤ l.length ∧ ρ 0 = .sl (l.map encVisit) ∧ ρ 3 = .rp (encVisit v) 0 ∧ ρ 5 = int k ∧ ∀ u ∈ l.take k, sameV v u = false, fun ρ _ => l.length - natOf (ρ 5), ⟨0, Nat.zero_le _, rfl, rfl, rfl, by simp⟩, ?_⟩
  rintro ρ H ⟨k, hk, h0, h3, h5, hz⟩
  simp only [go_sem, h0, h3, h5]
  refine acond_i (fun hlt => ?_) (fun hge => ?_)
  · have hlt := le_of_lt_b hlt
    obtain ⟨u, hu⟩ := getIn hlt
    have b1 := inB hlt
    simp only [go_sem]
    refine adraw_q (by rfl) (by kernel_rfl) ?_
    simp only [go_sem, h0, h3, h5, getD_map hu, b1]
    refine acond_i (fun hb => ?_) (fun hb => ?_)
    · simp only [go_sem, h5]
      exact convI (by rw [index16, idxF_hit hz hu hb]; omega)
    · simp only [go_sem, h0, h3, h5, wrapS (show k ≤ 4611686018427387904 by omega)]
      exact ⟨⟨k + 1, hlt, rfl, take_allP (p := fun u => sameV v u = false) hu hb hz⟩, by simp only [natOf_int]; omega⟩
  · have hge := eq_of_ge_b hk hge
    subst hge
    rw [List.take_length] at hz
    simp only [go_sem]
    exact convI (by rw [index16, idxF_miss hz])
def contains16 (l s : List Visit) : Bool := s.all fun v => !decide (index16 l v < 0)
theorem contains16_c (l s : List Visit) (hl : l.length ≤ 1048576) (hs : s.length ≤ 1048576) : PC Tryz.prog 297 [.sl (l.map encVisit), .sl (s.map encVisit)] (boo (contains16 l s)) := by
  refine PC.body (c := Tryz.f297.body.getD .skip) (fun _ => false) mixed Tryz.func297 rfl (by kernel_rfl) ?_
  unfold Tryz.f297
  simp only [Option.getD_some]
  simp only [go_sem]
  refine ⟨fun ρ _ => ∃ k : Nat, k ≤ s.length ∧ ρ 0 = .sl (l.map encVisit) ∧ ρ 1 = .sl (s.map encVisit) ∧ ρ 5 = int k ∧ ∀ u ∈ s.take k, decide (index16 l u < 0) = false, fun ρ _ => s.length - natOf (ρ 5), ⟨0, Nat.zero_le _, rfl, rfl, rfl, by simp⟩, ?_⟩
  rintro ρ H ⟨k, hk, h0, h1, h5, hz⟩
  simp only [go_sem, h0, h1, h5]
  refine acond_i (fun hlt => ?_) (fun hge => ?_)
  · have hlt := le_of_lt_b hlt
    obtain ⟨u, hu⟩ := getIn hlt
    have b1 := inB hlt
    simp only [go_sem, h0, h1, h5, getD_map hu, b1]
    refine PC.use (index16_c l u hl) ?_
    simp only [go_sem, h0, h1, h5]
    refine acond_i (fun hb => ?_) (fun hb => ?_)
    · simp only [go_sem]
      refine convB ?_
      unfold contains16
      symm
      rw [List.all_eq_false]
      exact ⟨u, List.mem_of_getElem? hu, by rw [hb]; simp⟩
    · simp only [go_sem, h0, h1, h5, wrapS (show k ≤ 4611686018427387904 by omega)]
      exact ⟨⟨k + 1, hlt, rfl, take_allP (p := fun u => decide (index16 l u < 0) = false) hu hb hz⟩, by simp only [natOf_int]; omega⟩
  · have hge := eq_of_ge_b hk hge
    subst hge
    rw [List.take_length] at hz
    simp only [go_sem]
    refine convB ?_
    unfold contains16
    symm
    rw [List.all_eq_true]
    intro u hu
    rw [hz u hu]; rfl
def visits16 (o : Order) (i : Int) : List Visit := (if (o.pick.place != -1) = true then [⟨i, false⟩] else []) ++ (if (o.drop.place != -1) = true then [⟨i, true⟩] else [])
theorem visits16_len (o : Order) (i : Int) : (visits16 o i).length ≤ 2 := by unfold visits16; split <;> split <;> simp
theorem visits16_c (x : Instance) (i : Int) (o : Order) (hi : 0 ≤ i ∧ i < (x.orders.length : Int)) (ho : x.orders[i.toNat]? = some o) :
    PC Tryz.prog 296 [.agg (encInstance x), int i] (.sl ((visits16 o i).map encVisit)) := by
  have b0 : 0 ≤ i ∧ i < (x.orders.length : Int) := hi
  refine PC.body (c := Tryz.f296.body.getD .skip) (fun t => t == 5) mixed Tryz.func296 rfl (by kernel_rfl) ?_
  unfold Tryz.f296
  simp only [Option.getD_some]
  simp only [go_sem]
  refine anew_i fun j hj => ?_
  simp only [go_sem, getD_map ho, b0]
  refine acond_i (fun h1 => ?_) (fun h1 => ?_)
  · simp only [go_sem, getD_map ho, b0]
    refine wappE_i (updH_same _ _ _) ⟨rfl, rfl⟩ ⟨rfl, trivial⟩ (by simp) (fun j' hj' => ?_)
    simp only [go_sem, getD_map ho, b0]
    refine acond_i (fun h2 => ?_) (fun h2 => ?_)
    · simp only [go_sem, getD_map ho, b0]
      refine wappE_i (updH_same _ _ _) ⟨rfl, rfl⟩ ⟨rfl, trivial⟩ (by simp) (fun j2 hj2 => ?_)
      simp only [go_sem]
      have e : visits16 o i = [⟨i, false⟩, ⟨i, true⟩] := by unfold visits16; rw [if_pos h1, if_pos h2]; rfl
      rw [e]
      exact .row _ _ _ (updH_same _ _ _) (ConvE.refl _)
    · simp only [go_sem]
      have e : visits16 o i = [⟨i, false⟩] := by unfold visits16; rw [if_pos h1, if_neg (by rw [h2]; simp)]; rfl
      rw [e]
      exact .row _ _ _ (updH_same _ _ _) (ConvE.refl _)
  · simp only [go_sem, getD_map ho, b0]
    refine acond_i (fun h2 => ?_) (fun h2 => ?_)
    · simp only [go_sem, getD_map ho, b0]
      refine wappE_i (updH_same _ _ _) ⟨rfl, rfl⟩ ⟨rfl, trivial⟩ (by simp) (fun j2 hj2 => ?_)
      simp only [go_sem]
      have e : visits16 o i = [⟨i, true⟩] := by unfold visits16; rw [if_neg (by rw [h1]; simp), if_pos h2]; rfl
      rw [e]
      exact .row _ _ _ (updH_same _ _ _) (ConvE.refl _)
    · simp only [go_sem]
      have e : visits16 o i = [] := by unfold visits16; rw [if_neg (by rw [h1]; simp), if_neg (by rw [h2]; simp)]; rfl
      rw [e]
      exact .row _ _ _ (updH_same _ _ _) (ConvE.refl _)
def apart16 (x : Instance) (s : Int) : Bool := x.apart.all fun q => !(has16 s q.a && has16 s q.b)
theorem apart16_c (x : Instance) (s : Int) (hl : x.apart.length ≤ 1048576) : PC Tryz.prog 268 [.agg (encInstance x), int s] (boo (apart16 x s)) := by
  refine PC.body (c := Tryz.f268.body.getD .skip) (fun _ => false) mixed Tryz.func268 rfl (by kernel_rfl) ?_
  unfold Tryz.f268
  simp only [Option.getD_some]
  simp only [go_sem]
  refine ⟨fun ρ _ => ∃ k : Nat, k ≤ x.apart.length ∧ ρ 1 = int s ∧ ρ 2 = .rp (encInstance x) 0 ∧ ρ 5 = int k ∧ ∀ q ∈ x.apart.take k, (has16 s q.a && has16 s q.b) = false, fun ρ _ => x.apart.length - natOf (ρ 5), ⟨0, Nat.zero_le _, rfl, rfl, rfl, by simp⟩, ?_⟩
  rintro ρ H ⟨k, hk, h1, h2, h5, hz⟩
  simp only [go_sem, h1, h2, h5]
  refine acond_i (fun hlt => ?_) (fun hge => ?_)
  · have hlt := le_of_lt_b hlt
    obtain ⟨q, hq⟩ := getIn hlt
    have b1 := inB hlt
    simp only [go_sem, h1, h2, h5, getD_map hq, b1]
    refine ⟨by decide, PC.use (has16_c s q.a) ?_⟩
    simp only [go_sem, h1, h2, h5, getD_map hq, b1]
    refine ⟨fun _ => by decide, _, fun _ => (has16_c s q.b).q rfl, ?_⟩
    simp only [go_sem, h1, h2, h5]
    refine acond_i (fun hb => ?_) (fun hb => ?_)
    · simp only [go_sem]
      refine convB ?_
      unfold apart16
      symm
      rw [List.all_eq_false]
      exact ⟨q, List.mem_of_getElem? hq, by rw [hb]; simp⟩
    · simp only [go_sem, h1, h2, h5, wrapS (show k ≤ 4611686018427387904 by omega)]
      exact ⟨⟨k + 1, hlt, rfl, take_allP (p := fun q : Pair => (has16 s q.a && has16 s q.b) = false) hq hb hz⟩, by simp only [natOf_int]; omega⟩
  · have hge := eq_of_ge_b hk hge
    subst hge
    rw [List.take_length] at hz
    simp only [go_sem]
    refine convB ?_
    unfold apart16
    symm
    rw [List.all_eq_true]
    intro u hu
    rw [hz u hu]; rfl
def badPair (l vs : List Visit) (v : Visit) : Bool := decide (index16 vs v < 0) || !contains16 l vs || ((vs.length : Int) == 2 && decide (index16 l (vs.getD 0 ⟨0, false⟩) > index16 l (vs.getD 1 ⟨0, false⟩)))
def visAt (x : Instance) (i : Int) : List Visit := match x.orders[i.toNat]? with | some o => visits16 o i | none => []
def paired16 (x : Instance) (l : List Visit) : Bool := l.all fun v => !badPair l (visAt x v.order) v
theorem paired16_c (x : Instance) (l : List Visit) (hl : l.length ≤ 1048576) (hi : ∀ v ∈ l, 0 ≤ v.order ∧ v.order < (x.orders.length : Int)) : PC Tryz.prog 267 [.agg (encInstance x), .sl (l.map encVisit)] (boo (paired16 x l)) := by
  refine PC.body (c := Tryz.f267.body.getD .skip) (fun _ => false) mixed Tryz.func267 rfl (by kernel_rfl) ?_
  unfold Tryz.f267
  simp only [Option.getD_some]
  simp only [go_sem]
  refine ⟨fun ρ _ => ∃ k : Nat, k ≤ l.length ∧ ρ 1 = .sl (l.map encVisit) ∧ ρ 2 = .rp (encInstance x) 0 ∧ ρ 5 = int k ∧ ∀ v ∈ l.take k, badPair l (visAt x v.order) v = false, fun ρ _ => l.length - natOf (ρ 5), ⟨0, Nat.zero_le _, rfl, rfl, rfl, by simp⟩, ?_⟩
  rintro ρ H ⟨k, hk, h1, h2, h5, hz⟩
  simp only [go_sem, h1, h2, h5]
  refine acond_i (fun hlt => ?_) (fun hge => ?_)
  · have hlt := le_of_lt_b hlt
    obtain ⟨v, hv⟩ := getIn hlt
    have b1 := inB hlt
    have hiv := hi v (List.mem_of_getElem? hv)
    obtain ⟨o, ho⟩ := getIn (show v.order.toNat < x.orders.length by omega)
    have ev : visAt x v.order = visits16 o v.order := by unfold visAt; rw [ho]
    have hvl := visits16_len o v.order
    simp only [go_sem]
    refine adraw_m [(0, true), (1, true), (2, false), (3, false), (4, false), (5, false), (6, false), (7, false)] (by kernel_rfl) ?_
    simp only [go_sem, h1, h2, h5, getD_map hv, b1]
    refine PC.use (visits16_c x v.order o hiv ho) ?_
    simp only [go_sem, h1, h2, h5]
    rw [← ev] at hvl ⊢
    generalize hvs : visAt x v.order = vs at hvl
    refine adraw_m [(0, true), (1, true), (2, false), (3, false), (4, false), (5, false), (6, false), (7, false), (8, true), (9, false), (10, false), (11, false), (12, false), (13, false), (14, false), (15, false), (16, false), (17, false), (18, true), (19, true), (20, true), (21, true), (22, true), (23, true), (24, false), (25, false), (26, false), (27, false), (28, false), (29, false), (30, false)] (by kernel_rfl) ?_
    simp only [go_sem, h1, h2, h5, getD_map hv, b1]
    refine PC.use (index16_c vs v (by omega)) ?_
    simp only [go_sem, h1, h2, h5]
    refine ⟨_, fun _ => (contains16_c l vs hl (by omega)).q rfl, ?_⟩
    simp only [go_sem, h1, h2, h5]
    have g2 : ((vs.length : Int) == 2) = true → ∃ a b, vs = [a, b] := fun h => by
      have h : vs.length = 2 := by simp at h; omega
      match vs, h with
      | [a, b], _ => exact ⟨a, b, rfl⟩
    refine ⟨fun hg => by obtain ⟨a, b, rfl⟩ := g2 hg.2; exact ⟨by simp, rfl⟩, fun hg => by obtain ⟨a, b, rfl⟩ := g2 hg.2; exact Nat.le_refl _, int (index16 l (vs.getD 0 ⟨0, false⟩)), fun hg => by obtain ⟨a, b, rfl⟩ := g2 hg.2; exact (index16_c l a hl).q rfl, ?_⟩
    simp only [go_sem, h1, h2, h5]
    refine ⟨fun hg => by obtain ⟨a, b, rfl⟩ := g2 hg.2; exact ⟨by simp, rfl⟩, fun hg => by obtain ⟨a, b, rfl⟩ := g2 hg.2; exact Nat.le_refl _, int (index16 l (vs.getD 1 ⟨0, false⟩)), fun hg => by obtain ⟨a, b, rfl⟩ := g2 hg.2; exact (index16_c l b hl).q rfl, ?_⟩
    simp only [go_sem, h1, h2, h5]
    refine acond_i (fun hb => ?_) (fun hb => ?_)
    · simp only [go_sem]
      refine convB ?_
      unfold paired16
      symm
      rw [List.all_eq_false]
      refine ⟨v, List.mem_of_getElem? hv, ?_⟩
      rw [hvs, show badPair l vs v = true from hb]; simp
    · simp only [go_sem, h1, h2, h5, wrapS (show k ≤ 4611686018427387904 by omega)]
      exact ⟨⟨k + 1, hlt, rfl, take_allP (p := fun v => badPair l (visAt x v.order) v = false) hv (by rw [hvs]; exact hb) hz⟩, by simp only [natOf_int]; omega⟩
  · have hge := eq_of_ge_b hk hge
    subst hge
    rw [List.take_length] at hz
    simp only [go_sem]
    refine convB ?_
    unfold paired16
    symm
    rw [List.all_eq_true]
    intro u hu
    rw [hz u hu]; rfl
def ordAt (l : List Visit) (j : Nat) : Int := (l.getD j ⟨0, false⟩).order
theorem ordAt_get {l : List Visit} {j : Nat} {v : Visit} (h : l[j]? = some v) : ordAt l j = v.order := by simp [ordAt, List.getD, h]
def crossAt (l : List Visit) (a b : Int) (j k : Nat) : Bool := ordAt l j == a && ordAt l k == b
def cross (l : List Visit) (a b : Int) : Bool := (List.range l.length).any fun j => (List.range j).any fun k => crossAt l a b j k
def befOk (s : Int) (l : List Visit) (q : Pair) : Bool := !has16 s q.b || (has16 s q.a && !cross l q.a q.b)
def before16 (x : Instance) (s : Int) (l : List Visit) : Bool := x.before.all (befOk s l)
theorem before16_bad {x : Instance} {s : Int} {l : List Visit} {q : Pair} (hq : q ∈ x.before) (h : befOk s l q = false) : before16 x s l = false := by
  unfold before16
  rw [List.all_eq_false]
  exact ⟨q, hq, by rw [h]; simp⟩
theorem before16_c (x : Instance) (s : Int) (l : List Visit) (hb : x.before.length ≤ 1048576) (hl : l.length ≤ 1048576) : PC Tryz.prog 269 [.agg (encInstance x), int s, .sl (l.map encVisit)] (boo (before16 x s l)) := by
  refine PC.body (c := Tryz.f269.body.getD .skip) (fun _ => false) mixed Tryz.func269 rfl (by kernel_rfl) ?_
  unfold Tryz.f269
  simp only [Option.getD_some]
  simp only [go_sem]
  refine ⟨fun ρ _ => ∃ i : Nat, i ≤ x.before.length ∧ ρ 1 = int s ∧ ρ 2 = .sl (l.map encVisit) ∧ ρ 3 = .rp (encInstance x) 0 ∧ ρ 7 = int i ∧ ∀ q ∈ x.before.take i, befOk s l q = true, fun ρ _ => x.before.length - natOf (ρ 7), ⟨0, Nat.zero_le _, rfl, rfl, rfl, rfl, by simp⟩, ?_⟩
  rintro ρ H ⟨i, hi, h1, h2, h3, h7, hz⟩
  simp only [go_sem, h1, h2, h3, h7]
  refine acond_i (fun hlt => ?_) (fun hge => ?_)
  · have hlt := le_of_lt_b hlt
    obtain ⟨q, hq⟩ := getIn hlt
    have b1 := inB hlt
    have hqm := List.mem_of_getElem? hq
    simp only [go_sem, h1, h2, h3, h7, getD_map hq, b1]
    refine ⟨by decide, ?_⟩
    refine ⟨by decide, ?_⟩
    refine PC.use (has16_c s q.b) ?_
    simp only [go_sem, h1, h2, h3, h7]
    refine acond_i (fun hn => ?_) (fun hn => ?_)
    · simp only [go_sem, h1, h2, h3, h7, wrapS (show i ≤ 4611686018427387904 by omega)]
      have hok : befOk s l q = true := by unfold befOk; rw [hn]; rfl
      exact ⟨⟨i + 1, hlt, rfl, take_allP (p := fun q => befOk s l q = true) hq hok hz⟩, by simp only [natOf_int]; omega⟩
    simp only [go_sem, h1, h2, h3, h7]
    refine PC.use (has16_c s q.a) ?_
    simp only [go_sem, h1, h2, h3, h7]
    refine acond_i (fun hm => ?_) (fun hm => ?_)
    · simp only [go_sem]
      refine convB (before16_bad hqm ?_).symm
      unfold befOk; rw [hn, show has16 s q.a = false by simpa using hm]; rfl
    simp only [go_sem, h1, h2, h3, h7]
    refine ⟨fun ρ _ => ∃ j : Nat, j ≤ l.length ∧ ρ 1 = int s ∧ ρ 2 = .sl (l.map encVisit) ∧ ρ 3 = .rp (encInstance x) 0 ∧ ρ 7 = int i ∧ ρ 8 = int q.a ∧ ρ 9 = int q.b ∧ ρ 10 = int j ∧ ∀ c ∈ (List.range l.length).take j, (List.range c).any (fun k => crossAt l q.a q.b c k) = false, fun ρ _ => l.length - natOf (ρ 10), ⟨0, Nat.zero_le _, by simp only [go_sem, h1], by simp only [go_sem, h2], by simp only [go_sem, h3], by simp only [go_sem, h7], by simp only [go_sem], by simp only [go_sem], by simp only [go_sem]; rfl, by simp⟩, ?_⟩
    clear h1 h2 h3 h7
    rintro ρ H ⟨j, hj, h1, h2, h3, h7, h8, h9, h10, hy⟩
    simp only [go_sem, h1, h2, h3, h7, h8, h9, h10]
    refine acond_i (fun hlt2 => ?_) (fun hge2 => ?_)
    · have hlt2 := le_of_lt_b hlt2
      obtain ⟨v, hv⟩ := getIn hlt2
      have b2 := inB hlt2
      simp only [go_sem, h1, h2, h3, h7, h8, h9, h10]
      refine ⟨fun ρ _ => ∃ k : Nat, k ≤ j ∧ ρ 1 = int s ∧ ρ 2 = .sl (l.map encVisit) ∧ ρ 3 = .rp (encInstance x) 0 ∧ ρ 7 = int i ∧ ρ 8 = int q.a ∧ ρ 9 = int q.b ∧ ρ 10 = int j ∧ ρ 11 = int k ∧ ∀ c ∈ (List.range j).take k, crossAt l q.a q.b j c = false, fun ρ _ => j - natOf (ρ 11), ⟨0, Nat.zero_le _, by simp only [go_sem, h1], by simp only [go_sem, h2], by simp only [go_sem, h3], by simp only [go_sem, h7], by simp only [go_sem, h8], by simp only [go_sem, h9], by simp only [go_sem, h10], by simp only [go_sem]; rfl, by simp⟩, ?_⟩
      clear h1 h2 h3 h7 h8 h9 h10
      rintro ρ H ⟨k, hk, h1, h2, h3, h7, h8, h9, h10, h11, hw⟩
      simp only [go_sem, h1, h2, h3, h7, h8, h9, h10, h11]
      refine acond_i (fun hlt3 => ?_) (fun hge3 => ?_)
      · have hlt3 : k < j := by simpa using hlt3
        obtain ⟨u, hu⟩ := getIn (show k < l.length by omega)
        have b3 := inB (show k < l.length by omega)
        simp only [go_sem, h1, h2, h3, h7, h8, h9, h10, h11, getD_map hv, getD_map hu, b2, b3]
        have hc : crossAt l q.a q.b j k = (v.order == q.a && u.order == q.b) := by unfold crossAt; rw [ordAt_get hv, ordAt_get hu]
        rw [← hc]
        refine acond_i (fun hb => ?_) (fun hb => ?_)
        · simp only [go_sem]
          refine convB (before16_bad hqm ?_).symm
          have : cross l q.a q.b = true := List.any_eq_true.2 ⟨j, List.mem_range.2 hlt2, List.any_eq_true.2 ⟨k, List.mem_range.2 hlt3, hb⟩⟩
          unfold befOk; rw [hn, this]; simp
        · simp only [go_sem, h1, h2, h3, h7, h8, h9, h10, h11, wrapS (show k ≤ 4611686018427387904 by omega)]
          exact ⟨⟨k + 1, hlt3, rfl, take_allP (p := fun c => crossAt l q.a q.b j c = false) (range_get hlt3) hb hw⟩, by simp only [natOf_int]; omega⟩
      · have hge3 : k = j := by simp at hge3; omega
        subst hge3
        simp only [go_sem, h1, h2, h3, h7, h8, h9, h10, wrapS (show k ≤ 4611686018427387904 by omega)]
        refine ⟨⟨k + 1, hlt2, rfl, take_allP (p := fun c => (List.range c).any (fun k => crossAt l q.a q.b c k) = false) (range_get hlt2) ?_ hy⟩, by simp only [natOf_int]; omega⟩
        rw [List.any_eq_false]
        intro c hc
        rw [hw c (by rw [List.take_of_length_le (by simp)]; exact hc)]; simp
    · have hge2 := eq_of_ge_b hj hge2
      subst hge2
      simp only [go_sem, h1, h2, h3, h7, wrapS (show i ≤ 4611686018427387904 by omega)]
      have hcr : cross l q.a q.b = false := by
        unfold cross
        rw [List.any_eq_false]
        intro c hc
        rw [hy c (by rw [List.take_of_length_le (by simp)]; exact hc)]; simp
      have hok : befOk s l q = true := by unfold befOk; rw [hcr, show has16 s q.a = true by simpa using hm]; simp
      exact ⟨⟨i + 1, hlt, rfl, take_allP (p := fun q => befOk s l q = true) hq hok hz⟩, by simp only [natOf_int]; omega⟩
  · have hge := eq_of_ge_b hi hge
    subst hge
    rw [List.take_length] at hz
    simp only [go_sem]
    refine convB ?_
    unfold before16
    symm
    rw [List.all_eq_true]
    exact hz
def offAt (x : Instance) (i : Int) : Bool := match x.orders[i.toNat]? with | some o => o.off | none => false
def dupAt (l : List Visit) (i : Nat) : Bool := index16 l (l.getD i ⟨0, false⟩) != (i : Int)
def check16 (x : Instance) (l : List Visit) : Int :=
  if (l.any fun v => badNo v.order x.orders.length) = true then 2
  else if ((orders16 l).2 != 0 || (l.length : Int) == 0) = true then 2
  else if (l.any fun v => offAt x v.order) = true then 9
  else if ((List.range l.length).any (dupAt l)) = true then 6
  else if (!paired16 x l) = true then 19
  else if (!apart16 x (orders16 l).1) = true then 20
  else if (!before16 x (orders16 l).1 l) = true then 21 else 0
theorem any_no {α : Type} {p : α → Bool} {l : List α} (h : ∀ x ∈ l, p x = false) : l.any p = false := by
  rw [List.any_eq_false]; intro x hx; rw [h x hx]; simp
theorem check16_c (x : Instance) (r : Route) (hl : r.visits.length ≤ 1048576) (ha : x.apart.length ≤ 1048576) (hb : x.before.length ≤ 1048576) :
    PC Tryz.prog 220 [.agg (encInstance x), .agg (encRoute r)] (int (check16 x r.visits)) := by
  refine PC.body (c := Tryz.f220.body.getD .skip) (fun _ => false) mixed Tryz.func220 rfl (by kernel_rfl) ?_
  unfold Tryz.f220
  simp only [Option.getD_some]
  simp only [go_sem]
  refine ⟨fun ρ _ => ∃ k : Nat, k ≤ r.visits.length ∧ ρ 2 = .rp (encInstance x) 0 ∧ ρ 3 = .rp (encRoute r) 0 ∧ ρ 5 = .sl (r.visits.map encVisit) ∧ ρ 6 = int k ∧ ∀ v ∈ r.visits.take k, badNo v.order x.orders.length = false, fun ρ _ => r.visits.length - natOf (ρ 6), ⟨0, Nat.zero_le _, rfl, rfl, rfl, rfl, by simp⟩, ?_⟩
  rintro ρ H ⟨k, hk, h2, h3, h5, h6, hz⟩
  simp only [go_sem, h2, h3, h5, h6]
  refine acond_i (fun hlt => ?_) (fun hge => ?_)
  · have hlt := le_of_lt_b hlt
    obtain ⟨v, hv⟩ := getIn hlt
    have b1 := inB hlt
    simp only [go_sem]
    refine adraw_q (by rfl) (by kernel_rfl) ?_
    simp only [go_sem, h2, h3, h5, h6, getD_map hv, b1]
    refine acond_i (fun hb => ?_) (fun hb => ?_)
    · simp only [go_sem]
      exact convI (by unfold check16; rw [if_pos (List.any_eq_true.2 ⟨v, List.mem_of_getElem? hv, hb⟩)])
    · simp only [go_sem, h2, h3, h5, h6, wrapS (show k ≤ 4611686018427387904 by omega)]
      exact ⟨⟨k + 1, hlt, rfl, take_allP (p := fun v => badNo v.order x.orders.length = false) hv (show badNo v.order x.orders.length = false from hb) hz⟩, by simp only [natOf_int]; omega⟩
  have hge := eq_of_ge_b hk hge
  subst hge
  rw [List.take_length] at hz
  have c1 : ¬ (r.visits.any fun v => badNo v.order x.orders.length) = true := by rw [any_no hz]; simp
  have hin : ∀ v ∈ r.visits, 0 ≤ v.order ∧ v.order < (x.orders.length : Int) := fun v hv => by
    have := hz v hv
    simp only [badNo, Bool.or_eq_false_iff, decide_eq_false_iff_not] at this
    omega
  simp only [go_sem, h2, h3, h5, encRoute_len]
  refine PC.use (orders16_c r hl) ?_
  simp only [go_sem, h2, h3, h5]
  refine acond_i (fun hb2 => ?_) (fun hb2 => ?_)
  · simp only [go_sem]
    exact convI (by unfold check16; rw [if_neg c1, if_pos hb2])
  have c2 : ¬ ((orders16 r.visits).2 != 0 || (r.visits.length : Int) == 0) = true := by rw [hb2]; simp
  generalize hS : (orders16 r.visits).1 = s
  simp only [go_sem, h2, h3, h5]
  refine ⟨fun ρ _ => ∃ k : Nat, k ≤ r.visits.length ∧ ρ 2 = .rp (encInstance x) 0 ∧ ρ 5 = .sl (r.visits.map encVisit) ∧ ρ 7 = int s ∧ ρ 9 = int k ∧ ∀ v ∈ r.visits.take k, offAt x v.order = false, fun ρ _ => r.visits.length - natOf (ρ 9), ⟨0, Nat.zero_le _, by simp only [go_sem, h2], by simp only [go_sem, h5], by simp only [go_sem], by simp only [go_sem]; rfl, by simp⟩, ?_⟩
  clear h2 h3 h5 h6 hk
  rintro ρ H ⟨k, hk, h2, h5, h7, h9, hz2⟩
  simp only [go_sem, h2, h5, h7, h9]
  refine acond_i (fun hlt => ?_) (fun hge => ?_)
  · have hlt := le_of_lt_b hlt
    obtain ⟨v, hv⟩ := getIn hlt
    have b1 := inB hlt
    have hiv := hin v (List.mem_of_getElem? hv)
    obtain ⟨o, ho⟩ := getIn (show v.order.toNat < x.orders.length by omega)
    have eo : offAt x v.order = o.off := by unfold offAt; rw [ho]
    simp only [go_sem]
    refine adraw_q (by rfl) (by kernel_rfl) ?_
    simp only [go_sem, h2, h5, h7, h9, getD_map hv, b1, getD_map ho, hiv]
    refine acond_i (fun hb => ?_) (fun hb => ?_)
    · simp only [go_sem]
      exact convI (by unfold check16; rw [if_neg c1, if_neg c2, if_pos (List.any_eq_true.2 ⟨v, List.mem_of_getElem? hv, eo.trans hb⟩)])
    · simp only [go_sem, h2, h5, h7, h9, wrapS (show k ≤ 4611686018427387904 by omega)]
      exact ⟨⟨k + 1, hlt, rfl, take_allP (p := fun v => offAt x v.order = false) hv (eo.trans hb) hz2⟩, by simp only [natOf_int]; omega⟩
  have hge := eq_of_ge_b hk hge
  subst hge
  rw [List.take_length] at hz2
  have c3 : ¬ (r.visits.any fun v => offAt x v.order) = true := by rw [any_no hz2]; simp
  simp only [go_sem, h2, h5, h7]
  refine ⟨fun ρ _ => ∃ k : Nat, k ≤ r.visits.length ∧ ρ 2 = .rp (encInstance x) 0 ∧ ρ 5 = .sl (r.visits.map encVisit) ∧ ρ 7 = int s ∧ ρ 10 = int k ∧ ∀ c ∈ (List.range r.visits.length).take k, dupAt r.visits c = false, fun ρ _ => r.visits.length - natOf (ρ 10), ⟨0, Nat.zero_le _, by simp only [go_sem, h2], by simp only [go_sem, h5], by simp only [go_sem, h7], by simp only [go_sem]; rfl, by simp⟩, ?_⟩
  clear h2 h5 h7 h9 hk
  rintro ρ H ⟨k, hk, h2, h5, h7, h10, hz3⟩
  simp only [go_sem, h2, h5, h7, h10]
  refine acond_i (fun hlt => ?_) (fun hge => ?_)
  · have hlt := le_of_lt_b hlt
    obtain ⟨v, hv⟩ := getIn hlt
    have b1 := inB hlt
    have ed : dupAt r.visits k = (index16 r.visits v != (k : Int)) := by simp [dupAt, List.getD, hv]
    simp only [go_sem, h2, h5, h7, h10, getD_map hv, b1]
    refine PC.use (index16_c r.visits v hl) ?_
    simp only [go_sem, h2, h5, h7, h10]
    refine acond_i (fun hb => ?_) (fun hb => ?_)
    · simp only [go_sem]
      exact convI (by unfold check16; rw [if_neg c1, if_neg c2, if_neg c3, if_pos (List.any_eq_true.2 ⟨k, List.mem_range.2 hlt, ed.trans hb⟩)])
    · simp only [go_sem, h2, h5, h7, h10, wrapS (show k ≤ 4611686018427387904 by omega)]
      exact ⟨⟨k + 1, hlt, rfl, take_allP (p := fun c => dupAt r.visits c = false) (range_get hlt) (ed.trans hb) hz3⟩, by simp only [natOf_int]; omega⟩
  have hge := eq_of_ge_b hk hge
  subst hge
  have c4 : ¬ ((List.range r.visits.length).any (dupAt r.visits)) = true := by
    rw [any_no fun c hc => hz3 c (by rw [List.take_of_length_le (by simp)]; exact hc)]; simp
  simp only [go_sem, h2, h5, h7]
  refine PC.use (paired16_c x r.visits hl hin) ?_
  simp only [go_sem, h2, h5, h7]
  refine acond_i (fun hb5 => ?_) (fun hb5 => ?_)
  · simp only [go_sem]
    exact convI (by unfold check16; rw [if_neg c1, if_neg c2, if_neg c3, if_neg c4, if_pos hb5])
  simp only [go_sem, h2, h5, h7]
  refine PC.use (apart16_c x s ha) ?_
  simp only [go_sem, h2, h5, h7]
  refine acond_i (fun hb6 => ?_) (fun hb6 => ?_)
  · simp only [go_sem]
    exact convI (by unfold check16; rw [if_neg c1, if_neg c2, if_neg c3, if_neg c4, if_neg (by rw [hb5]; simp), if_pos (by rw [hS]; exact hb6)])
  simp only [go_sem, h2, h5, h7]
  refine PC.use (before16_c x s r.visits hb hl) ?_
  simp only [go_sem, h2, h5, h7]
  refine acond_i (fun hb7 => ?_) (fun hb7 => ?_)
  · simp only [go_sem]
    exact convI (by unfold check16; rw [if_neg c1, if_neg c2, if_neg c3, if_neg c4, if_neg (by rw [hb5]; simp), if_neg (by rw [hS, hb6]; simp), if_pos (by rw [hS]; exact hb7)])
  · simp only [go_sem]
    exact convI (by unfold check16; rw [if_neg c1, if_neg c2, if_neg c3, if_neg c4, if_neg (by rw [hb5]; simp), if_neg (by rw [hS, hb6]; simp), if_neg (by rw [hS, hb7]; simp)])
def fits06 (a c : List Int) : Bool := ((a.length : Int) == (c.length : Int)) && (List.range a.length).all fun i => !decide (a.getD i 0 > c.getD i 0)
theorem fits06_c (a c : List Int) (hl : a.length ≤ 1048576) : PC Tryz.prog 271 [.sl (a.map encInt), .sl (c.map encInt)] (boo (fits06 a c)) := by
  refine PC.body (c := Tryz.f271.body.getD .skip) (fun _ => false) mixed Tryz.func271 rfl (by kernel_rfl) ?_
  unfold Tryz.f271
  simp only [Option.getD_some]
  simp only [go_sem]
  refine acond_i (fun hb => ?_) (fun hb => ?_)
  · simp only [go_sem]
    refine convB ?_
    have : ((a.length : Int) == (c.length : Int)) = false := by simpa using hb
    unfold fits06; rw [this]; rfl
  have he : a.length = c.length := by simp at hb; omega
  have hf : fits06 a c = (List.range a.length).all fun i => !decide (a.getD i 0 > c.getD i 0) := by unfold fits06; rw [he]; simp
  rw [hf]
  simp only [go_sem]
  refine ⟨fun ρ _ => ∃ k : Nat, k ≤ a.length ∧ ρ 0 = .sl (a.map encInt) ∧ ρ 1 = .sl (c.map encInt) ∧ ρ 5 = int k ∧ ∀ i ∈ (List.range a.length).take k, decide (a.getD i 0 > c.getD i 0) = false, fun ρ _ => a.length - natOf (ρ 5), ⟨0, Nat.zero_le _, rfl, rfl, rfl, by simp⟩, ?_⟩
  rintro ρ H ⟨k, hk, h0, h1, h5, hz⟩
  simp only [go_sem, h0, h1, h5]
  refine acond_i (fun hlt => ?_) (fun hge => ?_)
  · have hlt := le_of_lt_b hlt
    obtain ⟨u, hu⟩ := getIn hlt
    obtain ⟨v, hv⟩ := getIn (show k < c.length by omega)
    have b1 := inB hlt
    have b2 := inB (show k < c.length by omega)
    have ed : decide (a.getD k 0 > c.getD k 0) = decide (u > v) := by simp [List.getD, hu, hv]
    simp only [go_sem]
    refine adraw_q (by rfl) (by kernel_rfl) ?_
    simp only [go_sem, h0, h1, h5, getD_map hu, getD_map hv, b1, b2]
    refine acond_i (fun hb => ?_) (fun hb => ?_)
    · simp only [go_sem]
      refine convB ?_
      symm
      rw [List.all_eq_false]
      exact ⟨k, List.mem_range.2 hlt, by rw [ed, hb]; simp⟩
    · simp only [go_sem, h0, h1, h5, wrapS (show k ≤ 4611686018427387904 by omega)]
      exact ⟨⟨k + 1, hlt, rfl, take_allP (p := fun i => decide (a.getD i 0 > c.getD i 0) = false) (range_get hlt) (ed.trans hb) hz⟩, by simp only [natOf_int]; omega⟩
  · have hge := eq_of_ge_b hk hge
    subst hge
    simp only [go_sem]
    refine convB ?_
    symm
    rw [List.all_eq_true]
    intro i hi
    rw [hz i (by rw [List.take_of_length_le (by simp)]; exact hi)]; rfl
def dims17 (x : Instance) : Int := match x.types[0]? with | some t => t.cap.length | none => 0
theorem dims17_c (x : Instance) : PC Tryz.prog 315 [.agg (encInstance x)] (int (dims17 x)) := by
  refine PC.body (c := Tryz.f315.body.getD .skip) (fun _ => false) mixed Tryz.func315 rfl (by kernel_rfl) ?_
  unfold Tryz.f315
  simp only [Option.getD_some]
  simp only [go_sem]
  refine acond_i (fun hb => ?_) (fun hb => ?_)
  · simp only [go_sem]
    have : x.types = [] := by cases h : x.types with | nil => rfl | cons a l => rw [h] at hb; simp at hb; omega
    exact convI (by unfold dims17; rw [this]; rfl)
  · have hlt : 0 < x.types.length := by simp at hb; cases h : x.types with | nil => exact absurd h hb | cons a l => simp
    obtain ⟨t, ht⟩ := getIn hlt
    simp only [go_sem, getD_map ht]
    refine ⟨⟨by decide, by omega⟩, ?_⟩
    exact convI (by unfold dims17; rw [ht])
def encInts (l : List Int) : List AV := [.sl (l.map encInt)]
def even06 (ll : List (List Int)) (d : Int) : Bool := !(decide (d < 0) || decide (d > 3)) && ll.all fun l => !((l.length : Int) != d)
theorem even06_c (ll : List (List Int)) (d : Int) (hl : ll.length ≤ 1048576) : PC Tryz.prog 226 [.sl (ll.map encInts), int d] (boo (even06 ll d)) := by
  refine PC.body (c := Tryz.f226.body.getD .skip) (fun _ => false) mixed Tryz.func226 rfl (by kernel_rfl) ?_
  unfold Tryz.f226
  simp only [Option.getD_some]
  simp only [go_sem]
  refine acond_i (fun hb => ?_) (fun hb => ?_)
  · simp only [go_sem]
    exact convB (by unfold even06; rw [hb]; rfl)
  have hf : even06 ll d = ll.all fun l => !((l.length : Int) != d) := by unfold even06; rw [hb]; rfl
  rw [hf]
  simp only [go_sem]
  refine ⟨fun ρ _ => ∃ k : Nat, k ≤ ll.length ∧ ρ 0 = .sl (ll.map encInts) ∧ ρ 1 = int d ∧ ρ 5 = int k ∧ ∀ l ∈ ll.take k, ((l.length : Int) != d) = false, fun ρ _ => ll.length - natOf (ρ 5), ⟨0, Nat.zero_le _, rfl, rfl, rfl, by simp⟩, ?_⟩
  rintro ρ H ⟨k, hk, h0, h1, h5, hz⟩
  simp only [go_sem, h0, h1, h5]
  refine acond_i (fun hlt => ?_) (fun hge => ?_)
  · have hlt := le_of_lt_b hlt
    obtain ⟨u, hu⟩ := getIn hlt
    have b1 := inB hlt
    simp only [go_sem, h0, h1, h5, getD_map hu, b1, encInts]
    refine acond_i (fun hb => ?_) (fun hb => ?_)
    · simp only [go_sem]
      refine convB ?_
      symm
      rw [List.all_eq_false]
      exact ⟨u, List.mem_of_getElem? hu, by rw [hb]; simp⟩
    · simp only [go_sem, h0, h1, h5, wrapS (show k ≤ 4611686018427387904 by omega)]
      exact ⟨⟨k + 1, hlt, rfl, take_allP (p := fun l : List Int => ((l.length : Int) != d) = false) hu hb hz⟩, by simp only [natOf_int]; omega⟩
  · have hge := eq_of_ge_b hk hge
    subst hge
    rw [List.take_length] at hz
    simp only [go_sem]
    refine convB ?_
    symm
    rw [List.all_eq_true]
    intro l hl
    rw [hz l hl]; rfl
def sumAt (ll : List (List Int)) (i : Nat) : Int := ll.foldl (fun s l => IntKind.i64.wrap (s + l.getD i 0)) 0
theorem sumAt_succ {ll : List (List Int)} {k i : Nat} {l : List Int} (h : ll[k]? = some l) : sumAt (ll.take (k + 1)) i = IntKind.i64.wrap (sumAt (ll.take k) i + l.getD i 0) := by unfold sumAt; rw [take_succ h, List.foldl_append]; rfl
def sum06 (ll : List (List Int)) (d : Int) : List Int × Int := if even06 ll d = true then ((List.range d.toNat).map (sumAt ll), 0) else ([], 2)
theorem even_spec {ll : List (List Int)} {d : Int} (h : even06 ll d = true) : 0 ≤ d ∧ d ≤ 3 ∧ ∀ l ∈ ll, (l.length : Int) = d := by
  simp only [even06, Bool.and_eq_true, Bool.not_eq_true', Bool.or_eq_false_iff, decide_eq_false_iff_not, List.all_eq_true] at h
  refine ⟨by omega, by omega, fun l hl => ?_⟩
  have := h.2 l hl
  simpa using this
theorem sum06_f (H0 : Heap) (K : AV → Heap → Prop) (jl : Nat) (ll : List (List Int)) (d : Int) (hl : ll.length ≤ 1048576) (hj0 : H0 jl = some (⟨51, 1, ll.map encInts⟩ : Row))
    (hK : even06 ll d = false → K (.tup [.sl [], int 2]) H0)
    (hK2 : even06 ll d = true → ∀ j H, H j = some (⟨3, 1, ((List.range d.toNat).map (sumAt ll)).map encInt⟩ : Row) → K (.tup [.os j, int 0]) H) :
    FCalls Tryz.prog 161 [.os jl, int d] H0 K := by
  refine FCalls.body (c := Tryz.f161.body.getD .skip) (fun t => t == 6) mixed Tryz.func161 rfl (by kernel_rfl) ?_
  unfold Tryz.f161
  simp only [Option.getD_some]
  simp only [go_sem]
  refine QCalls.use ⟨[.sl (ll.map encInts), int d], .cons _ _ _ _ (.row _ _ _ hj0 (ConvE.refl _)) (ConvL.refl _), even06_c ll d hl, rfl⟩ ?_
  simp only [go_sem]
  refine acond_i (fun hb => ?_) (fun hb => ?_)
  · simp only [go_sem]
    exact hK (by simpa using hb)
  have hev : even06 ll d = true := by simpa using hb
  obtain ⟨d0, d3, hd⟩ := even_spec hev
  simp only [go_sem]
  refine anew_i fun j hj => ?_
  have njl : jl ≠ j := ne_new hj0 hj
  simp only [go_sem]
  refine ⟨fun ρ H => ∃ i : Nat, i ≤ d.toNat ∧ ρ 0 = .os jl ∧ ρ 1 = int d ∧ ρ 7 = int i ∧ H jl = some (⟨51, 1, ll.map encInts⟩ : Row) ∧ ∃ j, jl ≠ j ∧ ρ 6 = .os j ∧ H j = some (⟨3, 1, ((List.range i).map (sumAt ll)).map encInt⟩ : Row), fun ρ _ => d.toNat - natOf (ρ 7), ⟨0, Nat.zero_le _, rfl, rfl, rfl, by rw [updH_ne _ _ _ _ njl]; exact hj0, j, njl, rfl, updH_same _ _ _⟩, ?_⟩
  clear hj njl
  rintro ρ H ⟨i, hi, h0, h1, h7, R, j, njl, h6, hj⟩
  simp only [go_sem, h0, h1, h7, h6]
  refine acond_i (fun hlt => ?_) (fun hge => ?_)
  · have hlt : i < d.toNat := by simp at hlt; omega
    simp only [go_sem, h0, h1, h7, h6]
    refine ⟨fun ρ H => ∃ k : Nat, k ≤ ll.length ∧ ρ 0 = .os jl ∧ ρ 1 = int d ∧ ρ 6 = .os j ∧ ρ 7 = int i ∧ ρ 8 = int (sumAt (ll.take k) i) ∧ ρ 9 = int k ∧ H jl = some (⟨51, 1, ll.map encInts⟩ : Row) ∧ H j = some (⟨3, 1, ((List.range i).map (sumAt ll)).map encInt⟩ : Row), fun ρ _ => ll.length - natOf (ρ 9), ⟨0, Nat.zero_le _, by simp only [go_sem, h0], by simp only [go_sem, h1], by simp only [go_sem, h6], by simp only [go_sem, h7], by simp only [go_sem]; rfl, by simp only [go_sem]; rfl, R, hj⟩, ?_⟩
    clear h0 h1 h7 h6 hj R
    rintro ρ H ⟨k, hk, h0, h1, h6, h7, h8, h9, R, hj⟩
    simp only [go_sem, h0, h1, h6, h7, h8, h9, R]
    refine acond_i (fun hlt2 => ?_) (fun hge2 => ?_)
    · have hlt2 : k < ll.length := by simpa using hlt2
      obtain ⟨u, hu⟩ := getIn hlt2
      have b1 := inB hlt2
      have hul := hd u (List.mem_of_getElem? hu)
      obtain ⟨v, hv⟩ := getIn (show i < u.length by omega)
      have b2 := inB (show i < u.length by omega)
      have egd : u.getD i 0 = v := by simp [List.getD, hv]
      simp only [go_sem, h0, h1, h6, h7, h8, h9, R, getD_map hu, b1, encInts, getD_map hv, b2, wrapS (show k ≤ 4611686018427387904 by omega)]
      refine ⟨hlt2, ⟨k + 1, hlt2, by rw [sumAt_succ hu, egd], rfl, hj⟩, by simp only [natOf_int]; omega⟩
    · have hge2 : k = ll.length := by simp at hge2; omega
      subst hge2
      rw [List.take_length] at h8
      simp only [go_sem, h0, h1, h6, h7, h8]
      refine wappE_i hj ⟨rfl, rfl⟩ ⟨rfl, trivial⟩ (by simp only [List.length_map, List.length_range, List.length_cons, List.length_nil]; omega) (fun j' hj' => ?_)
      simp only [go_sem, h0, h1, h7, wrapS (show i ≤ 4611686018427387904 by omega)]
      refine ⟨⟨i + 1, hlt, rfl, keep_app R njl.symm hj', j', ne_new R hj', rfl, ?_⟩, by simp only [natOf_int]; omega⟩
      rw [List.range_succ, List.map_append, List.map_append]
      exact updH_same _ _ _
  · have hge : i = d.toNat := by simp at hge; omega
    subst hge
    simp only [go_sem, h6]
    exact hK2 hev j H hj
end Go.Proofs.YtbcfajfngdmgnaaGreatDoor.Sq
end
