/- sets.Members, loads.{Add, Sub, Fits}, fleet.{Dims, Able}, carry.{start, Loads, Fits} -/
import Derived.Test.YtbefdpmjpioijaaGreatDoorAuE
set_option linter.unusedSimpArgs false
set_option linter.unusedVariables false
namespace Go.Proofs.YtbefdpmjpioijaaGreatDoor.Sq
open Go.Aw Go.Aw.D Go.Proofs Ty
open Mv (convI convB convA NC.pc take_allP)
set_option maxRecDepth 100000

def memU (set : Int) (k : Nat) : List Int := ((List.range k).filter fun i : Nat => hasR set (i : Int)).map fun i : Nat => (i : Int)
def memS (set : Int) : List Int := memU set 63
theorem memU_succ (set : Int) (k : Nat) : memU set (k + 1) = memU set k ++ (if hasR set (k : Int) = true then [(k : Int)] else []) := by
  unfold memU
  rw [List.range_succ, List.filter_append, List.map_append]
  by_cases h : hasR set (k : Int) = true
  · simp [h]
  · simp [h]
theorem memU_len (set : Int) (k : Nat) : (memU set k).length ≤ k := by
  unfold memU
  rw [List.length_map]
  exact Nat.le_trans (List.length_filter_le _ _) (by simp)
theorem members_c (set : Int) : PC Tryz.prog 145 [int set] (.sl ((memS set).map encInt)) := by
  refine PC.body (c := Tryz.f145.body.getD .skip) (fun t => t == 3) mixed Tryz.func145 rfl (by kernel_rfl) ?_
  unfold Tryz.f145
  simp only [Option.getD_some]
  simp only [go_sem]
  refine anew_i fun j hj => ?_
  simp only [go_sem]
  refine ⟨fun ρ H => ∃ k : Nat, k ≤ 63 ∧ ρ 0 = int set ∧ ρ 5 = int k ∧ ∃ j, ρ 3 = .os j ∧ H j = some (intRow (memU set k)), fun ρ _ => 63 - natOf (ρ 5), ⟨0, Nat.zero_le _, rfl, rfl, j, rfl, updH_same _ _ _⟩, ?_⟩
  clear hj
  rintro ρ H ⟨k, hk, h0, h5, j, h3, R⟩
  simp only [go_sem, h0, h5, h3]
  refine acond_i (fun hlt => ?_) (fun hge => ?_)
  · have hlt : k < 63 := by simp at hlt; omega
    simp only [go_sem, h0, h5, h3]
    refine PC.use (sHas_c set k) ?_
    simp only [go_sem, h0, h5, h3]
    refine acond_i (fun hb => ?_) (fun hb => ?_)
    · simp only [go_sem, h0, h5, h3]
      refine wappE_i R ⟨rfl, rfl⟩ ⟨rfl, trivial⟩ (by have := memU_len set k; simp; omega) (fun j' hj' => ?_)
      simp only [go_sem, h0, h5, h3, wrapS (show k ≤ 4611686018427387904 by omega)]
      refine ⟨⟨k + 1, hlt, rfl, j', rfl, ?_⟩, by simp only [natOf_int]; omega⟩
      rw [memU_succ, if_pos hb]
      exact row_appI (l' := [(k : Int)]) rfl
    · simp only [go_sem, h0, h5, h3, wrapS (show k ≤ 4611686018427387904 by omega)]
      refine ⟨⟨k + 1, hlt, rfl, j, rfl, ?_⟩, by simp only [natOf_int]; omega⟩
      rw [memU_succ, if_neg (by rw [hb]; simp), List.append_nil]
      exact R
  · have hge : k = 63 := by simp at hge; omega
    subst hge
    simp only [go_sem, h3]
    exact .row _ _ _ R (ConvE.refl _)
/-! ### loads -/
def plusI (a b : Int) : Int := W (a + b)
def minusI (a b : Int) : Int := W (a - b)
theorem plus_c (a b : Int) : PC Tryz.prog 147 [int a, int b] (int (plusI a b)) := by
  refine PC.body (c := Tryz.f147.body.getD .skip) (fun _ => false) mixed Tryz.func147 rfl (by kernel_rfl) ?_
  unfold Tryz.f147
  simp only [Option.getD_some]
  simp only [go_sem]
  exact .refl _
theorem minus_c (a b : Int) : PC Tryz.prog 148 [int a, int b] (int (minusI a b)) := by
  refine PC.body (c := Tryz.f148.body.getD .skip) (fun _ => false) mixed Tryz.func148 rfl (by kernel_rfl) ?_
  unfold Tryz.f148
  simp only [Option.getD_some]
  simp only [go_sem]
  exact .refl _
theorem set_prog {α : Type} {l : List α} {k n : Nat} {x z : α} (hl : l.length = n) (h : l[k]? = some x) : (l.take k ++ List.replicate (n - k) z).set k x = l.take (k + 1) ++ List.replicate (n - (k + 1)) z := by
  have hlt := (List.getElem?_eq_some_iff.1 h).1
  have e : n - k = (n - (k + 1)) + 1 := by omega
  rw [take_succ h, e, List.replicate_succ, List.set_append_right _ _ (by simp; omega)]
  have : k - (l.take k).length = 0 := by simp; omega
  rw [this, List.set_cons_zero]
  simp
theorem combine_n {g : Nat} {op : Int → Int → Int} (a b : List Int) (hl : a.length ≤ 1048576) (hab : a.length = b.length) (hok : callOk Tryz.prog g = true) (hg : ∀ p q, PC Tryz.prog g [int p, int q] (int (op p q))) :
    NC Tryz.prog 146 [.sl (a.map encInt), .sl (b.map encInt), .v (.func (.func g) #[] #[])] (intRow (List.zipWith op a b)) (fun j => .tup [.os j, int 0]) := by
  have hzl : (List.zipWith op a b).length = a.length := by rw [List.length_zipWith, ← hab, Nat.min_self]
  refine NC.body (c := Tryz.f146.body.getD .skip) (fun _ => false) mixed Tryz.func146 rfl (by kernel_rfl) ?_
  unfold Tryz.f146
  simp only [Option.getD_some]
  simp only [go_sem]
  refine acond_i (fun hb => by rw [hab] at hb; simp at hb) (fun _ => ?_)
  simp only [go_sem]
  refine ⟨⟨by omega, by omega⟩, anew_i fun j hj => ?_⟩
  simp only [go_sem]
  refine ⟨fun ρ H => ∃ k : Nat, k ≤ a.length ∧ ρ 0 = .sl (a.map encInt) ∧ ρ 1 = .sl (b.map encInt) ∧ ρ 2 = .v (.func (.func g) #[] #[]) ∧ ρ 8 = .os j ∧ ρ 19 = int a.length ∧ ρ 20 = int k ∧ H j = some (intRow ((List.zipWith op a b).take k ++ List.replicate (a.length - k) 0)), fun ρ _ => a.length - natOf (ρ 20), ⟨0, Nat.zero_le _, rfl, rfl, rfl, rfl, by simp only [go_sem, List.length_map], rfl, ?_⟩, ?_⟩
  · rw [updH_same]
    simp [intRow, List.map_replicate, encInt]
  clear hj
  rintro ρ H ⟨k, hk, h0, h1, h2, h8, h19, h20, R⟩
  simp only [go_sem, h0, h1, h2, h8, h19, h20]
  refine acond_i (fun hlt => ?_) (fun hge => ?_)
  · have hlt := le_of_lt_b hlt
    obtain ⟨p, hp⟩ := getIn hlt
    obtain ⟨q, hq⟩ := getIn (show k < b.length by omega)
    have b1 := inB hlt
    have b2 := inB (show k < b.length by omega)
    simp only [go_sem, h0, h1, h2, h8, h19, h20]
    refine adraw_m [(0, true), (1, true), (2, true), (3, true), (4, true), (5, true), (6, true), (7, true), (8, false), (9, false), (10, false), (11, false), (12, false), (13, false)] (by kernel_rfl) ?_
    simp only [go_sem, h0, h1, h2, h8, h19, h20, getD_map hp, getD_map hq, b1, b2, hok]
    refine PC.use (hg p q) ?_
    have hlen : ((List.zipWith op a b).take k ++ List.replicate (a.length - k) 0 : List Int).length = a.length := by simp [hzl]; omega
    simp only [go_sem, h0, h1, h2, h8, h19, h20, R]
    refine ⟨⟨b1.1, by rw [hlen]; exact b1.2⟩, wputE_1 so3 R (by rw [List.length_map, hlen]; exact ⟨hlt, rfl, Nat.le_refl 1⟩) ?_⟩
    have hz : (List.zipWith op a b)[k]? = some (op p q) := by rw [List.getElem?_zipWith, hp, hq]
    have hk0 : k < ((List.zipWith op a b).take k ++ List.replicate (a.length - k) 0 : List Int).length := by omega
    obtain ⟨y, hy⟩ := getIn hk0
    have hs := set_prog (n := a.length) (z := (0 : Int)) hzl hz
    simp only [go_sem, h0, h1, h2, h8, h19, h20, getD_map hy, wrapS (show k ≤ 4611686018427387904 by omega)]
    refine ⟨⟨k + 1, hlt, rfl, ?_⟩, by simp only [natOf_int]; omega⟩
    rw [← hs]
    show _ = some (⟨3, 1, _⟩ : Row)
    rw [List.map_set]
    rfl
  · have hge := eq_of_ge_b hk hge
    subst hge
    simp only [go_sem, h8]
    refine ⟨j, rfl, ?_⟩
    rw [R, List.take_of_length_le (by omega)]
    simp
def addP (a b : List Int) : List Int := List.zipWith plusI a b
def subP (a b : List Int) : List Int := List.zipWith minusI a b
theorem add_n (a b : List Int) (hl : a.length ≤ 1048576) (hab : a.length = b.length) : NC Tryz.prog 125 [.sl (a.map encInt), .sl (b.map encInt)] (intRow (addP a b)) (fun j => .tup [.os j, int 0]) := by
  refine NC.body (c := Tryz.f125.body.getD .skip) (fun _ => false) mixed Tryz.func125 rfl (by kernel_rfl) ?_
  unfold Tryz.f125
  simp only [Option.getD_some]
  simp only [go_sem]
  refine NC.use (combine_n a b hl hab (by simp only [go_sem]) plus_c) fun j hj => ?_
  simp only [go_sem]
  exact ⟨j, rfl, updH_same _ _ _⟩
theorem sub_n (a b : List Int) (hl : a.length ≤ 1048576) (hab : a.length = b.length) : NC Tryz.prog 126 [.sl (a.map encInt), .sl (b.map encInt)] (intRow (subP a b)) (fun j => .tup [.os j, int 0]) := by
  refine NC.body (c := Tryz.f126.body.getD .skip) (fun _ => false) mixed Tryz.func126 rfl (by kernel_rfl) ?_
  unfold Tryz.f126
  simp only [Option.getD_some]
  simp only [go_sem]
  refine NC.use (combine_n a b hl hab (by simp only [go_sem]) minus_c) fun j hj => ?_
  simp only [go_sem]
  exact ⟨j, rfl, updH_same _ _ _⟩
theorem NC.pc2 {f : FuncId} {args : List AV} {r : Row} {y : AV} (h : NC Tryz.prog f args r (fun j => .tup [.os j, y])) : PC Tryz.prog f args (.tup [.sl r.es, y]) :=
  RC.conv (RC.mono h fun x H' ⟨k, hx, hk⟩ => by rw [hx]; exact .tup _ _ (.cons _ _ _ _ (.row _ _ _ hk (ConvE.refl _)) (ConvL.refl _)))
theorem lfits_c (a c : List Int) (hl : a.length ≤ 1048576) : PC Tryz.prog 90 [.sl (a.map encInt), .sl (c.map encInt)] (boo (fits06 a c)) := by
  refine PC.body (c := Tryz.f90.body.getD .skip) (fun _ => false) mixed Tryz.func90 rfl (by kernel_rfl) ?_
  unfold Tryz.f90
  simp only [Option.getD_some]
  simp only [go_sem]
  refine acond_i (fun hb => ?_) (fun hb => ?_)
  · simp only [go_sem]
    refine convB ?_
    unfold fits06
    have : ((a.length : Int) == (c.length : Int)) = false := by simpa [bne] using hb
    rw [this]; rfl
  have hac : a.length = c.length := by simp [bne] at hb; omega
  simp only [go_sem]
  refine ⟨fun ρ _ => ∃ k : Nat, k ≤ a.length ∧ ρ 1 = .sl (c.map encInt) ∧ ρ 12 = .sl (a.map encInt) ∧ ρ 13 = int a.length ∧ ρ 14 = int k ∧ ∀ i ∈ (List.range a.length).take k, decide (a.getD i 0 > c.getD i 0) = false, fun ρ _ => a.length - natOf (ρ 14), ⟨0, Nat.zero_le _, rfl, rfl, by simp only [go_sem, List.length_map], rfl, by simp⟩, ?_⟩
  rintro ρ H ⟨k, hk, h1, h12, h13, h14, hz⟩
  simp only [go_sem, h1, h12, h13, h14]
  refine acond_i (fun hlt => ?_) (fun hge => ?_)
  · have hlt := le_of_lt_b hlt
    obtain ⟨p, hp⟩ := getIn hlt
    obtain ⟨q, hq⟩ := getIn (show k < c.length by omega)
    have b1 := inB hlt
    have b2 := inB (show k < c.length by omega)
    have e1 : a.getD k 0 = p := by simp [List.getD, hp]
    have e2 : c.getD k 0 = q := by simp [List.getD, hq]
    simp only [go_sem, h1, h12, h13, h14, getD_map hp, getD_map hq, b1, b2]
    refine acond_i (fun hb' => ?_) (fun hb' => ?_)
    · simp only [go_sem]
      refine convB ?_
      unfold fits06
      symm
      rw [Bool.and_eq_false_iff]
      right
      exact all_hit (range_get hlt) (by rw [e1, e2, hb']; rfl)
    · simp only [go_sem, h1, h12, h13, h14, wrapS (show k ≤ 4611686018427387904 by omega)]
      exact ⟨⟨k + 1, hlt, rfl, take_allP (p := fun i => decide (a.getD i 0 > c.getD i 0) = false) (range_get hlt) (by rw [e1, e2]; exact hb') hz⟩, by simp only [natOf_int]; omega⟩
  · have hge := eq_of_ge_b hk hge
    subst hge
    simp only [go_sem]
    refine convB ?_
    unfold fits06
    symm
    rw [Bool.and_eq_true]
    refine ⟨by simp [hac], List.all_eq_true.2 fun i hi => ?_⟩
    rw [hz i (by rw [List.take_of_length_le (by simp)]; exact hi)]; rfl
theorem dims_c (x : Instance) : PC Tryz.prog 124 [.sl (x.types.map encVType)] (int (dims17 x)) := by
  refine PC.body (c := Tryz.f124.body.getD .skip) (fun _ => false) mixed Tryz.func124 rfl (by kernel_rfl) ?_
  unfold Tryz.f124
  simp only [Option.getD_some]
  simp only [go_sem]
  refine acond_i (fun hb => ?_) (fun hb => ?_)
  · simp only [go_sem]
    have : x.types = [] := List.eq_nil_of_length_eq_zero (by simp at hb; simpa using hb)
    exact convI (by unfold dims17; rw [this]; rfl)
  · have h0 : 0 < x.types.length := by
      rcases Nat.eq_zero_or_pos x.types.length with h | h
      · rw [h] at hb; simp at hb
      · exact h
    obtain ⟨t, ht⟩ := getIn h0
    have b1 : (0 : Int) ≤ 0 ∧ (0 : Int) < (x.types.length : Int) := ⟨Int.le_refl _, by omega⟩
    simp only [go_sem, getD_map (k := 0) ht, b1]
    exact convI (by unfold dims17; rw [ht])
def ableP (c s : Int) : Bool := (decide (c ≥ 0) && decide (s ≥ 0)) && (bitV .andNot .i64 s c == 0)
theorem able_c (t : VType) (s : Int) : PC Tryz.prog 86 [.agg (encVType t), int s] (boo (ableP t.skills s)) := by
  refine PC.body (c := Tryz.f86.body.getD .skip) (fun _ => false) mixed Tryz.func86 rfl (by kernel_rfl) ?_
  unfold Tryz.f86
  simp only [Option.getD_some]
  simp only [go_sem]
  exact .refl _
/-! ### carry -/
def startS (x : Instance) (s : List Int) (i : Int) : List Int := match x.orders[i.toNat]? with
  | some o => if decide (o.pick.place < 0) = true then addP s o.load else s
  | none => s
def startP (x : Instance) (set dims : Int) : List Int := (memS set).foldl (startS x) (List.replicate dims.toNat 0)
theorem foldl_take {α β : Type} {f : β → α → β} {l : List α} {k : Nat} {x : α} {b : β} (h : l[k]? = some x) : (l.take (k + 1)).foldl f b = f ((l.take k).foldl f b) x := by rw [take_succ h, List.foldl_append]; rfl
theorem startP_len {x : Instance} {d : Nat} (hd : ∀ o ∈ x.orders, o.load.length = d) (l : List Int) : (l.foldl (startS x) (List.replicate d 0)).length = d := by
  suffices ∀ (l : List Int) (s : List Int), s.length = d → (l.foldl (startS x) s).length = d from this l _ (by simp)
  intro l
  induction l with
  | nil => intro s h; exact h
  | cons i r ih =>
    intro s h
    rw [List.foldl_cons]
    refine ih _ ?_
    unfold startS
    split
    · rename_i o ho
      split
      · unfold addP
        rw [List.length_zipWith, h, hd o (List.mem_of_getElem? ho), Nat.min_self]
      · exact h
    · exact h
theorem start_c (x : Instance) (set dims : Int) (h0 : 0 ≤ dims) (h1 : dims ≤ 1048576) (hd : ∀ o ∈ x.orders, o.load.length = dims.toNat) (hm : ∀ i ∈ memS set, 0 ≤ i ∧ i < (x.orders.length : Int)) :
    PC Tryz.prog 123 [.agg (encInstance x), int set, int dims] (.sl ((startP x set dims).map encInt)) := by
  have hml : (memS set).length ≤ 63 := memU_len set 63
  refine PC.body (c := Tryz.f123.body.getD .skip) (fun t => t == 28) mixed Tryz.func123 rfl (by kernel_rfl) ?_
  unfold Tryz.f123
  simp only [Option.getD_some]
  simp only [go_sem]
  refine ⟨⟨⟨h0, Int.le_refl _⟩, by omega⟩, anew_i fun j hj => ?_⟩
  simp only [go_sem]
  refine PC.use (members_c set) ?_
  simp only [go_sem]
  refine ⟨fun ρ H => ∃ k : Nat, k ≤ (memS set).length ∧ ρ 3 = .rp (encInstance x) 0 ∧ ρ 13 = .sl ((memS set).map encInt) ∧ ρ 14 = int (memS set).length ∧ ρ 15 = int k ∧ ∃ j, ρ 7 = .os j ∧ H j = some (intRow (((memS set).take k).foldl (startS x) (List.replicate dims.toNat 0))), fun ρ _ => (memS set).length - natOf (ρ 15), ⟨0, Nat.zero_le _, rfl, rfl, by simp only [go_sem, List.length_map], rfl, j, rfl, ?_⟩, ?_⟩
  · rw [updH_same]; simp [intRow, List.map_replicate, encInt]
  clear hj
  rintro ρ H ⟨k, hk, h3, h13, h14, h15, j, h7, R⟩
  simp only [go_sem, h3, h13, h14, h15, h7]
  refine acond_i (fun hlt => ?_) (fun hge => ?_)
  · have hlt := le_of_lt_b hlt
    obtain ⟨i, hi⟩ := getIn hlt
    have b1 := inB hlt
    have b2 := hm i (List.mem_of_getElem? hi)
    obtain ⟨o, ho⟩ := getIn (show i.toNat < x.orders.length by omega)
    have es : ((memS set).take (k + 1)).foldl (startS x) (List.replicate dims.toNat 0) = if decide (o.pick.place < 0) = true then addP (((memS set).take k).foldl (startS x) (List.replicate dims.toNat 0)) o.load else ((memS set).take k).foldl (startS x) (List.replicate dims.toNat 0) := by
      rw [foldl_take hi, startS, ho]
    have hsl := startP_len hd ((memS set).take k)
    generalize hS : ((memS set).take k).foldl (startS x) (List.replicate dims.toNat 0) = s at *
    simp only [go_sem, h3, h13, h14, h15, h7, getD_map hi, b1, getD_map ho, b2]
    refine acond_i (fun hb => ?_) (fun hb => ?_)
    · simp only [go_sem, h3, h13, h14, h15, h7, getD_map ho, b2]
      refine afreeze_i (by simp only [go_sem, h7]) R fun Hr hr0 hr => ?_
      simp only [go_sem, h3, h13, h14, h15, h7, getD_map ho, b2]
      refine NC.use (add_n s o.load (by omega) (by rw [hsl, hd o (List.mem_of_getElem? ho)])) fun j2 hj2 => ?_
      simp only [go_sem, h3, h13, h14, h15, h7, wrapS (show k ≤ 4611686018427387904 by omega)]
      exact ⟨⟨k + 1, hlt, rfl, j2, rfl, by rw [es, if_pos hb]; exact updH_same _ _ _⟩, by simp only [natOf_int]; omega⟩
    · simp only [go_sem, h3, h13, h14, h15, h7, wrapS (show k ≤ 4611686018427387904 by omega)]
      exact ⟨⟨k + 1, hlt, rfl, j, rfl, by rw [es, if_neg (by rw [hb]; simp)]; exact R⟩, by simp only [natOf_int]; omega⟩
  · have hge := eq_of_ge_b hk hge
    subst hge
    rw [List.take_length] at R
    simp only [go_sem, h7]
    exact .row _ _ _ R (ConvE.refl _)
/-! ### the loads along a route -/
def chgP (x : Instance) (s : List Int) (v : Visit) : List Int := match x.orders[v.order.toNat]? with
  | some o => if v.drop = true then subP s o.load else addP s o.load
  | none => s
def nowP (x : Instance) (l : List Visit) (k : Nat) : List Int := (l.take k).foldl (chgP x) (startP x (orders16 l).1 (dims17 x))
def loadsP (x : Instance) (l : List Visit) (k : Nat) : List (List Int) := (List.range k).map (nowP x l)
theorem nowP_succ {x : Instance} {l : List Visit} {k : Nat} {v : Visit} (h : l[k]? = some v) : nowP x l (k + 1) = chgP x (nowP x l k) v := foldl_take h
structure LoadB (x : Instance) : Prop where
  dims : 0 ≤ dims17 x ∧ dims17 x ≤ 1048576
  load : ∀ o ∈ x.orders, o.load.length = (dims17 x).toNat
  few : x.orders.length ≤ 63
theorem chgP_len {x : Instance} (hx : LoadB x) {s : List Int} {v : Visit} (h : s.length = (dims17 x).toNat) : (chgP x s v).length = (dims17 x).toNat := by
  unfold chgP
  split
  · rename_i o ho
    have := hx.load o (List.mem_of_getElem? ho)
    split
    · unfold subP; rw [List.length_zipWith, h, this, Nat.min_self]
    · unfold addP; rw [List.length_zipWith, h, this, Nat.min_self]
  · exact h
theorem nowP_len {x : Instance} (hx : LoadB x) (l : List Visit) (k : Nat) : (nowP x l k).length = (dims17 x).toNat := by
  suffices ∀ (l : List Visit) (s : List Int), s.length = (dims17 x).toNat → (l.foldl (chgP x) s).length = (dims17 x).toNat from this _ _ (startP_len hx.load _)
  intro l
  induction l with
  | nil => intro s h; exact h
  | cons v r ih => intro s h; rw [List.foldl_cons]; exact ih _ (chgP_len hx h)
theorem mem_memS {s : Nat} {i : Int} (h : i ∈ memS (s : Int)) : 0 ≤ i ∧ i ≤ 62 ∧ s.testBit i.toNat = true := by
  unfold memS memU at h
  obtain ⟨k, hk, rfl⟩ := List.mem_map.1 h
  obtain ⟨h1, h2⟩ := List.mem_filter.1 hk
  have hlt := List.mem_range.1 h1
  refine ⟨by omega, by omega, ?_⟩
  rwa [hasR_nat (by omega) (by omega)] at h2
theorem seq_in {x : Instance} {l : List Visit} (h : seqP x l = 0) : ∀ v ∈ l, 0 ≤ v.order ∧ v.order < (x.orders.length : Int) := by
  intro v hv
  by_cases hb : ((l.length : Int) == 0 || l.any fun v => badNo v.order x.orders.length) = true
  · unfold seqP at h; rw [if_pos hb] at h; cases h
  · have hb : badNo v.order x.orders.length = false := by
      rw [Bool.not_eq_true, Bool.or_eq_false_iff] at hb
      have := List.any_eq_false.1 hb.2 v hv
      simpa using this
    simp only [badNo, Bool.or_eq_false_iff, decide_eq_false_iff_not] at hb
    omega
theorem orders_ok {x : Instance} (hx : LoadB x) {l : List Visit} (h : ∀ v ∈ l, 0 ≤ v.order ∧ v.order < (x.orders.length : Int)) : orders16 l = (((setN l : Nat) : Int), 0) ∧ ∀ i ∈ memS (orders16 l).1, 0 ≤ i ∧ i < (x.orders.length : Int) := by
  have hbad : ∀ v ∈ l, badO v = false := fun v hv => by
    have := h v hv
    have := hx.few
    simp only [badO, Bool.or_eq_false_iff, decide_eq_false_iff_not]; omega
  have e : orders16 l = (((setN l : Nat) : Int), 0) := by
    unfold orders16
    rw [if_neg (by rw [any_no hbad]; simp), foldO_set hbad]
  refine ⟨e, fun i hi => ?_⟩
  rw [e] at hi
  obtain ⟨h0, h1, h2⟩ := mem_memS hi
  rw [setN_bit] at h2
  obtain ⟨v, hv, he⟩ := List.any_eq_true.1 h2
  have := h v hv
  have : v.order.toNat = i.toNat := by simpa using he
  omega
def cLoads (x : Instance) (l : List Visit) : List (List Int) × Int := if (seqP x l != 0) = true then ([], seqP x l) else (loadsP x l (l.length + 1), 0)
theorem cloads_c (x : Instance) (r : Route) (hx : LoadB x) (hl : r.visits.length ≤ 1048576) (ha : x.apart.length ≤ 1048576) (hb : x.before.length ≤ 1048576) :
    PC Tryz.prog 87 [.agg (encInstance x), .agg (encRoute r)] (.tup [.sl ((cLoads x r.visits).1.map encInts), int (cLoads x r.visits).2]) := by
  refine PC.body (c := Tryz.f87.body.getD .skip) (fun t => t == 35) mixed Tryz.func87 rfl (by kernel_rfl) ?_
  unfold Tryz.f87
  simp only [Option.getD_some]
  simp only [go_sem]
  refine PC.use (seqCheck_c x r hl ha hb) ?_
  simp only [go_sem]
  refine acond_i (fun hc => ?_) (fun hc => ?_)
  · simp only [go_sem]
    have : cLoads x r.visits = ([], seqP x r.visits) := by unfold cLoads; rw [if_pos hc]
    rw [this]; exact .refl _
  have e0 : cLoads x r.visits = (loadsP x r.visits (r.visits.length + 1), 0) := by unfold cLoads; rw [if_neg (by rw [hc]; simp)]
  have hs0 : seqP x r.visits = 0 := by simpa [bne] using hc
  have hin := seq_in hs0
  obtain ⟨eo, hm⟩ := orders_ok hx hin
  simp only [go_sem]
  refine PC.use (orders_c r hl) ?_
  simp only [go_sem]
  refine acond_i (fun hb2 => by rw [eo] at hb2; simp at hb2) (fun _ => ?_)
  simp only [go_sem]
  refine adraw_m [(0, true), (1, true), (2, false), (3, false), (4, false), (5, false), (6, false)] (by kernel_rfl) ?_
  simp only [go_sem]
  refine PC.use (dims_c x) ?_
  simp only [go_sem]
  refine PC.use (start_c x _ _ hx.dims.1 hx.dims.2 hx.load hm) ?_
  simp only [go_sem]
  refine anew_i fun j hj => ?_
  simp only [go_sem]
  refine ⟨fun ρ H => ∃ k : Nat, k ≤ r.visits.length ∧ ρ 2 = .rp (encInstance x) 0 ∧ ρ 37 = .sl (r.visits.map encVisit) ∧ ρ 38 = int r.visits.length ∧ ρ 39 = int k ∧ ρ 9 = .sl ((nowP x r.visits k).map encInt) ∧ ∃ j, ρ 10 = .os j ∧ H j = some (llRow (loadsP x r.visits (k + 1))), fun ρ _ => r.visits.length - natOf (ρ 39), ⟨0, Nat.zero_le _, rfl, rfl, by simp only [go_sem, List.length_map], rfl, rfl, j, rfl, updH_same _ _ _⟩, ?_⟩
  clear hj
  rintro ρ H ⟨k, hk, h2, h37, h38, h39, h9, j, h10, R⟩
  simp only [go_sem, h2, h37, h38, h39, h9, h10]
  refine acond_i (fun hlt => ?_) (fun hge => ?_)
  · have hlt := le_of_lt_b hlt
    obtain ⟨v, hv⟩ := getIn hlt
    have b1 := inB hlt
    have hiv := hin v (List.mem_of_getElem? hv)
    obtain ⟨o, ho⟩ := getIn (show v.order.toNat < x.orders.length by omega)
    have hlo := hx.load o (List.mem_of_getElem? ho)
    have hnl := nowP_len hx r.visits k
    have hd := hx.dims
    have hn := nowP_succ (x := x) hv
    unfold chgP at hn
    rw [ho] at hn
    simp only at hn
    simp only [go_sem, h2, h37, h38, h39, h9, h10, getD_map hv, b1]
    refine anew_i fun i12 hi120 => ?_
    have ne_j_i12 : j ≠ i12 := ne_new R hi120
    simp only [go_sem, h2, h37, h38, h39, h9, h10, R]
    refine wputE_n (updH_same _ _ _) (by simp [encVisit_len]) ?_
    generalize hGi12 : updH (updH _ i12 _) i12 _ = HGi12
    replace R := (congrFun hGi12.symm j).trans ((updH_ne _ _ _ _ ne_j_i12).trans ((updH_ne _ _ _ _ ne_j_i12).trans R))
    have R12 : HGi12 i12 = some (⟨95, 2, [encVisit v]⟩) := by rw [← hGi12, updH_same]; rfl
    clear hGi12 hi120
    simp only [go_sem, h2, h37, h38, h39, h9, h10, R12, R]
    have hlp : loadsP x r.visits (k + 2) = loadsP x r.visits (k + 1) ++ [nowP x r.visits (k + 1)] := by unfold loadsP; rw [List.range_succ, List.map_append]; rfl
    have hll : (loadsP x r.visits (k + 1)).length = k + 1 := by simp [loadsP]
    refine acond_i (fun hb' => ?_) (fun hb' => ?_)
    · simp only [go_sem, h2, h37, h38, h39, h9, h10, R12, getD_map ho, hiv]
      refine PC.use (NC.pc2 (sub_n (nowP x r.visits k) o.load (by omega) (by omega))) ?_
      simp only [go_sem, h2, h37, h38, h39, h9, h10]
      refine acond_i (fun hb => by simp at hb) (fun _ => ?_)
      simp only [go_sem, h2, h37, h38, h39, h9, h10]
      refine wappE_i R ⟨rfl, rfl⟩ ⟨rfl, trivial⟩ (by simp only [List.length_map, hll, List.length_cons, List.length_nil]; omega) (fun j' hj' => ?_)
      simp only [go_sem, h2, h37, h38, h39, wrapS (show k ≤ 4611686018427387904 by omega)]
      refine ⟨⟨k + 1, hlt, rfl, by rw [hn, if_pos hb'], j', rfl, ?_⟩, by simp only [natOf_int]; omega⟩
      rw [updH_same, hlp, hn, if_pos hb']
      show _ = some (⟨32, 1, _⟩ : Row)
      rw [List.map_append]; rfl
    · simp only [go_sem, h2, h37, h38, h39, h9, h10, R12, getD_map ho, hiv]
      refine PC.use (NC.pc2 (add_n (nowP x r.visits k) o.load (by omega) (by omega))) ?_
      simp only [go_sem, h2, h37, h38, h39, h9, h10]
      refine acond_i (fun hb => by simp at hb) (fun _ => ?_)
      simp only [go_sem, h2, h37, h38, h39, h9, h10]
      refine wappE_i R ⟨rfl, rfl⟩ ⟨rfl, trivial⟩ (by simp only [List.length_map, hll, List.length_cons, List.length_nil]; omega) (fun j' hj' => ?_)
      simp only [go_sem, h2, h37, h38, h39, wrapS (show k ≤ 4611686018427387904 by omega)]
      refine ⟨⟨k + 1, hlt, rfl, by rw [hn, if_neg (by rw [hb']; simp)], j', rfl, ?_⟩, by simp only [natOf_int]; omega⟩
      rw [updH_same, hlp, hn, if_neg (by rw [hb']; simp)]
      show _ = some (⟨32, 1, _⟩ : Row)
      rw [List.map_append]; rfl
  · have hge := eq_of_ge_b hk hge
    subst hge
    simp only [go_sem, h10]
    rw [e0]
    exact .tup _ _ (.cons _ _ _ _ (.row _ _ _ R (ConvE.refl _)) (ConvL.refl _))
theorem fits1_c (x : Instance) (r : Route) (a : List Int) (hl : a.length ≤ 1048576) (hb : badNo r.type x.types.length = false) :
    PC Tryz.prog 89 [.sl (a.map encInt), .rp (encInstance x) 0, .rp (encRoute r) 0] (boo (!fits06 a (capAt x r.type))) := by
  have hin : 0 ≤ r.type ∧ r.type < (x.types.length : Int) := by
    simp only [badNo, Bool.or_eq_false_iff, decide_eq_false_iff_not] at hb; omega
  obtain ⟨t, ht⟩ := getIn (show r.type.toNat < x.types.length by omega)
  have ec : capAt x r.type = t.cap := by unfold capAt; rw [ht]
  refine PC.body (c := Tryz.f89.body.getD .skip) (fun _ => false) mixed Tryz.func89 rfl (by kernel_rfl) ?_
  unfold Tryz.f89
  simp only [Option.getD_some]
  simp only [go_sem]
  simp only [go_sem, getD_map ht, hin]
  refine PC.use (lfits_c a t.cap hl) ?_
  simp only [go_sem]
  rw [ec]
  exact .refl _
def cFits (x : Instance) (r : Route) : Int :=
  if badNo r.type x.types.length = true then 2 else if ((cLoads x r.visits).2 != 0) = true then (cLoads x r.visits).2
  else if ((cLoads x r.visits).1.any fun l => !fits06 l (capAt x r.type)) = true then 17 else 0
theorem cLoads_len {x : Instance} (hx : LoadB x) {l : List Visit} : (cLoads x l).1.length ≤ l.length + 1 ∧ ∀ a ∈ (cLoads x l).1, a.length = (dims17 x).toNat := by
  unfold cLoads
  split
  · simp
  · refine ⟨by simp [loadsP], fun a ha => ?_⟩
    obtain ⟨k, _, rfl⟩ := List.mem_map.1 ha
    exact nowP_len hx l k
theorem cfits_c (x : Instance) (r : Route) (hx : LoadB x) (hl : r.visits.length ≤ 1048575) (ha : x.apart.length ≤ 1048576) (hb : x.before.length ≤ 1048576) :
    PC Tryz.prog 51 [.agg (encInstance x), .agg (encRoute r)] (int (cFits x r)) := by
  refine PC.body (c := Tryz.f51.body.getD .skip) (fun _ => false) mixed Tryz.func51 rfl (by kernel_rfl) ?_
  unfold Tryz.f51
  simp only [Option.getD_some]
  simp only [go_sem]
  refine acond_i (fun h1 => ?_) (fun h1 => ?_)
  · simp only [go_sem]
    exact convI (by unfold cFits; rw [if_pos (show badNo r.type x.types.length = true from h1)])
  have h1 : badNo r.type x.types.length = false := h1
  have c1 : ¬ badNo r.type x.types.length = true := by rw [h1]; simp
  simp only [go_sem]
  refine PC.use (cloads_c x r hx (by omega) ha hb) ?_
  simp only [go_sem]
  refine acond_i (fun h2 => ?_) (fun h2 => ?_)
  · simp only [go_sem]
    exact convI (by unfold cFits; rw [if_neg c1, if_pos h2])
  have c2 : ¬ ((cLoads x r.visits).2 != 0) = true := by rw [h2]; simp
  obtain ⟨ln, la⟩ := cLoads_len hx (l := r.visits)
  have hd := hx.dims
  simp only [go_sem]
  refine PC.use (containsFuncL_c (p := fun a => !fits06 a (capAt x r.type)) (cLoads x r.visits).1 (by omega) (by simp only [go_sem]) fun a ha' => fits1_c x r a (by rw [la a ha']; omega) h1) ?_
  simp only [go_sem]
  refine acond_i (fun h3 => ?_) (fun h3 => ?_)
  · simp only [go_sem]
    exact convI (by unfold cFits; rw [if_neg c1, if_neg c2, if_pos h3])
  · simp only [go_sem]
    exact convI (by unfold cFits; rw [if_neg c1, if_neg c2, if_neg (by rw [h3]; simp)])
end Go.Proofs.YtbefdpmjpioijaaGreatDoor.Sq
