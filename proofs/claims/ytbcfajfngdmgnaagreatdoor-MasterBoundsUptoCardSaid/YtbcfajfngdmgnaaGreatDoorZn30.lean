/- Texts joined by a program: CuF, CuG, CuH, CuI, SoA, SoB, SoC, SoD, SoE, MaA. -/
import Derived.Lib.ItoaMem
import Derived.Test.YtbcfajfngdmgnaaGreatDoorZn24
import Derived.Test.YtbcfajfngdmgnaaGreatDoorZn27
import Derived.Test.YtbcfajfngdmgnaaGreatDoorZn29

section
set_option linter.unusedSimpArgs false
set_option linter.unusedVariables false
namespace Go.Proofs.YtbcfajfngdmgnaaGreatDoor.Nu
open Go.Aw Go.Aw.D Go.Proofs Ty Go.Nu
set_option maxRecDepth 100000
def tripsF : List Int → List Int → Int → Int × Int
  | n :: a, c :: l, t => if n ≤ 0 then tripsF a l t else if c = 0 then (0, 24) else tripsF a l (imax t ((n + c - 1).tdiv c))
  | _, _, t => (t, 0)
def tripsL (a c : List Int) : Int × Int := if a.length ≠ c.length then (0, 2) else if c.any (fun n => decide (n < 0)) = true then (0, 2) else tripsF a c 0
def Mid (n : Int) : Prop := -1099511627776 ≤ n ∧ n ≤ 1099511627776
theorem ltrips_c (a c : List Int) (hl : a.length ≤ 1048576) (hl2 : c.length ≤ 1048576) (ha : ∀ n ∈ a, Mid n) (hc : ∀ n ∈ c, Mid n) :
    PC Tryz.prog 159 [.sl (a.map encInt), .sl (c.map encInt)] (.tup [int (tripsL a c).1, int (tripsL a c).2]) := by
  refine PC.body (c := Tryz.f159.body.getD .skip) (fun _ => false) mixed Tryz.func159 rfl (by kernel_rfl) ?_
  unfold Tryz.f159
  simp only [Option.getD_some]
  simp only [go_sem]
  refine acond_i (fun hb => ?_) (fun hb => ?_)
  · have hb : a.length ≠ c.length := neN hb
    simp only [go_sem]
    rw [show tripsL a c = (0, 2) from if_pos hb]
    exact .refl _
  have hb : a.length = c.length := eqN hb
  have e0 : tripsL a c = if c.any (fun n => decide (n < 0)) = true then (0, 2) else tripsF a c 0 := if_neg (by simp [hb])
  rw [e0]
  simp only [go_sem, List.length_map]
  refine ⟨fun ρ H => ∃ (k : Nat), k ≤ c.length ∧ ρ 0 = .sl (a.map encInt) ∧ ρ 1 = .sl (c.map encInt) ∧ ρ 17 = .sl (c.map encInt) ∧ ρ 18 = int (c.length : Nat) ∧ ρ 19 = int k ∧ ∀ n ∈ c.take k, 0 ≤ n, fun ρ _ => c.length - natOf (ρ 19), ⟨0, Nat.zero_le _, by simp only [go_sem], by simp only [go_sem], by simp only [go_sem], by simp only [go_sem, List.length_map], (by simp only [go_sem]; rfl), by simp⟩, ?_⟩
  rintro ρ H ⟨k, hk, e0, e1, e17, e18, e19, hz⟩
  simp only [go_sem, e0, e1, e17, e18, e19]
  refine acond_i (fun hlt => ?_) (fun hge => ?_)
  · have hlt := ltB hlt
    obtain ⟨n, hn⟩ := getIn hlt
    have b1 := inB hlt
    simp only [go_sem, e0, e1, e17, e18, e19, getD_map hn, b1]
    refine acond_i (fun hd => ?_) (fun hd => ?_)
    · simp only [go_sem]
      rw [if_pos (any_yes hn hd)]
      exact .refl _
    · simp only [go_sem, e0, e1, e17, e18, e19, wrapS (show k ≤ 4611686018427387904 by omega)]
      exact ⟨⟨k + 1, hlt, rfl, take_all' hn (by simpa using hd) hz⟩, by simp only [natOf_int]; omega⟩
  have hge := geB hk hge
  subst hge
  rw [List.take_length] at hz
  rw [if_neg (by rw [any_none fun n hn => by simpa using hz n hn]; simp)]
  simp only [go_sem, e0, e1, e17, e18, e19, List.length_map]
  refine ⟨fun ρ H => ∃ (k : Nat) (t:Int), k ≤ a.length ∧ ρ 1 = .sl (c.map encInt) ∧ ρ 26 = .sl (a.map encInt) ∧ ρ 27 = int (a.length : Nat) ∧ ρ 28 = int k ∧ ρ 8 = int t ∧ tripsF a c 0 = tripsF (a.drop k) (c.drop k) t, fun ρ _ => a.length - natOf (ρ 28), ⟨0, 0, Nat.zero_le _, by simp only [go_sem, e0, e1, e17, e18, e19], by simp only [go_sem, e0, e1, e17, e18, e19], by simp only [go_sem, List.length_map, e0, e1, e17, e18, e19], (by simp only [go_sem, e0, e1, e17, e18, e19]; rfl), by simp only [go_sem], rfl⟩, ?_⟩
  rintro ρ H ⟨k, t, hk, e1, e26, e27, e28, e8, hi⟩
  simp only [go_sem, e1, e26, e27, e28, e8]
  refine acond_i (fun hlt => ?_) (fun hge => ?_)
  · have hlt := ltB hlt
    obtain ⟨n, hn⟩ := getIn hlt
    obtain ⟨m, hm⟩ := getIn (l := c) (k := k) (by omega)
    have b1 := inB hlt
    have b2 := inB (show k < c.length by omega)
    have hn1 := ha n (List.mem_of_getElem? hn)
    have hm1 := hc m (List.mem_of_getElem? hm)
    have hm0 := hz m (List.mem_of_getElem? hm)
    unfold Mid at hn1 hm1
    rw [drop_at hn, drop_at hm, tripsF] at hi
    simp only [go_sem, e1, e26, e27, e28, e8, getD_map hn, getD_map hm, b1, b2]
    refine acond_i (fun hd => ?_) (fun hd => ?_)
    · rw [if_pos (by simpa using hd)] at hi
      simp only [go_sem, e1, e26, e27, e28, e8, wrapS (show k ≤ 4611686018427387904 by omega)]
      exact ⟨⟨k + 1, t, hlt, rfl, rfl, hi⟩, by simp only [natOf_int]; omega⟩
    have hd : ¬ n ≤ 0 := by simpa using hd
    rw [if_neg hd] at hi
    simp only [go_sem, e1, e26, e27, e28, e8]
    refine acond_i (fun h0 => ?_) (fun h0 => ?_)
    · rw [if_pos (by simpa using h0)] at hi
      rw [hi]
      simp only [go_sem]
      exact .refl _
    have h0 : m ≠ 0 := by simpa using h0
    rw [if_neg h0] at hi
    have w1 : IntKind.i64.wrap (n + m) = n + m := wrap_in (by omega)
    have w2 : IntKind.i64.wrap (n + m - 1) = n + m - 1 := wrap_in (by omega)
    have w3 : IntKind.i64.wrap ((n + m - 1).tdiv m) = (n + m - 1).tdiv m := wrap_in (by
      have h1 := Int.tdiv_nonneg (a := n + m - 1) (b := m) (by omega) (by omega)
      have h2 := Int.tdiv_le_self m (a := n + m - 1) (by omega)
      omega)
    simp only [go_sem, e1, e26, e27, e28, e8, w1, w2, w3, wrapS (show k ≤ 4611686018427387904 by omega)]
    exact ⟨h0, ⟨k + 1, _, hlt, rfl, rfl, hi⟩, by simp only [natOf_int]; omega⟩
  · have hge := geB hk hge
    subst hge
    have ea : a.drop a.length = [] := List.drop_length
    have : tripsF a c 0 = (t, 0) := by rw [hi, ea]; unfold tripsF; rfl
    rw [this]
    simp only [go_sem, e1, e26, e27, e28, e8]
    exact .refl _
def loadOf (l : List Order) (dim : Nat) (i : Int) : Int := (orderAt l i).load.getD dim 0
def loadSum (l : List Order) (ms : List Int) (dim : Nat) : Int := (ms.map (loadOf l dim)).sum
def capMax (l : List VType) (dim : Nat) : Int := l.foldl (fun c t => imax c (t.cap.getD dim 0)) 0
def tripsD (x : Instance) (ms : List Int) (dim : Nat) : Int := if (tripsL [loadSum x.orders ms dim] [capMax x.types dim]).2 ≠ 0 then 0 else (tripsL [loadSum x.orders ms dim] [capMax x.types dim]).1
structure LoadsOk (x : Instance) (d : Nat) : Prop where
  dims : d ≤ 3
  orders : x.orders.length ≤ 62
  types : x.types.length ≤ 1048576
  load : ∀ o ∈ x.orders, o.load.length = d ∧ ∀ n ∈ o.load, 0 ≤ n ∧ n ≤ 1000
  cap : ∀ t ∈ x.types, t.cap.length = d ∧ ∀ n ∈ t.cap, 0 ≤ n ∧ n ≤ 1000
theorem loadOf_in {x : Instance} {d dim : Nat} (h : LoadsOk x d) (hd : dim < d) {i : Int} (hi : 0 ≤ i ∧ i < (x.orders.length : Int)) : 0 ≤ loadOf x.orders dim i ∧ loadOf x.orders dim i ≤ 1000 := by
  obtain ⟨n, rfl⟩ := Int.eq_ofNat_of_zero_le hi.1
  obtain ⟨o, ho⟩ := getIn (show n < x.orders.length by omega)
  unfold loadOf
  rw [orderAt_get ho]
  obtain ⟨h1, h2⟩ := h.load o (List.mem_of_getElem? ho)
  obtain ⟨v, hv⟩ := getIn (show dim < o.load.length by omega)
  rw [List.getD, hv]
  exact h2 v (List.mem_of_getElem? hv)
theorem loadSum_in {x : Instance} {d dim : Nat} (h : LoadsOk x d) (hd : dim < d) : ∀ {ms : List Int}, Memb x.orders ms → 0 ≤ loadSum x.orders ms dim ∧ loadSum x.orders ms dim ≤ 1000 * ms.length
  | [], _ => by simp [loadSum]
  | i :: ms, hm => by
    have h1 := loadOf_in h hd (hm i (by simp))
    have h2 := loadSum_in h hd (ms := ms) fun j hj => hm j (by simp [hj])
    unfold loadSum at h2 ⊢
    rw [List.map_cons, List.sum_cons, List.length_cons]
    omega
theorem loadSum_snoc (l : List Order) (ms : List Int) (i : Int) (dim : Nat) : loadSum l (ms ++ [i]) dim = loadSum l ms dim + loadOf l dim i := by simp [loadSum]
theorem capMax_snoc (l : List VType) (t : VType) (dim : Nat) : capMax (l ++ [t]) dim = imax (capMax l dim) (t.cap.getD dim 0) := by simp [capMax]
theorem imax_in {a b c : Int} (h1 : 0 ≤ a ∧ a ≤ c) (h2 : 0 ≤ b ∧ b ≤ c) : 0 ≤ imax a b ∧ imax a b ≤ c := by unfold imax; split <;> omega
theorem capMax_in {x : Instance} {d dim : Nat} (h : LoadsOk x d) (hd : dim < d) : ∀ k, 0 ≤ capMax (x.types.take k) dim ∧ capMax (x.types.take k) dim ≤ 1000
  | 0 => by simp [capMax]
  | k + 1 => by
    have ih := capMax_in h hd k
    rcases Nat.lt_or_ge k x.types.length with hk | hk
    · obtain ⟨t, ht⟩ := getIn hk
      rw [take_succ ht, capMax_snoc]
      obtain ⟨h1, h2⟩ := h.cap t (List.mem_of_getElem? ht)
      obtain ⟨v, hv⟩ := getIn (show dim < t.cap.length by omega)
      refine imax_in ih ?_
      rw [List.getD, hv]
      exact h2 v (List.mem_of_getElem? hv)
    · rw [List.take_of_length_le (by omega)] at ih ⊢; exact ih
theorem trips_c (x : Instance) (ms : List Int) (dim d : Nat) (h : LoadsOk x d) (hd : dim < d) (hm : Memb x.orders ms) (hl : ms.length ≤ 63) :
    PC Tryz.prog 87 [.agg (encInstance x), .sl (ms.map encInt), int dim] (int (tripsD x ms dim)) := by
  have ho62 := h.orders
  have ht62 := h.types
  refine PC.body (c := Tryz.f87.body.getD .skip) (fun _ => false) mixed Tryz.func87 rfl (by kernel_rfl) ?_
  unfold Tryz.f87
  simp only [Option.getD_some]
  simp only [go_sem]
  refine ⟨fun ρ H => ∃ (k : Nat), k ≤ ms.length ∧ ρ 2 = int dim ∧ ρ 3 = .rp (encInstance x) 0 ∧ ρ 8 = int 0 ∧ ρ 15 = .sl (ms.map encInt) ∧ ρ 16 = int (ms.length : Nat) ∧ ρ 17 = int k ∧ ρ 7 = int (loadSum x.orders (ms.take k) dim), fun ρ _ => ms.length - natOf (ρ 17), ⟨0, Nat.zero_le _, by simp only [go_sem], by simp only [go_sem], by simp only [go_sem], by simp only [go_sem], by simp only [go_sem, List.length_map], (by simp only [go_sem]; rfl), by simp only [go_sem]; rfl⟩, ?_⟩
  rintro ρ H ⟨k, hk, e2, e3, e8, e15, e16, e17, e7⟩
  simp only [go_sem, e2, e3, e8, e15, e16, e17, e7]
  refine acond_i (fun hlt => ?_) (fun hge => ?_)
  · have hlt := ltB hlt
    obtain ⟨i, hi⟩ := getIn hlt
    have b1 := inB hlt
    have him := hm i (List.mem_of_getElem? hi)
    have hlo := loadOf_in h hd him
    have hls := loadSum_in h hd (ms := ms.take k) fun j hj => hm j (List.mem_of_mem_take hj)
    have hnx := loadSum_snoc x.orders (ms.take k) i dim
    rw [← take_succ hi] at hnx
    obtain ⟨n, rfl⟩ := Int.eq_ofNat_of_zero_le him.1
    have hn : n < x.orders.length := by omega
    obtain ⟨o, hor⟩ := getIn hn
    obtain ⟨ho1, ho2⟩ := h.load o (List.mem_of_getElem? hor)
    obtain ⟨v, hv⟩ := getIn (show dim < o.load.length by omega)
    have hlv : loadOf x.orders dim (n : Int) = v := by unfold loadOf; rw [orderAt_get hor, List.getD, hv]; rfl
    have b2 := inB hn
    have b3 := inB (show dim < o.load.length by omega)
    have hkl : (ms.take k).length ≤ 63 := by rw [List.length_take]; omega
    have w1 : IntKind.i64.wrap (loadSum x.orders (ms.take k) dim + v) = loadSum x.orders (ms.take (k + 1)) dim := by rw [hnx, hlv, wrap_in (by omega)]
    simp only [go_sem, e2, e3, e8, e15, e16, e17, e7, getD_map hi, b1, getD_map hor, b2, getD_map hv, b3, w1, wrapS (show k ≤ 4611686018427387904 by omega)]
    exact ⟨⟨k + 1, hlt, rfl, rfl⟩, by simp only [natOf_int]; omega⟩
  have hge := geB hk hge
  subst hge
  rw [List.take_length] at e7
  simp only [go_sem, e2, e3, e8, e15, e16, e17, e7, List.length_map]
  refine ⟨fun ρ H => ∃ (k : Nat), k ≤ x.types.length ∧ ρ 2 = int dim ∧ ρ 7 = int (loadSum x.orders ms dim) ∧ ρ 34 = .sl (x.types.map encVType) ∧ ρ 35 = int (x.types.length : Nat) ∧ ρ 36 = int k ∧ ρ 8 = int (capMax (x.types.take k) dim), fun ρ _ => x.types.length - natOf (ρ 36), ⟨0, Nat.zero_le _, by simp only [go_sem, e2, e3, e8, e15, e16, e17, e7], by simp only [go_sem, e2, e3, e8, e15, e16, e17, e7], by simp only [go_sem, e2, e3, e8, e15, e16, e17, e7], by simp only [go_sem, List.length_map, e2, e3, e8, e15, e16, e17, e7], (by simp only [go_sem, e2, e3, e8, e15, e16, e17, e7]; rfl), by simp only [go_sem, e8]; rfl⟩, ?_⟩
  rintro ρ H ⟨k, hk, e2, e7, e34, e35, e36, e8⟩
  simp only [go_sem, e2, e7, e34, e35, e36, e8]
  refine acond_i (fun hlt => ?_) (fun hge => ?_)
  · have hlt := ltB hlt
    obtain ⟨t, ht⟩ := getIn hlt
    have b1 := inB hlt
    obtain ⟨h1, h2⟩ := h.cap t (List.mem_of_getElem? ht)
    obtain ⟨v, hv⟩ := getIn (show dim < t.cap.length by omega)
    have b3 := inB (show dim < t.cap.length by omega)
    simp only [go_sem, e2, e7, e34, e35, e36, e8, getD_map ht, b1]
    refine anew_i fun j hj0 => ?_
    simp only [go_sem, e2, e7, e34, e35, e36, e8, getD_map ht, b1]
    refine wputE_n (updH_same _ _ _) (by simp [encVType_len]) ?_
    generalize hGj : updH (updH _ j _) j _ = HGj
    have R : HGj j = some (typeRow t) := by rw [← hGj, updH_same]; rfl
    clear hGj hj0
    simp only [go_sem, e2, e7, e34, e35, e36, e8, getD_map ht, b1, R]
    simp only [go_sem, e2, e7, e34, e35, e36, e8, getD_map hv, b3, wrapS (show k ≤ 4611686018427387904 by omega)]
    refine ⟨⟨k + 1, hlt, rfl, ?_⟩, by simp only [natOf_int]; omega⟩
    rw [take_succ ht, capMax_snoc, List.getD, hv]
    rfl
  have hge := geB hk hge
  subst hge
  rw [List.take_length] at e8
  have hL := loadSum_in h hd hm
  have hC := capMax_in h hd x.types.length
  rw [List.take_length] at hC
  simp only [go_sem, e2, e7, e34, e35, e36, e8]
  have hm1 : ∀ n ∈ [loadSum x.orders ms dim], Mid n := fun n hn => by rw [List.mem_singleton.1 hn]; unfold Mid; omega
  have hm2 : ∀ n ∈ [capMax x.types dim], Mid n := fun n hn => by rw [List.mem_singleton.1 hn]; unfold Mid; omega
  refine PC.use (ltrips_c [loadSum x.orders ms dim] [capMax x.types dim] (by simp) (by simp) hm1 hm2) ?_
  unfold tripsD
  generalize tripsL [loadSum x.orders ms dim] [capMax x.types dim] = T
  simp only [go_sem]
  refine acond_i (fun hb => ?_) (fun hb => ?_)
  · simp only [go_sem]
    rw [if_pos (by simpa using hb)]
    exact .refl _
  · simp only [go_sem]
    rw [if_neg (by simpa using hb)]
    exact .refl _
end Go.Proofs.YtbcfajfngdmgnaaGreatDoor.Nu
end

section
set_option linter.unusedSimpArgs false
set_option linter.unusedVariables false
namespace Go.Proofs.YtbcfajfngdmgnaaGreatDoor.Nu
open Go.Aw Go.Aw.D Go.Proofs Ty Go.Nu
set_option maxRecDepth 100000
theorem exist_spec {n : Nat} {set : Int} (h : existP n set = true) : ∃ s : Nat, set = (s : Int) ∧ s < 2 ^ n := by
  unfold existP at h
  simp only [Bool.and_eq_true, decide_eq_true_eq, beq_iff_eq] at h
  obtain ⟨s, rfl⟩ := Int.eq_ofNat_of_zero_le h.1
  refine ⟨s, rfl, ?_⟩
  have h3 : ((2 : Int) ^ n) = ((2 ^ n : Nat) : Int) := by norm_cast
  have h2 := h.2
  rw [h3] at h2
  have h4 : s / 2 ^ n = 0 := by exact_mod_cast h2
  exact (Nat.div_eq_zero_iff_lt (Nat.two_pow_pos n)).1 h4
theorem memS_in {s n : Nat} (h : s < 2 ^ n) (hn : n ≤ 62) : ∀ i ∈ memS (s : Int), 0 ≤ i ∧ i < (n : Int) := by
  intro i hi
  unfold memS memU at hi
  obtain ⟨j, hj, rfl⟩ := List.mem_map.1 hi
  obtain ⟨hj1, hj2⟩ := List.mem_filter.1 hj
  have hj3 := List.mem_range.1 hj1
  rw [hasR_nat (by omega)] at hj2
  refine ⟨by omega, ?_⟩
  rcases Nat.lt_or_ge j n with hlt | hge
  · omega
  · rw [Nat.testBit_lt_two_pow (Nat.lt_of_lt_of_le h (Nat.pow_le_pow_right (by decide) hge))] at hj2
    cases hj2
def dimF (x : Instance) (ms : List Int) (k : Nat) : Int := (List.range k).foldl (fun n dim => imax n (tripsD x ms dim)) 1
theorem dimF_succ (x : Instance) (ms : List Int) (k : Nat) : dimF x ms (k + 1) = imax (dimF x ms k) (tripsD x ms k) := by unfold dimF; rw [List.range_succ, List.foldl_append]; rfl
def stays (x : Instance) (set : Int) : Bool := decide (set ≤ 0) || !existP x.orders.length set || !decide (set.toNat &&& mustO x = set.toNat)
def tripsP (x : Instance) (d : Nat) (set : Int) : Int := if stays x set = true then 0 else if togP x (memS set) = false then 1 else dimF x (memS set) d
theorem suchN_lt (q : Order → Bool) (l : List Order) : suchN q l < 2 ^ l.length := bitsN_lt _ _
theorem tripsA_c (x : Instance) (d : Nat) (set : Int) (h : LoadsOk x d) (ht : x.types ≠ []) : PC Tryz.prog 26 [.agg (encInstance x), int set] (int (tripsP x d set)) := by
  have ho62 := h.orders
  have hd3 := h.dims
  have hmu : mustO x < 2 ^ x.orders.length := suchN_lt _ _
  have h62 : 2 ^ x.orders.length ≤ 2 ^ 62 := Nat.pow_le_pow_right (by decide) ho62
  refine PC.body (c := Tryz.f26.body.getD .skip) (fun _ => false) mixed Tryz.func26 rfl (by kernel_rfl) ?_
  unfold Tryz.f26
  simp only [Option.getD_some]
  simp only [go_sem]
  refine ⟨_, fun _ => (exist_c x set ho62).q rfl, ?_⟩
  simp only [go_sem]
  refine ⟨_, fun _ => (must_c x ho62).q rfl, ?_⟩
  simp only [go_sem]
  refine ⟨boo (decide (set.toNat &&& mustO x = set.toNat)), fun hg => ?_, ?_⟩
  · simp at hg
    obtain ⟨s, rfl, hs⟩ := exist_spec hg.2
    exact (swithin_c s (mustO x) (by omega) (by omega)).q rfl
  simp only [go_sem]
  refine acond_i (fun hb => ?_) (fun hb => ?_)
  · simp only [go_sem]
    rw [show tripsP x d set = 0 from if_pos hb]
    exact .refl _
  have e0 : tripsP x d set = if togP x (memS set) = false then 1 else dimF x (memS set) d := if_neg (by unfold stays; rw [hb]; simp)
  rw [e0]
  obtain ⟨s, rfl, hs⟩ := exist_spec (n := x.orders.length) (set := set) (by simp at hb; exact hb.1.2)
  have hm : Memb x.orders (memS (s : Int)) := memS_in hs ho62
  have hml : (memS (s : Int)).length ≤ 63 := memU_len _ _
  simp only [go_sem]
  refine PC.use (members_c s) ?_
  simp only [go_sem]
  refine PC.use (together_c x (memS s) hm (by omega)) ?_
  simp only [go_sem]
  obtain ⟨t, r, ht2⟩ := List.exists_cons_of_ne_nil ht
  have hlen : ((x.types.length : Int) == 0) = false := by rw [ht2]; rw [beq_eq_false_iff_ne]; simp; omega
  simp only [go_sem, List.length_map, hlen]
  refine acond_i (fun hb => ?_) (fun hb => ?_)
  · simp only [go_sem]
    rw [if_pos (by simpa using hb)]
    exact .refl _
  rw [if_neg (by simpa using hb)]
  have b1 := inB (show 0 < x.types.length by rw [ht2]; simp)
  have hx0 : x.types[0]? = some t := by rw [ht2]; rfl
  have hg0 := getD_map (f := encVType) hx0
  have hd := (h.cap t (by rw [ht2]; simp)).1
  subst hd
  simp only [go_sem, List.length_map, hg0]
  refine ⟨by omega, ?_⟩
  refine ⟨fun ρ H => ∃ (k : Nat), k ≤ t.cap.length ∧ ρ 2 = .rp (encInstance x) 0 ∧ ρ 6 = .sl ((memS s).map encInt) ∧ ρ 41 = int (t.cap.length : Nat) ∧ ρ 42 = int k ∧ ρ 5 = int (dimF x (memS s) k), fun ρ _ => t.cap.length - natOf (ρ 42), ⟨0, Nat.zero_le _, by simp only [go_sem], by simp only [go_sem], by simp only [go_sem, List.length_map], (by simp only [go_sem]; rfl), by simp only [go_sem]; rfl⟩, ?_⟩
  rintro ρ H ⟨k, hk, e2, e6, e41, e42, e5⟩
  simp only [go_sem, e2, e6, e41, e42, e5]
  refine acond_i (fun hlt => ?_) (fun hge => ?_)
  · have hlt := ltB hlt
    simp only [go_sem, e2, e6, e41, e42, e5]
    refine PC.use (trips_c x (memS s) k _ h hlt hm hml) ?_
    simp only [go_sem, e2, e6, e41, e42, e5, wrapS (show k ≤ 4611686018427387904 by omega)]
    exact ⟨⟨k + 1, hlt, rfl, by rw [dimF_succ]⟩, by simp only [natOf_int]; omega⟩
  · have hge := geB hk hge
    subst hge
    simp only [go_sem, e2, e6, e41, e42, e5]
    exact .refl _
def rightC (x : Instance) (d : Nat) (one : Cut) : Int :=
  if one.kind = 1 then (if (!existP x.orders.length one.set || !((popK 63 one.set.toNat : Nat) : Int) == 3) = true then 2 else if one.n ≠ 1 then 27 else 0)
  else if one.kind = 2 then (if (!existP x.orders.length one.set || one.set == 0) = true then 2 else if (decide (one.n < 1) || decide (one.n > tripsP x d one.set)) = true then 27 else 0)
  else 8
theorem rightC_c (x : Instance) (d : Nat) (one : Cut) (h : LoadsOk x d) (ht : x.types ≠ []) : PC Tryz.prog 21 [.agg (encInstance x), .agg (encCut one)] (int (rightC x d one)) := by
  have ho62 := h.orders
  refine PC.body (c := Tryz.f21.body.getD .skip) (fun _ => false) mixed Tryz.func21 rfl (by kernel_rfl) ?_
  unfold Tryz.f21
  simp only [Option.getD_some]
  simp only [go_sem]
  unfold rightC
  refine acond_i (fun h1 => ?_) (fun h1 => ?_)
  · rw [if_pos (by simpa using h1)]
    simp only [go_sem]
    refine PC.use (exist_c x one.set ho62) ?_
    simp only [go_sem]
    refine ⟨int (popK 63 one.set.toNat : Nat), fun hg => ?_, ?_⟩
    · simp at hg
      obtain ⟨s, hs, _⟩ := exist_spec hg
      rw [hs]
      exact (size_c s).q rfl
    simp only [go_sem]
    refine acond_i (fun hb => ?_) (fun hb => ?_)
    · rw [if_pos (by exact hb)]
      simp only [go_sem]
      exact .refl _
    rw [if_neg (by rw [show (!existP x.orders.length one.set || !((popK 63 one.set.toNat : Nat) : Int) == 3) = false from hb]; simp)]
    simp only [go_sem]
    refine acond_i (fun hb => ?_) (fun hb => ?_)
    · rw [if_pos (by simpa using hb)]
      simp only [go_sem]
      exact .refl _
    · rw [if_neg (by simpa using hb)]
      simp only [go_sem]
      exact .refl _
  rw [if_neg (by simpa using h1)]
  simp only [go_sem]
  refine acond_i (fun h2 => ?_) (fun h2 => ?_)
  · rw [if_pos (by simpa using h2)]
    simp only [go_sem]
    refine PC.use (exist_c x one.set ho62) ?_
    simp only [go_sem]
    refine acond_i (fun hb => ?_) (fun hb => ?_)
    · rw [if_pos (by exact hb)]
      simp only [go_sem]
      exact .refl _
    rw [if_neg (by rw [show (!existP x.orders.length one.set || one.set == 0) = false from hb]; simp)]
    simp only [go_sem]
    refine adraw_q (by rfl) (by kernel_rfl) ?_
    simp only [go_sem]
    refine ⟨_, fun _ => (tripsA_c x d one.set h ht).q rfl, ?_⟩
    simp only [go_sem]
    refine acond_i (fun hb => ?_) (fun hb => ?_)
    · rw [if_pos (by exact hb)]
      simp only [go_sem]
      exact .refl _
    · rw [if_neg (by rw [show (decide (one.n < 1) || decide (one.n > tripsP x d one.set)) = false from hb]; simp)]
      simp only [go_sem]
      exact .refl _
  · rw [if_neg (by simpa using h2)]
    simp only [go_sem]
    exact .refl _
def rowC (one : Cut) : Int × Int := if one.kind = 1 then (1, 1) else if one.kind = 2 then (3, one.n) else (0, 0)
theorem row_c (one : Cut) : PC Tryz.prog 28 [.agg (encCut one)] (.tup [int (rowC one).1, int (rowC one).2]) := by
  refine PC.body (c := Tryz.f28.body.getD .skip) (fun _ => false) mixed Tryz.func28 rfl (by kernel_rfl) ?_
  unfold Tryz.f28
  simp only [Option.getD_some]
  simp only [go_sem]
  unfold rowC
  refine acond_i (fun h1 => ?_) (fun h1 => ?_)
  · rw [if_pos (by simpa using h1)]
    simp only [go_sem]
    exact .refl _
  rw [if_neg (by simpa using h1)]
  simp only [go_sem]
  refine acond_i (fun h2 => ?_) (fun h2 => ?_)
  · rw [if_pos (by simpa using h2)]
    simp only [go_sem]
    refine adraw_q (by rfl) (by kernel_rfl) ?_
    simp only [go_sem]
    exact .refl _
  · rw [if_neg (by simpa using h2)]
    simp only [go_sem]
    exact .refl _
end Go.Proofs.YtbcfajfngdmgnaaGreatDoor.Nu
end

section
set_option linter.unusedSimpArgs false
set_option linter.unusedVariables false
namespace Go.Proofs.YtbcfajfngdmgnaaGreatDoor.Nu
open Go.Aw Go.Aw.D Go.Proofs Ty Go.Nu
set_option maxRecDepth 100000
end Go.Proofs.YtbcfajfngdmgnaaGreatDoor.Nu
end

section
set_option linter.unusedSimpArgs false
set_option linter.unusedVariables false
namespace Go.Proofs.YtbcfajfngdmgnaaGreatDoor.Nu
open Go.Aw Go.Aw.D Go.Proofs Ty Go.Nu
set_option maxRecDepth 100000
end Go.Proofs.YtbcfajfngdmgnaaGreatDoor.Nu
end

section
set_option linter.unusedSimpArgs false
set_option linter.unusedVariables false
namespace Go.So
variable {α : Type}
structure SWO (lt : α → α → Bool) : Prop where
  asym : ∀ a b, lt a b = true → lt b a = false
  neg : ∀ a b c, lt a b = false → lt b c = false → lt a c = false
def tlt (lt : α → α → Bool) (p q : α × Nat) : Prop := lt p.1 q.1 = true ∨ (lt q.1 p.1 = false ∧ p.2 < q.2)
section
variable {lt : α → α → Bool} (h : SWO lt)
include h
end
section
variable {lt : α → α → Bool} (h : SWO lt)
include h
end
def ranks (A B : List (α × Nat)) : Prop := ∀ x ∈ A, ∀ y ∈ B, x.2 < y.2
structure Good (lt : α → α → Bool) (R : List (List (α × Nat))) : Prop where
  srt : ∀ A ∈ R, A.Pairwise (tlt lt)
  rk : R.Pairwise ranks
end Go.So
end

section
set_option linter.unusedSimpArgs false
set_option linter.unusedVariables false
namespace Go.Proofs.YtbcfajfngdmgnaaGreatDoor.Nu
open Go.Aw Go.Aw.D Go.Proofs Ty Go.Nu Go.So
set_option maxRecDepth 100000
structure Broken where
  cut : Cut
  by_ : ByteArray
def encBroken (x : Broken) : List AV := [.v (.int .i64 x.cut.kind), .v (.int .i64 x.cut.set), .v (.int .i64 x.cut.n), .v (.string x.by_)]
theorem updH_self {H : Heap} {j : Nat} {r : Row} (h : H j = some r) : updH H j (some r) = H := by
  funext k
  unfold updH
  split
  · next e => rw [e, h]
  · rfl
end Go.Proofs.YtbcfajfngdmgnaaGreatDoor.Nu
end

section
set_option linter.unusedSimpArgs false
set_option linter.unusedVariables false
namespace Go.Proofs.YtbcfajfngdmgnaaGreatDoor.Nu
open Go.Aw Go.Aw.D Go.Proofs Ty Go.Nu Go.So
set_option maxRecDepth 100000
abbrev TB := Broken × Nat
def fs (L : List TB) : List Broken := L.map Prod.fst
structure CmpOk (gf : Nat) (lt : Broken → Broken → Bool) (ok : Broken → Prop) : Prop where
  call : callOk Tryz.prog gf = true
  cmp : ∀ x y, ok x → ok y → ∃ n : Int, decide (n < 0) = lt x y ∧ PC Tryz.prog gf [.agg (encBroken x), .agg (encBroken y)] (int n)
end Go.Proofs.YtbcfajfngdmgnaaGreatDoor.Nu
end

section
set_option linter.unusedSimpArgs false
set_option linter.unusedVariables false
namespace Go.Proofs.YtbcfajfngdmgnaaGreatDoor.Nu
open Go.Aw Go.Aw.D Go.Proofs Ty Go.Nu Go.So
set_option maxRecDepth 100000
section
variable {gf : Nat} {lt : Broken → Broken → Bool} {ok : Broken → Prop}
end
end Go.Proofs.YtbcfajfngdmgnaaGreatDoor.Nu
end

section
set_option linter.unusedSimpArgs false
set_option linter.unusedVariables false
namespace Go.Proofs.YtbcfajfngdmgnaaGreatDoor.Nu
open Go.Aw Go.Aw.D Go.Proofs Ty Go.Nu Go.So
set_option maxRecDepth 100000
section
variable {gf : Nat} {lt : Broken → Broken → Bool} {ok : Broken → Prop}
end
end Go.Proofs.YtbcfajfngdmgnaaGreatDoor.Nu
end

section
set_option linter.unusedSimpArgs false
set_option linter.unusedVariables false
namespace Go.Proofs.YtbcfajfngdmgnaaGreatDoor.Dec
open Go.Aw Go.Aw.D Go.Proofs Ty
set_option maxRecDepth 100000
theorem convI {H : Heap} {k : IntKind} {a b : Int} (h : a = b) : Conv H (.v (.int k a)) (.v (.int k b)) := h ▸ .refl _
theorem convB {H : Heap} {a b : Bool} (h : a = b) : Conv H (.v (.bool a)) (.v (.bool b)) := h ▸ .refl _
def orderR (x : Instance) (n : Int) : Bool := decide (n ≥ 0) && decide (n < (x.orders.length : Int))
theorem order_c (x : Instance) (n : Int) : PC Tryz.prog 277 [.agg (encInstance x), int n] (boo (orderR x n)) := by
  refine PC.body (c := Tryz.f277.body.getD .skip) (fun _ => false) mixed Tryz.func277 rfl (by kernel_rfl) ?_
  unfold Tryz.f277
  simp only [Option.getD_some]
  simp only [go_sem]
  exact .refl _
theorem known1_c (x : Instance) (n : Int) : PC Tryz.prog 276 [int n, .rp (encInstance x) 0] (boo (orderR x n)) := by
  refine PC.body (c := Tryz.f276.body.getD .skip) (fun _ => false) mixed Tryz.func276 rfl (by kernel_rfl) ?_
  unfold Tryz.f276
  simp only [Option.getD_some]
  simp only [go_sem]
  exact .refl _
def knownR (x : Instance) (d : Decision) : Int :=
  if d.kind = 1 ∨ d.kind = 2 then (if orderR x d.a && orderR x d.b && d.a != d.b then 0 else 2)
  else if d.kind = 5 ∨ d.kind = 6 then (if orderR x d.a then 0 else 2)
  else if d.kind = 3 ∨ d.kind = 4 then (if decide (d.a ≥ 0) && decide (d.a < (x.types.length : Int)) && decide (d.n ≥ 0) && decide (d.n ≤ 10) then 0 else 2)
  else 8
theorem known_c (x : Instance) (d : Decision) : PC Tryz.prog 227 [.agg (encInstance x), .agg (encDecision d)] (int (knownR x d)) := by
  refine PC.body (c := Tryz.f227.body.getD .skip) (fun _ => false) mixed Tryz.func227 rfl (by kernel_rfl) ?_
  unfold Tryz.f227
  simp only [Option.getD_some]
  simp only [go_sem]
  repeat' (first | (refine PC.use (known1_c _ _) ?_) | (refine ⟨_, fun _ => PC.q (known1_c _ _) rfl, ?_⟩) | (refine ⟨_, PC.q (known1_c _ _) rfl, ?_⟩) | (refine acond_i (fun hb => ?_) (fun hb => ?_)) | (simp only [go_sem]))
  all_goals (refine convI ?_; (try unfold knownR); generalize orderR x d.a = p at *; generalize orderR x d.b = q at *; cases p <;> cases q <;> simp_all <;> (try omega))
theorem one_c (x : Instance) (d : Decision) : PC Tryz.prog 229 [.agg (encInstance x), .agg (encDecision d)] (int (knownR x d)) := by
  refine PC.body (c := Tryz.f229.body.getD .skip) (fun _ => false) mixed Tryz.func229 rfl (by kernel_rfl) ?_
  unfold Tryz.f229
  simp only [Option.getD_some]
  simp only [go_sem]
  repeat' (first | (refine PC.use (order_c _ _) ?_) | (refine ⟨_, fun _ => PC.q (order_c _ _) rfl, ?_⟩) | (refine ⟨_, PC.q (order_c _ _) rfl, ?_⟩) | (refine acond_i (fun hb => ?_) (fun hb => ?_)) | (simp only [go_sem]))
  all_goals (refine convI ?_; (try unfold knownR); generalize orderR x d.a = p at *; generalize orderR x d.b = q at *; cases p <;> cases q <;> simp_all <;> (try omega))
def firstErr : List Int → Int
  | [] => 0
  | e :: r => if e != 0 then e else firstErr r
theorem firstErr_hit {l : List Int} {k : Nat} {e : Int} (h : ∀ e ∈ l.take k, e = 0) (hk : l[k]? = some e) (he : (e != 0) = true) : firstErr l = e := by
  induction l generalizing k with
  | nil => simp at hk
  | cons a r ih =>
    cases k with
    | zero => simp at hk; subst hk; simp only [firstErr]; rw [if_pos he]
    | succ k =>
      have h0 := h a (by simp)
      subst h0
      simp only [firstErr]
      exact ih (k := k) (fun e he' => h e (by simp [he'])) (by simpa using hk)
theorem firstErr_none {l : List Int} (h : ∀ e ∈ l, e = 0) : firstErr l = 0 := by
  induction l with
  | nil => rfl
  | cons a r ih => have h0 := h a (by simp); subst h0; simp only [firstErr]; exact ih fun e he => h e (by simp [he])
theorem firstErr_zero {l : List Int} (h : firstErr l = 0) : ∀ e ∈ l, e = 0 := by
  induction l with
  | nil => simp
  | cons a r ih =>
    simp only [firstErr] at h
    split at h
    · rename_i hb; simp at hb; exact absurd h hb
    · rename_i hb; simp at hb; intro e he; rcases List.mem_cons.1 he with rfl | he; exact hb; exact ih h e he
def chkR (x : Instance) (l : List Decision) : Int := if decide ((l.length : Int) > 1024) then 4 else firstErr (l.map (knownR x))
theorem chk_c (x : Instance) (l : List Decision) (hl : l.length ≤ 1048576) : PC Tryz.prog 162 [.agg (encInstance x), .sl (l.map encDecision)] (int (chkR x l)) := by
  refine PC.body (c := Tryz.f162.body.getD .skip) (fun _ => false) mixed Tryz.func162 rfl (by kernel_rfl) ?_
  unfold Tryz.f162
  simp only [Option.getD_some]
  simp only [go_sem]
  refine acond_i (fun hb => ?_) (fun hb => ?_)
  · simp only [go_sem]
    exact convI (by unfold chkR; rw [if_pos hb])
  · have hc : chkR x l = firstErr (l.map (knownR x)) := by unfold chkR; rw [if_neg (by rw [hb]; simp)]
    rw [hc]
    simp only [go_sem]
    refine ⟨fun ρ _ => ∃ k : Nat, k ≤ l.length ∧ ρ 2 = .rp (encInstance x) 0 ∧ ρ 11 = .sl (l.map encDecision) ∧ ρ 12 = int l.length ∧ ρ 13 = int k ∧ ∀ e ∈ (l.map (knownR x)).take k, e = 0, fun ρ _ => l.length - natOf (ρ 13), ⟨0, Nat.zero_le _, rfl, rfl, rfl, rfl, by simp⟩, ?_⟩
    rintro ρ H ⟨k, hk, h2, h11, h12, h13, hz⟩
    simp only [go_sem, h2, h11, h12, h13]
    refine acond_i (fun hlt => ?_) (fun hge => ?_)
    · have hlt := le_of_lt_b hlt
      obtain ⟨d, hd⟩ := getIn hlt
      have b1 := inB hlt
      simp only [go_sem, h2, h11, h12, h13, getD_map hd, b1]
      refine anew_i fun j hj => ?_
      simp only [go_sem, h2, h11, h12, h13, getD_map hd, b1]
      refine wputE_n (updH_same _ _ _) (by simp [encDecision_len]) ?_
      simp only [go_sem, h2, h11, h12, h13, getD_map hd, b1]
      refine PC.use (known_c x d) ?_
      simp only [go_sem, h2, h11, h12, h13]
      refine acond_i (fun hb => ?_) (fun hb => ?_)
      · simp only [go_sem]
        exact convI (firstErr_hit hz (by simp [hd]) hb).symm
      · simp only [go_sem, h2, h11, h12, h13, wrapS (show k ≤ 4611686018427387904 by omega)]
        refine ⟨⟨k + 1, hlt, rfl, ?_⟩, by simp only [natOf_int]; omega⟩
        rw [take_succ (x := knownR x d) (by simp [hd])]
        intro e he
        rcases List.mem_append.1 he with he | he
        · exact hz e he
        · simp at he; subst he; simpa using hb
    · have hge := eq_of_ge_b hk hge
      subst hge
      simp only [go_sem]
      exact convI (firstErr_none (by rw [List.take_of_length_le (by simp)] at hz; exact hz)).symm
theorem and1 (x : Int) : bitV .and .i64 x 1 = x % 2 := by
  have h : ((BitVec.ofInt 64 x &&& BitVec.ofInt 64 1).toNat : Int) = x % 2 := by
    rw [BitVec.toNat_and, BitVec.toNat_ofInt, BitVec.toNat_ofInt]
    have : ((1 : Int) % ((2 ^ 64 : Nat) : Int)).toNat = 1 := by decide
    rw [this, Nat.and_one_is_mod]
    omega
  refine Eq.trans (congrArg IntKind.i64.wrap h) ?_
  exact wrap_in (by omega)
theorem or_nat {a b : Nat} (ha : a < 2 ^ 63) (hb : b < 2 ^ 63) : bitV .or .i64 (a : Int) (b : Int) = ((a ||| b : Nat) : Int) := by
  have h : ((BitVec.ofInt 64 (a : Int) ||| BitVec.ofInt 64 (b : Int)).toNat : Int) = ((a ||| b : Nat) : Int) := by
    rw [BitVec.toNat_or, BitVec.toNat_ofInt, BitVec.toNat_ofInt]
    have h1 : ((a : Int) % ((2 ^ 64 : Nat) : Int)).toNat = a := by omega
    have h2 : ((b : Int) % ((2 ^ 64 : Nat) : Int)).toNat = b := by omega
    rw [h1, h2]
  refine Eq.trans (congrArg IntKind.i64.wrap h) ?_
  have := Nat.or_lt_two_pow ha hb
  exact wrap_in (by omega)
theorem and_nat {a b : Nat} (ha : a < 2 ^ 63) (hb : b < 2 ^ 63) : bitV .and .i64 (a : Int) (b : Int) = ((a &&& b : Nat) : Int) := by
  have h : ((BitVec.ofInt 64 (a : Int) &&& BitVec.ofInt 64 (b : Int)).toNat : Int) = ((a &&& b : Nat) : Int) := by
    rw [BitVec.toNat_and, BitVec.toNat_ofInt, BitVec.toNat_ofInt]
    have h1 : ((a : Int) % ((2 ^ 64 : Nat) : Int)).toNat = a := by omega
    have h2 : ((b : Int) % ((2 ^ 64 : Nat) : Int)).toNat = b := by omega
    rw [h1, h2]
  refine Eq.trans (congrArg IntKind.i64.wrap h) ?_
  have := @Nat.and_le_left a b
  exact wrap_in (by omega)
theorem shr_in {x : Int} {i : Nat} (h : i ≤ 62) : shV .shr .i64 x (i : Int) = x / 2 ^ i := by
  show x.fdiv (2 ^ min ((i : Int)).toNat 64) = _
  have : min ((i : Int)).toNat 64 = i := by omega
  rw [this, Int.fdiv_eq_ediv_of_nonneg _ (by exact Int.le_of_lt (Int.pow_pos (by decide)))]
theorem shl_in {i : Nat} (h : i ≤ 62) : shV .shl .i64 1 (i : Int) = ((2 ^ i : Nat) : Int) := by
  show IntKind.i64.wrap (1 * 2 ^ min ((i : Int)).toNat 64) = _
  have : min ((i : Int)).toNat 64 = i := by omega
  rw [this, Int.one_mul]
  have h2 : (2 : Nat) ^ i ≤ 2 ^ 62 := Nat.pow_le_pow_right (by decide) h
  have h3 : ((2 : Int) ^ i) = ((2 ^ i : Nat) : Int) := by norm_cast
  rw [h3]
  generalize 2 ^ i = m at h2
  exact wrap_in (by omega)
def hasR (set i : Int) : Bool := decide (i ≥ 0) && decide (i ≤ 62) && ((set / 2 ^ i.toNat) % 2 == 1)
theorem has_c (set i : Int) : PC Tryz.prog 153 [int set, int i] (boo (hasR set i)) := by
  refine PC.body (c := Tryz.f153.body.getD .skip) (fun _ => false) mixed Tryz.func153 rfl (by kernel_rfl) ?_
  unfold Tryz.f153
  simp only [Option.getD_some]
  simp only [go_sem]
  refine ⟨fun h => ?_, ?_⟩
  · simp at h; omega
  · refine convB ?_
    unfold hasR
    rw [and1]
    by_cases h : 0 ≤ i ∧ i ≤ 62
    · obtain ⟨h0, h1⟩ := h
      have e := shr_in (x := set) (i := i.toNat) (by omega)
      rw [Int.toNat_of_nonneg h0] at e
      rw [e]
    · have : (decide (i ≥ 0) && decide (i ≤ 62)) = false := by simp; omega
      rw [this]; rfl
def hasN (set i : Int) : Bool := (set / 2 ^ i.toNat) % 2 == 1
theorem has29_c (set i : Int) (hs : 0 ≤ set) (hs2 : set ≤ 9223372036854775807) (hi : i ≤ 9223372036854775807) : PC Tryz.prog 230 [int set, int i] (boo (hasN set i)) := by
  refine PC.body (c := Tryz.f230.body.getD .skip) (fun _ => false) mixed Tryz.func230 rfl (by kernel_rfl) ?_
  unfold Tryz.f230
  simp only [Option.getD_some]
  simp only [go_sem]
  refine ⟨fun ρ _ => ∃ k : Nat, (k : Int) ≤ max i 0 ∧ ρ 1 = int i ∧ ρ 5 = int k ∧ ρ 0 = int (set / 2 ^ k), fun ρ _ => i.toNat - natOf (ρ 5), ⟨0, by omega, rfl, rfl, by simp [env0, upd]⟩, ?_⟩
  rintro ρ H ⟨k, hk, h1, h5, h0⟩
  have hpos : 0 ≤ set / 2 ^ k := Int.ediv_nonneg hs (Int.le_of_lt (Int.pow_pos (by decide)))
  simp only [go_sem, h1, h5, h0]
  refine acond_i (fun hlt => ?_) (fun hge => ?_)
  · have hlt : (k : Int) < i := by simpa using hlt
    have hw : IntKind.i64.wrap ((k : Int) + 1) = ((k + 1 : Nat) : Int) := by rw [wrap_in (by omega)]; omega
    simp only [go_sem, h1, h5, h0, hw, natOf_int]
    refine ⟨by omega, ⟨k + 1, by omega, rfl, ?_⟩, by omega⟩
    rw [Int.tdiv_eq_ediv_of_nonneg hpos, Int.pow_succ, ← Int.ediv_ediv_of_nonneg (Int.le_of_lt (Int.pow_pos (by decide)))]
    have hle : set / 2 ^ k ≤ set := Int.ediv_le_self _ hs
    generalize set / 2 ^ k = m at hpos hle
    exact congrArg (fun z => AV.v (Value.int .i64 z)) (wrap_in (by omega))
  · have hge : i ≤ (k : Int) := by simpa using hge
    have hki : k = i.toNat := by omega
    subst hki
    simp only [go_sem, h1, h5, h0]
    refine ⟨by omega, convB ?_⟩
    rw [Int.tmod_eq_emod_of_nonneg hpos]
    rfl
def allowsR (d : Decision) (set : Int) : Bool :=
  if d.kind = 1 then hasR set d.a == hasR set d.b else if d.kind = 2 then !hasR set d.a || !hasR set d.b else if d.kind = 6 then !hasR set d.a else true
theorem allows_c (d : Decision) (set : Int) : PC Tryz.prog 228 [.agg (encDecision d), int set] (boo (allowsR d set)) := by
  refine PC.body (c := Tryz.f228.body.getD .skip) (fun _ => false) mixed Tryz.func228 rfl (by kernel_rfl) ?_
  unfold Tryz.f228
  simp only [Option.getD_some]
  simp only [go_sem]
  refine adraw_q (by rfl) (by kernel_rfl) ?_
  repeat' (first | (refine PC.use (has_c _ _) ?_) | (refine ⟨_, fun _ => PC.q (has_c _ _) rfl, ?_⟩) | (refine ⟨_, PC.q (has_c _ _) rfl, ?_⟩) | (refine acond_i (fun hb => ?_) (fun hb => ?_)) | (simp only [go_sem]))
  all_goals (refine convB ?_; unfold allowsR; simp_all)
def forbidsR (d : Decision) (set : Int) : Bool :=
  if d.kind = 1 then hasN set d.a != hasN set d.b else if d.kind = 2 then hasN set d.a && hasN set d.b else if d.kind = 6 then hasN set d.a else false
def decB (d : Decision) : Prop := bDecision 0 d
theorem forbids_c (d : Decision) (set : Int) (hd : decB d) (hs : 0 ≤ set) (hs2 : set ≤ 9223372036854775807) : PC Tryz.prog 174 [.agg (encDecision d), int set] (boo (forbidsR d set)) := by
  have ha : d.a ≤ 9223372036854775807 := hd.2.1.2
  have hb' : d.b ≤ 9223372036854775807 := hd.2.2.1.2
  refine PC.body (c := Tryz.f174.body.getD .skip) (fun _ => false) mixed Tryz.func174 rfl (by kernel_rfl) ?_
  unfold Tryz.f174
  simp only [Option.getD_some]
  simp only [go_sem]
  refine acond_i (fun hb => ?_) (fun hb => ?_)
  · simp only [go_sem]
    refine adraw_q (by rfl) (by kernel_rfl) ?_
    repeat' (first | (refine PC.use (has29_c _ _ hs hs2 ha) ?_) | (refine ⟨_, fun _ => PC.q (has29_c _ _ hs hs2 ha) rfl, ?_⟩) | (refine ⟨_, PC.q (has29_c _ _ hs hs2 ha) rfl, ?_⟩) | (refine PC.use (has29_c _ _ hs hs2 hb') ?_) | (refine ⟨_, fun _ => PC.q (has29_c _ _ hs hs2 hb') rfl, ?_⟩) | (refine ⟨_, PC.q (has29_c _ _ hs hs2 hb') rfl, ?_⟩) | (refine acond_i (fun hb => ?_) (fun hb => ?_)) | (simp only [go_sem]))
    all_goals (refine convB ?_; unfold forbidsR; generalize hasN set d.a = p at *; generalize hasN set d.b = q at *; cases p <;> cases q <;> simp_all)
  · simp only [go_sem]
    repeat' (first | (refine PC.use (has29_c _ _ hs hs2 ha) ?_) | (refine ⟨_, fun _ => PC.q (has29_c _ _ hs hs2 ha) rfl, ?_⟩) | (refine ⟨_, PC.q (has29_c _ _ hs hs2 ha) rfl, ?_⟩) | (refine PC.use (has29_c _ _ hs hs2 hb') ?_) | (refine ⟨_, fun _ => PC.q (has29_c _ _ hs hs2 hb') rfl, ?_⟩) | (refine ⟨_, PC.q (has29_c _ _ hs hs2 hb') rfl, ?_⟩) | (refine acond_i (fun hb => ?_) (fun hb => ?_)) | (simp only [go_sem]))
    all_goals (refine convB ?_; unfold forbidsR; generalize hasN set d.a = p at *; generalize hasN set d.b = q at *; cases p <;> cases q <;> simp_all)
theorem all_hit {α : Type} {p : α → Bool} {l : List α} {k : Nat} {x : α} (hk : l[k]? = some x) (hx : p x = false) : l.all p = false := by
  rw [List.all_eq_false]
  exact ⟨x, List.mem_of_getElem? hk, by simp [hx]⟩
theorem all_none {α : Type} {p : α → Bool} {l : List α} (h : ∀ x ∈ l.take l.length, p x = true) : l.all p = true := by
  rw [List.take_length] at h
  rw [List.all_eq_true]; exact h
theorem take_all {α : Type} {p : α → Bool} {l : List α} {k : Nat} {x : α} (hk : l[k]? = some x) (hx : p x = true) (h : ∀ x ∈ l.take k, p x = true) : ∀ x ∈ l.take (k + 1), p x = true := by
  rw [take_succ hk]
  intro y hy
  rcases List.mem_append.1 hy with hy | hy
  · exact h y hy
  · simp at hy; subst hy; exact hx
theorem take_allP {α : Type} {p : α → Prop} {l : List α} {k : Nat} {x : α} (hk : l[k]? = some x) (hx : p x) (h : ∀ x ∈ l.take k, p x) : ∀ x ∈ l.take (k + 1), p x := by
  rw [take_succ hk]
  intro y hy
  rcases List.mem_append.1 hy with hy | hy
  · exact h y hy
  · simp at hy; subst hy; exact hx
theorem Allows_c (l : List Decision) (c : Column) (hl : l.length ≤ 1048576) : PC Tryz.prog 163 [.sl (l.map encDecision), .agg (encColumn c)] (boo (l.all fun d => allowsR d c.set)) := by
  refine PC.body (c := Tryz.f163.body.getD .skip) (fun _ => false) mixed Tryz.func163 rfl (by kernel_rfl) ?_
  unfold Tryz.f163
  simp only [Option.getD_some]
  simp only [go_sem]
  refine ⟨fun ρ _ => ∃ k : Nat, k ≤ l.length ∧ ρ 3 = .rp (encColumn c) 0 ∧ ρ 7 = .sl (l.map encDecision) ∧ ρ 8 = int l.length ∧ ρ 9 = int k ∧ ∀ d ∈ l.take k, allowsR d c.set = true, fun ρ _ => l.length - natOf (ρ 9), ⟨0, Nat.zero_le _, rfl, rfl, rfl, rfl, by simp⟩, ?_⟩
  rintro ρ H ⟨k, hk, h3, h7, h8, h9, hz⟩
  simp only [go_sem, h3, h7, h8, h9]
  refine acond_i (fun hlt => ?_) (fun hge => ?_)
  · have hlt := le_of_lt_b hlt
    obtain ⟨d, hd⟩ := getIn hlt
    have b1 := inB hlt
    simp only [go_sem, h3, h7, h8, h9, getD_map hd, b1]
    refine anew_i fun j hj => ?_
    simp only [go_sem, h3, h7, h8, h9, getD_map hd, b1]
    refine wputE_n (updH_same _ _ _) (by simp [encDecision_len]) ?_
    simp only [go_sem, h3, h7, h8, h9, getD_map hd, b1]
    refine PC.use (allows_c d _) ?_
    simp only [go_sem, h3, h7, h8, h9]
    refine acond_i (fun hb => ?_) (fun hb => ?_)
    · simp only [go_sem]
      exact convB (all_hit hd (by simpa using hb)).symm
    · simp only [go_sem, h3, h7, h8, h9, wrapS (show k ≤ 4611686018427387904 by omega)]
      exact ⟨⟨k + 1, hlt, rfl, take_all hd (by simpa using hb) hz⟩, by simp only [natOf_int]; omega⟩
  · have hge := eq_of_ge_b hk hge
    subst hge
    simp only [go_sem]
    exact convB (all_none hz).symm
theorem Allows29_c (l : List Decision) (c : Column) (hl : l.length ≤ 1048576) (hd0 : ∀ d ∈ l, decB d) (hs : 0 ≤ c.set) (hs2 : c.set ≤ 9223372036854775807) : PC Tryz.prog 113 [.sl (l.map encDecision), .agg (encColumn c)] (boo (l.all fun d => !forbidsR d c.set)) := by
  refine PC.body (c := Tryz.f113.body.getD .skip) (fun _ => false) mixed Tryz.func113 rfl (by kernel_rfl) ?_
  unfold Tryz.f113
  simp only [Option.getD_some]
  simp only [go_sem]
  refine ⟨fun ρ _ => ∃ k : Nat, k ≤ l.length ∧ ρ 3 = .rp (encColumn c) 0 ∧ ρ 0 = .sl (l.map encDecision) ∧ ρ 5 = int k ∧ ∀ d ∈ l.take k, forbidsR d c.set = false, fun ρ _ => l.length - natOf (ρ 5), ⟨0, Nat.zero_le _, rfl, rfl, rfl, by simp⟩, ?_⟩
  rintro ρ H ⟨k, hk, h3, h0, h5, hz⟩
  simp only [go_sem, h3, h0, h5]
  refine acond_i (fun hlt => ?_) (fun hge => ?_)
  · have hlt := le_of_lt_b hlt
    obtain ⟨d, hd⟩ := getIn hlt
    have b1 := inB hlt
    simp only [go_sem]
    refine adraw_q (by rfl) (by kernel_rfl) ?_
    simp only [go_sem, h3, h0, h5, getD_map hd, b1]
    refine ⟨_, (forbids_c d _ (hd0 d (List.mem_of_getElem? hd)) hs hs2).q rfl, ?_⟩
    refine acond_i (fun hb => ?_) (fun hb => ?_)
    · simp only [go_sem]
      exact convB (all_hit (p := fun d => !forbidsR d c.set) hd (by simpa using hb)).symm
    · simp only [go_sem, h3, h0, h5, wrapS (show k ≤ 4611686018427387904 by omega)]
      exact ⟨⟨k + 1, hlt, rfl, take_allP (p := fun d => forbidsR d c.set = false) hd (by simpa using hb) hz⟩, by simp only [natOf_int]; omega⟩
  · have hge := eq_of_ge_b hk hge
    subst hge
    simp only [go_sem]
    exact convB (all_none fun d hd => by rw [hz d hd]; rfl).symm
end Go.Proofs.YtbcfajfngdmgnaaGreatDoor.Dec
end
