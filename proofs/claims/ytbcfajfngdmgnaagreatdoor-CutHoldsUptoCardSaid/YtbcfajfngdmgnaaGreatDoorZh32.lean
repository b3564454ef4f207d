/- Texts joined by a program: CuG, CuH, CuI, SoA. -/
import Derived.Lib.ItoaMem
import Derived.Test.YtbcfajfngdmgnaaGreatDoorZh31

section
set_option linter.unusedSimpArgs false
set_option linter.unusedVariables false
namespace Go.Proofs.YtbcfajfngdmgnaaGreatDoor.Nu
open Go.Aw Go.Aw.D Go.Proofs Ty Go.Nu
set_option maxRecDepth 100000
theorem exist_spec {n : Nat} {set : Int} (h : existP n set = true) : ∃ s : Nat, set = (s : Int) ∧ s < 2 ^ n := by
  unfold existP at h
  simp only [Bool.and_eq_true, decide_eq_true_eq, beq_iff_eq] at h
  obtain ⟨s, rfl⟩ := Int.eq_ofNat_of_zero_le h.1
  refine ⟨s, rfl, ?_⟩
  have h3 : ((2 : Int) ^ n) = ((2 ^ n : Nat) : Int) := by norm_cast
  have h2 := h.2
  rw [h3] at h2
  have h4 : s / 2 ^ n = 0 := by exact_mod_cast h2
  exact (Nat.div_eq_zero_iff_lt (Nat.two_pow_pos n)).1 h4
theorem exist_nat {n s : Nat} : existP n (s : Int) = decide (s < 2 ^ n) := by
  unfold existP
  have h3 : ((2 : Int) ^ n) = ((2 ^ n : Nat) : Int) := by norm_cast
  rw [h3, Bool.eq_iff_iff]
  simp only [Bool.and_eq_true, decide_eq_true_eq, beq_iff_eq]
  constructor
  · rintro ⟨_, h⟩
    have h4 : s / 2 ^ n = 0 := by exact_mod_cast h
    exact (Nat.div_eq_zero_iff_lt (Nat.two_pow_pos n)).1 h4
  · intro h
    refine ⟨by omega, ?_⟩
    have h4 : s / 2 ^ n = 0 := Nat.div_eq_of_lt h
    exact_mod_cast h4
theorem memS_in {s n : Nat} (h : s < 2 ^ n) (hn : n ≤ 62) : ∀ i ∈ memS (s : Int), 0 ≤ i ∧ i < (n : Int) := by
  intro i hi
  unfold memS memU at hi
  obtain ⟨j, hj, rfl⟩ := List.mem_map.1 hi
  obtain ⟨hj1, hj2⟩ := List.mem_filter.1 hj
  have hj3 := List.mem_range.1 hj1
  rw [hasR_nat (by omega)] at hj2
  refine ⟨by omega, ?_⟩
  rcases Nat.lt_or_ge j n with hlt | hge
  · omega
  · rw [Nat.testBit_lt_two_pow (Nat.lt_of_lt_of_le h (Nat.pow_le_pow_right (by decide) hge))] at hj2
    cases hj2
def dimF (x : Instance) (ms : List Int) (k : Nat) : Int := (List.range k).foldl (fun n dim => imax n (tripsD x ms dim)) 1
theorem dimF_succ (x : Instance) (ms : List Int) (k : Nat) : dimF x ms (k + 1) = imax (dimF x ms k) (tripsD x ms k) := by unfold dimF; rw [List.range_succ, List.foldl_append]; rfl
def stays (x : Instance) (set : Int) : Bool := decide (set ≤ 0) || !existP x.orders.length set || !decide (set.toNat &&& mustO x = set.toNat)
def tripsP (x : Instance) (d : Nat) (set : Int) : Int := if stays x set = true then 0 else if togP x (memS set) = false then 1 else dimF x (memS set) d
theorem suchN_lt (q : Order → Bool) (l : List Order) : suchN q l < 2 ^ l.length := bitsN_lt _ _
theorem tripsA_c (x : Instance) (d : Nat) (set : Int) (h : LoadsOk x d) (ht : x.types ≠ []) : PC Tryz.prog 26 [.agg (encInstance x), int set] (int (tripsP x d set)) := by
  have ho62 := h.orders
  have hd3 := h.dims
  have hmu : mustO x < 2 ^ x.orders.length := suchN_lt _ _
  have h62 : 2 ^ x.orders.length ≤ 2 ^ 62 := Nat.pow_le_pow_right (by decide) ho62
  refine PC.body (c := Tryz.f26.body.getD .skip) (fun _ => false) mixed Tryz.func26 rfl (by kernel_rfl) ?_
  unfold Tryz.f26
  simp only [Option.getD_some]
  simp only [go_sem]
  refine ⟨_, fun _ => (exist_c x set ho62).q rfl, ?_⟩
  simp only [go_sem]
  refine ⟨_, fun _ => (must_c x ho62).q rfl, ?_⟩
  simp only [go_sem]
  refine ⟨boo (decide (set.toNat &&& mustO x = set.toNat)), fun hg => ?_, ?_⟩
  · simp at hg
    obtain ⟨s, rfl, hs⟩ := exist_spec hg.2
    exact (swithin_c s (mustO x) (by omega) (by omega)).q rfl
  simp only [go_sem]
  refine acond_i (fun hb => ?_) (fun hb => ?_)
  · simp only [go_sem]
    rw [show tripsP x d set = 0 from if_pos hb]
    exact .refl _
  have e0 : tripsP x d set = if togP x (memS set) = false then 1 else dimF x (memS set) d := if_neg (by unfold stays; rw [hb]; simp)
  rw [e0]
  obtain ⟨s, rfl, hs⟩ := exist_spec (n := x.orders.length) (set := set) (by simp at hb; exact hb.1.2)
  have hm : Memb x.orders (memS (s : Int)) := memS_in hs ho62
  have hml : (memS (s : Int)).length ≤ 63 := memU_len _ _
  simp only [go_sem]
  refine PC.use (members_c s) ?_
  simp only [go_sem]
  refine PC.use (together_c x (memS s) hm (by omega)) ?_
  simp only [go_sem]
  obtain ⟨t, r, ht2⟩ := List.exists_cons_of_ne_nil ht
  have hlen : ((x.types.length : Int) == 0) = false := by rw [ht2]; rw [beq_eq_false_iff_ne]; simp; omega
  simp only [go_sem, List.length_map, hlen]
  refine acond_i (fun hb => ?_) (fun hb => ?_)
  · simp only [go_sem]
    rw [if_pos (by simpa using hb)]
    exact .refl _
  rw [if_neg (by simpa using hb)]
  have b1 := inB (show 0 < x.types.length by rw [ht2]; simp)
  have hx0 : x.types[0]? = some t := by rw [ht2]; rfl
  have hg0 := getD_map (f := encVType) hx0
  have hd := (h.cap t (by rw [ht2]; simp)).1
  subst hd
  simp only [go_sem, List.length_map, hg0]
  refine ⟨by omega, ?_⟩
  refine ⟨fun ρ H => ∃ (k : Nat), k ≤ t.cap.length ∧ ρ 2 = .rp (encInstance x) 0 ∧ ρ 6 = .sl ((memS s).map encInt) ∧ ρ 41 = int (t.cap.length : Nat) ∧ ρ 42 = int k ∧ ρ 5 = int (dimF x (memS s) k), fun ρ _ => t.cap.length - natOf (ρ 42), ⟨0, Nat.zero_le _, by simp only [go_sem], by simp only [go_sem], by simp only [go_sem, List.length_map], (by simp only [go_sem]; rfl), by simp only [go_sem]; rfl⟩, ?_⟩
  rintro ρ H ⟨k, hk, e2, e6, e41, e42, e5⟩
  simp only [go_sem, e2, e6, e41, e42, e5]
  refine acond_i (fun hlt => ?_) (fun hge => ?_)
  · have hlt := ltB hlt
    simp only [go_sem, e2, e6, e41, e42, e5]
    refine PC.use (trips_c x (memS s) k _ h hlt hm hml) ?_
    simp only [go_sem, e2, e6, e41, e42, e5, wrapS (show k ≤ 4611686018427387904 by omega)]
    exact ⟨⟨k + 1, hlt, rfl, by rw [dimF_succ]⟩, by simp only [natOf_int]; omega⟩
  · have hge := geB hk hge
    subst hge
    simp only [go_sem, e2, e6, e41, e42, e5]
    exact .refl _
def rightC (x : Instance) (d : Nat) (one : Cut) : Int :=
  if one.kind = 1 then (if (!existP x.orders.length one.set || !((popK 63 one.set.toNat : Nat) : Int) == 3) = true then 2 else if one.n ≠ 1 then 27 else 0)
  else if one.kind = 2 then (if (!existP x.orders.length one.set || one.set == 0) = true then 2 else if (decide (one.n < 1) || decide (one.n > tripsP x d one.set)) = true then 27 else 0)
  else 8
theorem rightC_c (x : Instance) (d : Nat) (one : Cut) (h : LoadsOk x d) (ht : x.types ≠ []) : PC Tryz.prog 21 [.agg (encInstance x), .agg (encCut one)] (int (rightC x d one)) := by
  have ho62 := h.orders
  refine PC.body (c := Tryz.f21.body.getD .skip) (fun _ => false) mixed Tryz.func21 rfl (by kernel_rfl) ?_
  unfold Tryz.f21
  simp only [Option.getD_some]
  simp only [go_sem]
  unfold rightC
  refine acond_i (fun h1 => ?_) (fun h1 => ?_)
  · rw [if_pos (by simpa using h1)]
    simp only [go_sem]
    refine PC.use (exist_c x one.set ho62) ?_
    simp only [go_sem]
    refine ⟨int (popK 63 one.set.toNat : Nat), fun hg => ?_, ?_⟩
    · simp at hg
      obtain ⟨s, hs, _⟩ := exist_spec hg
      rw [hs]
      exact (size_c s).q rfl
    simp only [go_sem]
    refine acond_i (fun hb => ?_) (fun hb => ?_)
    · rw [if_pos (by exact hb)]
      simp only [go_sem]
      exact .refl _
    rw [if_neg (by rw [show (!existP x.orders.length one.set || !((popK 63 one.set.toNat : Nat) : Int) == 3) = false from hb]; simp)]
    simp only [go_sem]
    refine acond_i (fun hb => ?_) (fun hb => ?_)
    · rw [if_pos (by simpa using hb)]
      simp only [go_sem]
      exact .refl _
    · rw [if_neg (by simpa using hb)]
      simp only [go_sem]
      exact .refl _
  rw [if_neg (by simpa using h1)]
  simp only [go_sem]
  refine acond_i (fun h2 => ?_) (fun h2 => ?_)
  · rw [if_pos (by simpa using h2)]
    simp only [go_sem]
    refine PC.use (exist_c x one.set ho62) ?_
    simp only [go_sem]
    refine acond_i (fun hb => ?_) (fun hb => ?_)
    · rw [if_pos (by exact hb)]
      simp only [go_sem]
      exact .refl _
    rw [if_neg (by rw [show (!existP x.orders.length one.set || one.set == 0) = false from hb]; simp)]
    simp only [go_sem]
    refine adraw_q (by rfl) (by kernel_rfl) ?_
    simp only [go_sem]
    refine ⟨_, fun _ => (tripsA_c x d one.set h ht).q rfl, ?_⟩
    simp only [go_sem]
    refine acond_i (fun hb => ?_) (fun hb => ?_)
    · rw [if_pos (by exact hb)]
      simp only [go_sem]
      exact .refl _
    · rw [if_neg (by rw [show (decide (one.n < 1) || decide (one.n > tripsP x d one.set)) = false from hb]; simp)]
      simp only [go_sem]
      exact .refl _
  · rw [if_neg (by simpa using h2)]
    simp only [go_sem]
    exact .refl _
end Go.Proofs.YtbcfajfngdmgnaaGreatDoor.Nu
end

section
set_option linter.unusedSimpArgs false
set_option linter.unusedVariables false
namespace Go.Proofs.YtbcfajfngdmgnaaGreatDoor.Nu
open Go.Aw Go.Aw.D Go.Proofs Ty Go.Nu
set_option maxRecDepth 100000
def encInts (l : List Int) : List AV := [.sl (l.map encInt)]
def even06 (ll : List (List Int)) (d : Int) : Bool := !(decide (d < 0) || decide (d > 3)) && ll.all fun l => !((l.length : Int) != d)
theorem even06_c (ll : List (List Int)) (d : Int) (hl : ll.length ≤ 1048576) : PC Tryz.prog 226 [.sl (ll.map encInts), int d] (boo (even06 ll d)) := by
  refine PC.body (c := Tryz.f226.body.getD .skip) (fun _ => false) mixed Tryz.func226 rfl (by kernel_rfl) ?_
  unfold Tryz.f226
  simp only [Option.getD_some]
  simp only [go_sem]
  refine acond_i (fun hb => ?_) (fun hb => ?_)
  · simp only [go_sem]
    exact cB (by unfold even06; rw [hb]; rfl)
  have hf : even06 ll d = ll.all fun l => !((l.length : Int) != d) := by unfold even06; rw [hb]; rfl
  rw [hf]
  simp only [go_sem]
  refine ⟨fun ρ _ => ∃ k : Nat, k ≤ ll.length ∧ ρ 0 = .sl (ll.map encInts) ∧ ρ 1 = int d ∧ ρ 5 = int k ∧ ∀ l ∈ ll.take k, ((l.length : Int) != d) = false, fun ρ _ => ll.length - natOf (ρ 5), ⟨0, Nat.zero_le _, rfl, rfl, rfl, by simp⟩, ?_⟩
  rintro ρ H ⟨k, hk, h0, h1, h5, hz⟩
  simp only [go_sem, h0, h1, h5]
  refine acond_i (fun hlt => ?_) (fun hge => ?_)
  · have hlt := ltB hlt
    obtain ⟨u, hu⟩ := getIn hlt
    have b1 := inB hlt
    simp only [go_sem, h0, h1, h5, getD_map hu, b1, encInts]
    refine acond_i (fun hb => ?_) (fun hb => ?_)
    · simp only [go_sem]
      refine cB ?_
      symm
      rw [List.all_eq_false]
      exact ⟨u, List.mem_of_getElem? hu, by rw [hb]; simp⟩
    · simp only [go_sem, h0, h1, h5, wrapS (show k ≤ 4611686018427387904 by omega)]
      exact ⟨⟨k + 1, hlt, rfl, take_all' (p := fun l : List Int => ((l.length : Int) != d) = false) hu hb hz⟩, by simp only [natOf_int]; omega⟩
  · have hge := geB hk hge
    subst hge
    rw [List.take_length] at hz
    simp only [go_sem]
    refine cB ?_
    symm
    rw [List.all_eq_true]
    intro l hl
    rw [hz l hl]; rfl
def sumAt (ll : List (List Int)) (i : Nat) : Int := ll.foldl (fun s l => IntKind.i64.wrap (s + l.getD i 0)) 0
theorem sumAt_succ {ll : List (List Int)} {k i : Nat} {l : List Int} (h : ll[k]? = some l) : sumAt (ll.take (k + 1)) i = IntKind.i64.wrap (sumAt (ll.take k) i + l.getD i 0) := by unfold sumAt; rw [take_succ h, List.foldl_append]; rfl
def sum06 (ll : List (List Int)) (d : Int) : List Int × Int := if even06 ll d = true then ((List.range d.toNat).map (sumAt ll), 0) else ([], 2)
theorem even_spec {ll : List (List Int)} {d : Int} (h : even06 ll d = true) : 0 ≤ d ∧ d ≤ 3 ∧ ∀ l ∈ ll, (l.length : Int) = d := by
  simp only [even06, Bool.and_eq_true, Bool.not_eq_true', Bool.or_eq_false_iff, decide_eq_false_iff_not, List.all_eq_true] at h
  refine ⟨by omega, by omega, fun l hl => ?_⟩
  have := h.2 l hl
  simpa using this
theorem bit5_c (i : Nat) (hi : i ≤ 62) : PC Tryz.prog 23 [int i] (int (2 ^ i : Nat)) := by
  refine PC.body (c := Tryz.f23.body.getD .skip) (fun _ => false) mixed Tryz.func23 rfl (by kernel_rfl) ?_
  unfold Tryz.f23
  simp only [Option.getD_some]
  simp only [go_sem]
  refine ⟨fun ρ H => ∃ (k : Nat), k ≤ i ∧ ρ 0 = int i ∧ ρ 4 = int k ∧ ρ 3 = int (2 ^ k : Nat), fun ρ _ => i - natOf (ρ 4), ⟨0, Nat.zero_le _, by simp only [go_sem], (by simp only [go_sem]; rfl), by simp only [go_sem]; rfl⟩, ?_⟩
  rintro ρ H ⟨k, hk, e0, e4, e3⟩
  simp only [go_sem, e0, e4, e3]
  refine acond_i (fun hlt => ?_) (fun hge => ?_)
  · have hlt := ltB hlt
    have hp : (2 : Nat) ^ (k + 1) ≤ 2 ^ 62 := Nat.pow_le_pow_right (by decide) (by omega)
    have hs : (2 : Nat) ^ (k + 1) = 2 * 2 ^ k := by rw [Nat.pow_succ, Nat.mul_comm]
    have w1 : IntKind.i64.wrap (2 * ((2 ^ k : Nat) : Int)) = ((2 ^ (k + 1) : Nat) : Int) := by rw [hs]; rw [hs] at hp; rw [wrap_in (by omega)]; rfl
    simp only [go_sem, e0, e4, e3, w1, wrapS (show k ≤ 4611686018427387904 by omega)]
    exact ⟨⟨k + 1, hlt, rfl, rfl⟩, by simp only [natOf_int]; omega⟩
  · have hge := geB hk hge
    subst hge
    simp only [go_sem, e0, e4, e3]
    exact .refl _
theorem has5_c (s : Nat) (i : Int) (hs : s < 2 ^ 63) : PC Tryz.prog 22 [int s, int i] (boo (hasR s i)) := by
  refine PC.body (c := Tryz.f22.body.getD .skip) (fun _ => false) mixed Tryz.func22 rfl (by kernel_rfl) ?_
  unfold Tryz.f22
  simp only [Option.getD_some]
  simp only [go_sem]
  refine ⟨int (2 ^ i.toNat : Nat), fun hg => ?_, ?_⟩
  · simp at hg
    obtain ⟨n, rfl⟩ := Int.eq_ofNat_of_zero_le hg.1
    exact (bit5_c n (by omega)).q rfl
  have hp : 0 < 2 ^ i.toNat := Nat.two_pow_pos _
  have w1 : IntKind.i64.wrap ((s : Int).tdiv ((2 ^ i.toNat : Nat) : Int)) = ((s / 2 ^ i.toNat : Nat) : Int) := by
    have : s / 2 ^ i.toNat ≤ s := Nat.div_le_self _ _
    rw [show ((s : Int).tdiv ((2 ^ i.toNat : Nat) : Int)) = ((s / 2 ^ i.toNat : Nat) : Int) from rfl]
    generalize s / 2 ^ i.toNat = q at *
    exact wrap_in (by omega)
  simp only [go_sem, w1]
  refine ⟨fun _ => by omega, fun _ => by decide, ?_⟩
  refine cB ?_
  unfold hasR
  have h3 : ((2 : Int) ^ i.toNat) = ((2 ^ i.toNat : Nat) : Int) := by norm_cast
  rw [h3]
  rfl
end Go.Proofs.YtbcfajfngdmgnaaGreatDoor.Nu
end

section
set_option linter.unusedSimpArgs false
set_option linter.unusedVariables false
namespace Go.Proofs.YtbcfajfngdmgnaaGreatDoor.Nu
open Go.Aw Go.Aw.D Go.Proofs Ty Go.Nu
set_option maxRecDepth 100000
theorem tripsD_spec {x : Instance} {d dim : Nat} {ms : List Int} (h : LoadsOk x d) (hd : dim < d) (hm : Memb x.orders ms) :
    0 ≤ tripsD x ms dim ∧ (capMax x.types dim < 1 → tripsD x ms dim = 0) ∧ (1 ≤ capMax x.types dim → ∀ n : Int, 0 ≤ n → (tripsD x ms dim ≤ n ↔ loadSum x.orders ms dim ≤ n * capMax x.types dim)) ∧ tripsD x ms dim ≤ loadSum x.orders ms dim := by
  have hL := (loadSum_in h hd hm).1
  have hC := (capMax_in h hd x.types.length).1
  rw [List.take_length] at hC
  unfold tripsD tripsL
  generalize loadSum x.orders ms dim = L at *
  generalize capMax x.types dim = C at *
  have hnc : ([C].any fun n => decide (n < 0)) = false := by simp; exact hC
  simp only [List.length_cons, List.length_nil, ne_eq, not_true, if_false, hnc, Bool.false_eq_true, tripsF]
  by_cases h0 : L ≤ 0
  · have : L = 0 := by omega
    subst this
    simp only [Int.le_refl, if_true]
    simp
    intro hc n hn
    exact ⟨fun _ => Int.mul_nonneg hn (by omega), fun _ => hn⟩
  · rw [if_neg h0]
    by_cases hc : C = 0
    · rw [if_pos hc]; simp; omega
    · rw [if_neg hc]
      have hq : imax 0 ((L + C - 1).tdiv C) = (L + C - 1) / C := by
        have h1 : (L + C - 1).tdiv C = (L + C - 1) / C := Int.tdiv_eq_ediv_of_nonneg (by omega)
        have h2 : 0 ≤ (L + C - 1) / C := Int.ediv_nonneg (by omega) (by omega)
        rw [h1]; unfold imax; split <;> omega
      simp only [hq, not_true, if_false]
      have h2 : 0 ≤ (L + C - 1) / C := Int.ediv_nonneg (by omega) (by omega)
      refine ⟨h2, fun h => by omega, fun h1 n hn => ?_, ?_⟩
      · have h4 : (L + C - 1) / C ≤ n ↔ (L + C - 1) / C < n + 1 := by omega
        rw [h4, Int.ediv_lt_iff_lt_mul (by omega), Int.add_mul, Int.one_mul]
        omega
      · have h4 : (L + C - 1) / C ≤ L ↔ (L + C - 1) / C < L + 1 := by omega
        rw [h4, Int.ediv_lt_iff_lt_mul (by omega), Int.add_mul, Int.one_mul]
        have : L * 1 ≤ L * C := Int.mul_le_mul_of_nonneg_left (by omega) (by omega)
        omega
theorem dimF_in {x : Instance} {d : Nat} {ms : List Int} (h : LoadsOk x d) (hm : Memb x.orders ms) (hl : ms.length ≤ 63) : ∀ k, k ≤ d → 1 ≤ dimF x ms k ∧ dimF x ms k ≤ 63001
  | 0, _ => by simp [dimF]
  | k + 1, hk => by
    have ih := dimF_in h hm hl k (by omega)
    have h1 := tripsD_spec h (dim := k) (by omega) hm
    have h2 := loadSum_in h (dim := k) (by omega) hm
    rw [dimF_succ]
    unfold imax
    split <;> omega
end Go.Proofs.YtbcfajfngdmgnaaGreatDoor.Nu
end

section
set_option linter.unusedSimpArgs false
set_option linter.unusedVariables false
namespace Go.So
variable {α : Type}
structure SWO (lt : α → α → Bool) : Prop where
  asym : ∀ a b, lt a b = true → lt b a = false
  neg : ∀ a b c, lt a b = false → lt b c = false → lt a c = false
def tlt (lt : α → α → Bool) (p q : α × Nat) : Prop := lt p.1 q.1 = true ∨ (lt q.1 p.1 = false ∧ p.2 < q.2)
section
variable {lt : α → α → Bool} (h : SWO lt)
include h
theorem lt_of {a b c : α} (h1 : lt a b = true) (h2 : lt c b = false) : lt a c = true := by
  cases hc : lt a c with
  | true => rfl
  | false => have := h.neg _ _ _ hc h2; rw [h1] at this; cases this
theorem lt_of2 {a b c : α} (h1 : lt a b = true) (h2 : lt a c = false) : lt c b = true := by
  cases hc : lt c b with
  | true => rfl
  | false => have := h.neg _ _ _ h2 hc; rw [h1] at this; cases this
theorem tlt_nlt {p q : α × Nat} (h1 : tlt lt p q) : lt q.1 p.1 = false := h1.elim (fun e => h.asym _ _ e) (fun e => e.1)
theorem tlt_trans {p q r : α × Nat} (h1 : tlt lt p q) (h2 : tlt lt q r) : tlt lt p r := by
  rcases h1 with h1 | ⟨h1, h1'⟩
  · exact .inl (lt_of h h1 (tlt_nlt h h2))
  · rcases h2 with h2 | ⟨h2, h2'⟩
    · exact .inl (lt_of2 h h2 h1)
    · exact .inr ⟨h.neg _ _ _ h2 h1, by omega⟩
theorem tlt_asym {p q : α × Nat} (h1 : tlt lt p q) (h2 : tlt lt q p) : False := by
  rcases h1 with h1 | ⟨h1, h1'⟩
  · have := tlt_nlt h h2; rw [h1] at this; cases this
  · rcases h2 with h2 | ⟨h2, h2'⟩
    · rw [h1] at h2; cases h2
    · omega
end
theorem perm_unique {R : α → α → Prop} (ha : ∀ a b, R a b → R b a → False) : ∀ l1 l2 : List α, l1.Perm l2 → l1.Pairwise R → l2.Pairwise R → l1 = l2
  | [], l2, hp, _, _ => (List.nil_perm.1 hp).symm
  | a :: t, [], hp, _, _ => absurd hp.length_eq (by simp)
  | a :: t, b :: u, hp, h1, h2 => by
    have h1' := List.pairwise_cons.1 h1
    have h2' := List.pairwise_cons.1 h2
    by_cases e : a = b
    · subst e
      rw [perm_unique ha t u ((List.perm_cons a).1 hp) h1'.2 h2'.2]
    · have ma : a ∈ u := (List.mem_cons.1 (hp.mem_iff.1 (List.mem_cons_self ..))).resolve_left e
      have mb : b ∈ t := (List.mem_cons.1 (hp.mem_iff.2 (List.mem_cons_self ..))).resolve_left (fun x => e x.symm)
      exact (ha a b (h1'.1 b mb) (h2'.1 a ma)).elim
def ins (lt : α → α → Bool) (x : α) : List α → List α
  | [] => [x]
  | z :: r => if lt x z = true then x :: z :: r else z :: ins lt x r
def ssort (lt : α → α → Bool) (l : List α) : List α := l.foldl (fun acc x => ins lt x acc) []
theorem ins_perm (lt : α → α → Bool) (x : α) : ∀ l : List α, (ins lt x l).Perm (x :: l)
  | [] => .refl _
  | z :: r => by
    unfold ins
    split
    · exact .refl _
    · exact ((ins_perm lt x r).cons z).trans (.swap x z r)
theorem ins_map {β : Type} (lt : α → α → Bool) (f : β → α) (x : β) : ∀ l : List β, (ins (fun a b => lt (f a) (f b)) x l).map f = ins lt (f x) (l.map f)
  | [] => rfl
  | z :: r => by
    rw [List.map_cons]
    unfold ins
    split
    · rfl
    · rw [List.map_cons, ins_map lt f x r]
theorem ins_mem {lt : α → α → Bool} {x y : α} {l : List α} : y ∈ ins lt x l ↔ y = x ∨ y ∈ l := by rw [(ins_perm lt x l).mem_iff, List.mem_cons]
theorem ins_sorted {lt : α → α → Bool} (h : SWO lt) (x : α × Nat) : ∀ l : List (α × Nat), l.Pairwise (tlt lt) → (∀ y ∈ l, y.2 < x.2) → (ins (fun a b => lt a.1 b.1) x l).Pairwise (tlt lt)
  | [], _, _ => by simp [ins]
  | z :: r, hs, hr => by
    have hs' := List.pairwise_cons.1 hs
    unfold ins
    split
    · next hx =>
      refine List.pairwise_cons.2 ⟨fun y hy => ?_, hs⟩
      rcases List.mem_cons.1 hy with rfl | hy
      · exact .inl hx
      · exact tlt_trans h (.inl hx) (hs'.1 y hy)
    · next hx =>
      refine List.pairwise_cons.2 ⟨fun y hy => ?_, ins_sorted h x r hs'.2 fun y hy => hr y (List.mem_cons_of_mem _ hy)⟩
      rcases ins_mem.1 hy with rfl | hy
      · exact .inr ⟨by simpa using hx, hr z (List.mem_cons_self ..)⟩
      · exact hs'.1 y hy
theorem foldl_ins {lt : α → α → Bool} (h : SWO lt) : ∀ (l acc : List (α × Nat)) (k : Nat), acc.Pairwise (tlt lt) → (∀ y ∈ acc, y.2 < k) → (∀ i (y : α × Nat), l[i]? = some y → y.2 = k + i) →
    ((l.foldl (fun a x => ins (fun a b => lt a.1 b.1) x a) acc).Pairwise (tlt lt) ∧ (l.foldl (fun a x => ins (fun a b => lt a.1 b.1) x a) acc).Perm (acc ++ l) ∧ (l.foldl (fun a x => ins (fun a b => lt a.1 b.1) x a) acc).map Prod.fst = (l.map Prod.fst).foldl (fun a x => ins lt x a) (acc.map Prod.fst))
  | [], acc, k, hs, _, _ => ⟨hs, by simp, rfl⟩
  | x :: l, acc, k, hs, hk, hl => by
    have hx : x.2 = k := by have := hl 0 x rfl; omega
    have ih := foldl_ins h l (ins (fun a b => lt a.1 b.1) x acc) (k + 1) (ins_sorted h x acc hs fun y hy => by have := hk y hy; omega) (fun y hy => by
      rcases ins_mem.1 hy with rfl | hy
      · omega
      · have := hk y hy; omega) (fun i y hi => by have := hl (i + 1) y (by simpa using hi); omega)
    rw [List.foldl_cons]
    refine ⟨ih.1, ih.2.1.trans ?_, ?_⟩
    · refine ((ins_perm _ x acc).append_right l).trans ?_
      exact List.perm_middle.symm
    · rw [ih.2.2, ins_map lt Prod.fst x acc, List.map_cons, List.foldl_cons]
def tag (l : List α) : List (α × Nat) := l.zipIdx
theorem tag_fst (l : List α) : (tag l).map Prod.fst = l := by unfold tag; exact List.zipIdx_map_fst 0 l
theorem tag_get {l : List α} {i : Nat} {y : α × Nat} (h : (tag l)[i]? = some y) : y.2 = i := by
  unfold tag at h
  rw [List.getElem?_zipIdx] at h
  cases hx : l[i]? with
  | none => rw [hx] at h; cases h
  | some a => rw [hx] at h; simp at h; rw [← h]
theorem tag_len (l : List α) : (tag l).length = l.length := by unfold tag; exact List.length_zipIdx
theorem sorted_is {lt : α → α → Bool} (h : SWO lt) {l : List α} {L : List (α × Nat)} (hp : L.Perm (tag l)) (hs : L.Pairwise (tlt lt)) : L.map Prod.fst = ssort lt l := by
  have hf := foldl_ins h (tag l) [] 0 List.Pairwise.nil (by simp) (fun i y hi => by have := tag_get hi; omega)
  rw [perm_unique (fun a b => tlt_asym h) L _ (hp.trans hf.2.1.symm) hs hf.1, hf.2.2, tag_fst]
  rfl
section
variable {lt : α → α → Bool} (h : SWO lt)
include h
theorem mid_sorted {Q B : List (α × Nat)} {x : α × Nat} (hs : (Q ++ B).Pairwise (tlt lt)) (h1 : ∀ y, Q.getLast? = some y → tlt lt y x) (h2 : ∀ y, B.head? = some y → tlt lt x y) : (Q ++ x :: B).Pairwise (tlt lt) := by
  obtain ⟨hQ, hB, hQB⟩ := List.pairwise_append.1 hs
  have hxB : ∀ b ∈ B, tlt lt x b := by
    intro b hb
    cases B with
    | nil => cases hb
    | cons y r =>
      rcases List.mem_cons.1 hb with rfl | hb
      · exact h2 b rfl
      · exact tlt_trans h (h2 y rfl) ((List.pairwise_cons.1 hB).1 b hb)
  have hQx : ∀ a ∈ Q, tlt lt a x := by
    intro a ha
    rcases List.eq_nil_or_concat Q with rfl | ⟨Q', y, rfl⟩
    · cases ha
    · rw [List.concat_eq_append] at *
      have hy := h1 y (by simp)
      rcases List.mem_append.1 ha with ha | ha
      · exact tlt_trans h ((List.pairwise_append.1 hQ).2.2 a ha y (by simp)) hy
      · rw [List.mem_singleton.1 ha]; exact hy
  refine List.pairwise_append.2 ⟨hQ, List.pairwise_cons.2 ⟨hxB, hB⟩, fun a ha b hb => ?_⟩
  rcases List.mem_cons.1 hb with rfl | hb
  · exact hQx a ha
  · exact hQB a ha b hb
theorem merge_sorted {A1 A2 B1 B2 M1 M2 : List (α × Nat)} (hA : (A1 ++ A2).Pairwise (tlt lt)) (hB : (B1 ++ B2).Pairwise (tlt lt))
    (h1 : ∀ x y, A1.getLast? = some x → B2.head? = some y → tlt lt x y) (h2 : ∀ x y, B1.getLast? = some x → A2.head? = some y → tlt lt x y)
    (p1 : M1.Perm (A1 ++ B1)) (p2 : M2.Perm (A2 ++ B2)) (s1 : M1.Pairwise (tlt lt)) (s2 : M2.Pairwise (tlt lt)) :
    (M1 ++ M2).Pairwise (tlt lt) ∧ (M1 ++ M2).Perm ((A1 ++ A2) ++ (B1 ++ B2)) := by
  have cross : ∀ {X Y : List (α × Nat)}, X.Pairwise (tlt lt) → Y.Pairwise (tlt lt) → (∀ x y, X.getLast? = some x → Y.head? = some y → tlt lt x y) → ∀ x ∈ X, ∀ y ∈ Y, tlt lt x y := by
    intro X Y hX hY hc x hx y hy
    rcases List.eq_nil_or_concat X with rfl | ⟨X', z, rfl⟩
    · cases hx
    · rw [List.concat_eq_append] at *
      cases Y with
      | nil => cases hy
      | cons w r =>
        have hzw := hc z w (by simp) rfl
        have hxz : x = z ∨ tlt lt x z := by
          rcases List.mem_append.1 hx with hx | hx
          · exact .inr ((List.pairwise_append.1 hX).2.2 x hx z (by simp))
          · exact .inl (List.mem_singleton.1 hx)
        have hwy : y = w ∨ tlt lt w y := by
          rcases List.mem_cons.1 hy with hy | hy
          · exact .inl hy
          · exact .inr ((List.pairwise_cons.1 hY).1 y hy)
        have hxw : tlt lt x w := hxz.elim (fun e => e ▸ hzw) (fun e => tlt_trans h e hzw)
        exact hwy.elim (fun e => e ▸ hxw) (fun e => tlt_trans h hxw e)
  obtain ⟨a1, a2, a12⟩ := List.pairwise_append.1 hA
  obtain ⟨b1, b2, b12⟩ := List.pairwise_append.1 hB
  refine ⟨List.pairwise_append.2 ⟨s1, s2, fun x hx y hy => ?_⟩, ?_⟩
  · rcases List.mem_append.1 (p1.mem_iff.1 hx) with hx | hx <;> rcases List.mem_append.1 (p2.mem_iff.1 hy) with hy | hy
    · exact a12 x hx y hy
    · exact cross a1 b2 h1 x hx y hy
    · exact cross b1 a2 h2 x hx y hy
    · exact b12 x hx y hy
  · refine (p1.append p2).trans ?_
    rw [List.append_assoc, List.append_assoc]
    refine List.Perm.append_left _ ?_
    rw [← List.append_assoc, ← List.append_assoc]
    exact (List.perm_append_comm).append_right _
end
def swp (l : List α) (i j : Nat) : List α := match l[i]?, l[j]? with
  | some x, some y => (l.set i y).set j x
  | _, _ => l
theorem swp_len (l : List α) (i j : Nat) : (swp l i j).length = l.length := by
  unfold swp
  split <;> simp
theorem swp_at {U V W : List α} {x y : α} {i j : Nat} (hi : i = U.length) (hj : j = U.length + 1 + V.length) : swp (U ++ x :: (V ++ y :: W)) i j = U ++ y :: (V ++ x :: W) := by
  subst hi hj
  unfold swp
  have e1 : (U ++ x :: (V ++ y :: W))[U.length]? = some x := by simp
  have e2 : (U ++ x :: (V ++ y :: W))[U.length + 1 + V.length]? = some y := by
    rw [List.getElem?_append_right (by omega), show U.length + 1 + V.length - U.length = V.length + 1 by omega, List.getElem?_cons_succ, List.getElem?_append_right (by omega)]
    simp
  rw [e1, e2]
  simp only
  rw [List.set_append_right _ _ (by omega), show U.length - U.length = 0 by omega, List.set_cons_zero, List.set_append_right _ _ (by omega), show U.length + 1 + V.length - U.length = V.length + 1 by omega, List.set_cons_succ, List.set_append_right _ _ (by omega), Nat.sub_self, List.set_cons_zero]
theorem swp_next {U W : List α} {x y : α} {i j : Nat} (hi : i = U.length) (hj : j = U.length + 1) : swp (U ++ x :: y :: W) i j = U ++ y :: x :: W := swp_at (V := []) hi (by simpa using hj)
theorem swp_comm (l : List α) (i j : Nat) (h : i ≠ j) : swp l i j = swp l j i := by
  unfold swp
  cases l[i]? with
  | none => cases l[j]? <;> rfl
  | some x => cases l[j]? with
    | none => rfl
    | some y => exact List.set_comm _ _ h
def swpN (l : List α) (a b : Nat) : Nat → List α
  | 0 => l
  | n + 1 => swp (swpN l a b n) (a + n) (b + n)
theorem swpN_len (l : List α) (a b : Nat) : ∀ n, (swpN l a b n).length = l.length
  | 0 => rfl
  | n + 1 => by rw [swpN, swp_len, swpN_len l a b n]
theorem swpN_at {P X V Y S : List α} (h : X.length = Y.length) : ∀ n, n ≤ X.length → swpN (P ++ X ++ V ++ Y ++ S) P.length (P.length + X.length + V.length) n = P ++ (Y.take n ++ X.drop n) ++ V ++ (X.take n ++ Y.drop n) ++ S
  | 0, _ => by simp [swpN]
  | n + 1, hn => by
    rw [swpN, swpN_at h n (by omega)]
    have hx : n < X.length := by omega
    have hy : n < Y.length := by omega
    rw [← List.getElem_cons_drop (h := hx), ← List.getElem_cons_drop (h := hy)]
    have e := swp_at (U := P ++ Y.take n) (V := X.drop (n + 1) ++ V ++ X.take n) (W := Y.drop (n + 1) ++ S) (x := X[n]) (y := Y[n]) (i := P.length + n) (j := P.length + X.length + V.length + n) (by rw [List.length_append, List.length_take]; omega) (by
      simp only [List.length_append, List.length_take, List.length_drop]; omega)
    simp only [List.append_assoc, List.cons_append] at e ⊢
    rw [e]
    simp only [List.take_add_one, List.getElem?_eq_getElem hx, List.getElem?_eq_getElem hy, Option.toList_some, List.append_assoc, List.cons_append, List.nil_append]
theorem swpN_all {P X V Y S : List α} {a b n : Nat} (ha : a = P.length) (hb : b = P.length + X.length + V.length) (hn : n = X.length) (h : Y.length = n) : swpN (P ++ X ++ V ++ Y ++ S) a b n = P ++ Y ++ V ++ X ++ S := by
  subst ha hb hn
  rw [swpN_at h.symm _ (Nat.le_refl _), List.take_of_length_le (by omega), List.drop_length, List.append_nil, List.take_length, List.drop_of_length_le (by omega), List.append_nil]
def ranks (A B : List (α × Nat)) : Prop := ∀ x ∈ A, ∀ y ∈ B, x.2 < y.2
structure Good (lt : α → α → Bool) (R : List (List (α × Nat))) : Prop where
  srt : ∀ A ∈ R, A.Pairwise (tlt lt)
  rk : R.Pairwise ranks
def shape (n : Nat) : List (List (α × Nat)) → Prop
  | [] => True
  | [A] => 1 ≤ A.length ∧ A.length ≤ n
  | A :: B :: r => A.length = n ∧ shape n (B :: r)
theorem shape_cons {n : Nat} {A : List (α × Nat)} {r : List (List (α × Nat))} (h1 : A.length = n) (h0 : 1 ≤ n) (h : shape n r) : shape n (A :: r) := by
  cases r with
  | nil => exact ⟨by omega, by omega⟩
  | cons B r => exact ⟨h1, h⟩
theorem shape_app {n : Nat} {D r : List (List (α × Nat))} (h1 : ∀ A ∈ D, A.length = n) (h0 : 1 ≤ n) (h : shape n r) : shape n (D ++ r) := by
  induction D with
  | nil => exact h
  | cons A D ih => exact shape_cons (h1 A (by simp)) h0 (ih fun A hA => h1 A (by simp [hA]))
theorem shape_two {n : Nat} {R : List (List (α × Nat))} (h0 : 1 ≤ n) (h : shape n R) (hl : 2 * n ≤ R.flatten.length) : ∃ A B r, R = A :: B :: r ∧ A.length = n ∧ B.length = n ∧ shape n r := by
  match R, h with
  | [], _ => simp at hl; omega
  | [A], h => simp at hl; have := h.2; omega
  | [A, B], h => exact ⟨A, B, [], rfl, h.1, by have := h.1; have := h.2.2; simp at hl; omega, trivial⟩
  | A :: B :: C :: r, h => exact ⟨A, B, C :: r, rfl, h.1, h.2.1, h.2.2⟩
theorem shape_last {n : Nat} {R : List (List (α × Nat))} (h : shape n R) (hl : R.flatten.length < 2 * n) (hg : n < R.flatten.length) : ∃ A B, R = [A, B] ∧ A.length = n ∧ 1 ≤ B.length ∧ B.length ≤ n := by
  match R, h with
  | [], _ => simp at hg
  | [A], h => simp at hg; have := h.2; omega
  | [A, B], h => exact ⟨A, B, rfl, h.1, h.2.1, h.2.2⟩
  | A :: B :: C :: r, h => have := h.1; have := h.2.1; simp at hl; omega
theorem shape_one {n : Nat} {R : List (List (α × Nat))} (h0 : 1 ≤ n) (h : shape n R) (hl : R.flatten.length ≤ n) : R = [] ∨ ∃ A, R = [A] ∧ 1 ≤ A.length ∧ A.length ≤ n := by
  match R, h with
  | [], _ => exact .inl rfl
  | [A], h => exact .inr ⟨A, rfl, h⟩
  | [A, B], h => have := h.1; have := h.2.1; simp at hl; omega
  | A :: B :: C :: r, h => have := h.1; have := h.2.1; simp at hl; omega
theorem good_ranks {lt : α → α → Bool} {D r : List (List (α × Nat))} {A B : List (α × Nat)} (h : Good lt (D ++ A :: B :: r)) : ranks A B ∧ A.Pairwise (tlt lt) ∧ B.Pairwise (tlt lt) := by
  have h2 := (List.pairwise_append.1 h.rk).2.1
  exact ⟨(List.pairwise_cons.1 h2).1 B (by simp), h.srt A (by simp), h.srt B (by simp)⟩
theorem good_merge {lt : α → α → Bool} {D r : List (List (α × Nat))} {A B M : List (α × Nat)} (h : Good lt (D ++ A :: B :: r)) (hp : M.Perm (A ++ B)) (hs : M.Pairwise (tlt lt)) : Good lt (D ++ M :: r) := by
  obtain ⟨q1, q2, q3⟩ := List.pairwise_append.1 h.rk
  obtain ⟨q4, q5⟩ := List.pairwise_cons.1 q2
  obtain ⟨q6, q7⟩ := List.pairwise_cons.1 q5
  refine ⟨fun C hC => ?_, List.pairwise_append.2 ⟨q1, List.pairwise_cons.2 ⟨fun C hC x hx y hy => ?_, q7⟩, fun C hC E hE => ?_⟩⟩
  · rcases List.mem_append.1 hC with hC | hC
    · exact h.srt C (by simp [hC])
    · rcases List.mem_cons.1 hC with rfl | hC
      · exact hs
      · exact h.srt C (by simp [hC])
  · rcases List.mem_append.1 (hp.mem_iff.1 hx) with hx | hx
    · exact q4 C (by simp [hC]) x hx y hy
    · exact q6 C hC x hx y hy
  · rcases List.mem_cons.1 hE with rfl | hE
    · intro x hx y hy
      rcases List.mem_append.1 (hp.mem_iff.1 hy) with hy | hy
      · exact q3 C hC A (by simp) x hx y hy
      · exact q3 C hC B (by simp) x hx y hy
    · exact q3 C hC E (by simp [hE])
theorem good_end {lt : α → α → Bool} {n : Nat} {R : List (List (α × Nat))} (h : Good lt R) (h0 : 1 ≤ n) (hs : shape n R) (hl : R.flatten.length ≤ n) : R.flatten.Pairwise (tlt lt) := by
  rcases shape_one h0 hs hl with rfl | ⟨A, rfl, _⟩
  · exact List.Pairwise.nil
  · simpa using h.srt A (by simp)
theorem good_more {lt : α → α → Bool} {D : List (List (α × Nat))} {A : List (α × Nat)} (h : Good lt D) (hs : A.Pairwise (tlt lt)) (hr : ∀ B ∈ D, ranks B A) : Good lt (D ++ [A]) := by
  refine ⟨fun C hC => ?_, List.pairwise_append.2 ⟨h.rk, List.pairwise_singleton _ _, fun C hC E hE => ?_⟩⟩
  · rcases List.mem_append.1 hC with hC | hC
    · exact h.srt C hC
    · rw [List.mem_singleton.1 hC]; exact hs
  · rw [List.mem_singleton.1 hE]; exact hr C hC
theorem tag_ranks {l : List α} {P Q : List (α × Nat)} (h : P ++ Q = tag l) : ranks P Q := by
  intro x hx y hy
  obtain ⟨i, hi, rfl⟩ := List.getElem_of_mem hx
  obtain ⟨j, hj, rfl⟩ := List.getElem_of_mem hy
  have e1 : (tag l)[i]? = some P[i] := by rw [← h, List.getElem?_append_left hi, List.getElem?_eq_getElem hi]
  have e2 : (tag l)[P.length + j]? = some Q[j] := by rw [← h, List.getElem?_append_right (by omega), Nat.add_sub_cancel_left, List.getElem?_eq_getElem hj]
  rw [tag_get e1, tag_get e2]; omega
end Go.So
end
