/- closures over lists: slices.IndexFunc, slices.ContainsFunc; small functions of sequence, order and sets; sets of orders as numbers; sequence.Orders -/
import Derived.Test.YtbefdpmjpioijaaGreatDoorSqR
set_option linter.unusedSimpArgs false
set_option linter.unusedVariables false
namespace Go.Proofs.YtbefdpmjpioijaaGreatDoor.Sq
open Go.Aw Go.Aw.D Go.Proofs Ty
open Mv (convI convB convA NC.pc take_allP)
set_option maxRecDepth 100000

theorem idxF_any {α : Type} {p : α → Bool} : ∀ (l : List α) (n : Int), 0 ≤ n → decide (idxF p l n ≥ 0) = l.any p
  | [], n, _ => rfl
  | a :: r, n, hn => by
    have ih := idxF_any (p := p) r (n + 1) (by omega)
    rw [Bool.eq_iff_iff] at ih ⊢
    simp only [decide_eq_true_eq] at ih ⊢
    rw [List.any_cons, Bool.or_eq_true, ← ih]
    by_cases h : p a = true
    · rw [show idxF p (a :: r) n = n from if_pos h]; exact ⟨fun _ => .inl h, fun _ => hn⟩
    · rw [show idxF p (a :: r) n = idxF p r (n + 1) from if_neg h]; exact ⟨fun x => .inr x, fun x => x.resolve_left h⟩
theorem encInts_len' (l : List Int) : (encInts l).length = 1 := (rfl)
theorem encInts_0 (l : List Int) : (encInts l).getD 0 .any = .sl (l.map encInt) := (rfl)
attribute [go_sem] encInts_len' encInts_0
theorem indexFuncV_c {g : Nat} {cap : List AV} {p : Visit → Bool} (l : List (Visit)) (hl : l.length ≤ 1048576) (hok : callOk Tryz.prog g = true) (hg : ∀ v ∈ l, PC Tryz.prog g (.agg (encVisit v) :: cap) (boo (p v))) :
    PC Tryz.prog 117 [.sl (l.map encVisit), .fn g cap] (int (idxF p l 0)) := by
  refine PC.body (c := Tryz.f117.body.getD .skip) (fun _ => false) mixed Tryz.func117 rfl (by kernel_rfl) ?_
  unfold Tryz.f117
  simp only [Option.getD_some]
  simp only [go_sem]
  refine ⟨fun ρ _ => ∃ k : Nat, k ≤ l.length ∧ ρ 0 = .sl (l.map encVisit) ∧ ρ 1 = .fn g cap ∧ ρ 7 = int l.length ∧ ρ 8 = int k ∧ ∀ u ∈ l.take k, p u = false, fun ρ _ => l.length - natOf (ρ 8), ⟨0, Nat.zero_le _, rfl, rfl, rfl, rfl, by simp⟩, ?_⟩
  rintro ρ H ⟨k, hk, h0, h1, h7, h8, hz⟩
  simp only [go_sem, h0, h1, h7, h8]
  refine acond_i (fun hlt => ?_) (fun hge => ?_)
  · have hlt := le_of_lt_b hlt
    obtain ⟨u, hu⟩ := getIn hlt
    have b1 := inB hlt
    simp only [go_sem, h0, h1, h7, h8, getD_map hu, b1, hok]
    refine PC.use (hg u (List.mem_of_getElem? hu)) ?_
    simp only [go_sem, h0, h1, h7, h8]
    refine acond_i (fun hb => ?_) (fun hb => ?_)
    · simp only [go_sem, h8]
      exact convI (by rw [idxF_hit hz hu hb]; omega)
    · simp only [go_sem, h0, h1, h7, h8, wrapS (show k ≤ 4611686018427387904 by omega)]
      exact ⟨⟨k + 1, hlt, rfl, take_allP (p := fun u => p u = false) hu hb hz⟩, by simp only [natOf_int]; omega⟩
  · have hge := eq_of_ge_b hk hge
    subst hge
    rw [List.take_length] at hz
    simp only [go_sem]
    exact convI (by rw [idxF_miss hz])
theorem containsFuncV_c {g : Nat} {cap : List AV} {p : Visit → Bool} (l : List (Visit)) (hl : l.length ≤ 1048576) (hok : callOk Tryz.prog g = true) (hg : ∀ v ∈ l, PC Tryz.prog g (.agg (encVisit v) :: cap) (boo (p v))) :
    PC Tryz.prog 79 [.sl (l.map encVisit), .fn g cap] (boo (l.any p)) := by
  refine PC.body (c := Tryz.f79.body.getD .skip) (fun _ => false) mixed Tryz.func79 rfl (by kernel_rfl) ?_
  unfold Tryz.f79
  simp only [Option.getD_some]
  simp only [go_sem]
  refine PC.use (indexFuncV_c l hl hok hg) ?_
  simp only [go_sem]
  exact convB (idxF_any l 0 (Int.le_refl _))
theorem indexFuncL_c {g : Nat} {cap : List AV} {p : List Int → Bool} (l : List (List Int)) (hl : l.length ≤ 1048576) (hok : callOk Tryz.prog g = true) (hg : ∀ v ∈ l, PC Tryz.prog g (.sl (v.map encInt) :: cap) (boo (p v))) :
    PC Tryz.prog 127 [.sl (l.map encInts), .fn g cap] (int (idxF p l 0)) := by
  refine PC.body (c := Tryz.f127.body.getD .skip) (fun _ => false) mixed Tryz.func127 rfl (by kernel_rfl) ?_
  unfold Tryz.f127
  simp only [Option.getD_some]
  simp only [go_sem]
  refine ⟨fun ρ _ => ∃ k : Nat, k ≤ l.length ∧ ρ 0 = .sl (l.map encInts) ∧ ρ 1 = .fn g cap ∧ ρ 7 = int l.length ∧ ρ 8 = int k ∧ ∀ u ∈ l.take k, p u = false, fun ρ _ => l.length - natOf (ρ 8), ⟨0, Nat.zero_le _, rfl, rfl, rfl, rfl, by simp⟩, ?_⟩
  rintro ρ H ⟨k, hk, h0, h1, h7, h8, hz⟩
  simp only [go_sem, h0, h1, h7, h8]
  refine acond_i (fun hlt => ?_) (fun hge => ?_)
  · have hlt := le_of_lt_b hlt
    obtain ⟨u, hu⟩ := getIn hlt
    have b1 := inB hlt
    simp only [go_sem, h0, h1, h7, h8, getD_map hu, b1, hok]
    refine PC.use (hg u (List.mem_of_getElem? hu)) ?_
    simp only [go_sem, h0, h1, h7, h8]
    refine acond_i (fun hb => ?_) (fun hb => ?_)
    · simp only [go_sem, h8]
      exact convI (by rw [idxF_hit hz hu hb]; omega)
    · simp only [go_sem, h0, h1, h7, h8, wrapS (show k ≤ 4611686018427387904 by omega)]
      exact ⟨⟨k + 1, hlt, rfl, take_allP (p := fun u => p u = false) hu hb hz⟩, by simp only [natOf_int]; omega⟩
  · have hge := eq_of_ge_b hk hge
    subst hge
    rw [List.take_length] at hz
    simp only [go_sem]
    exact convI (by rw [idxF_miss hz])
theorem containsFuncL_c {g : Nat} {cap : List AV} {p : List Int → Bool} (l : List (List Int)) (hl : l.length ≤ 1048576) (hok : callOk Tryz.prog g = true) (hg : ∀ v ∈ l, PC Tryz.prog g (.sl (v.map encInt) :: cap) (boo (p v))) :
    PC Tryz.prog 88 [.sl (l.map encInts), .fn g cap] (boo (l.any p)) := by
  refine PC.body (c := Tryz.f88.body.getD .skip) (fun _ => false) mixed Tryz.func88 rfl (by kernel_rfl) ?_
  unfold Tryz.f88
  simp only [Option.getD_some]
  simp only [go_sem]
  refine PC.use (indexFuncL_c l hl hok hg) ?_
  simp only [go_sem]
  exact convB (idxF_any l 0 (Int.le_refl _))
theorem index_c (l : List Visit) (v : Visit) (hl : l.length ≤ 1048576) : PC Tryz.prog 144 [.sl (l.map encVisit), .agg (encVisit v)] (int (index16 l v)) := by
  refine PC.body (c := Tryz.f144.body.getD .skip) (fun _ => false) mixed Tryz.func144 rfl (by kernel_rfl) ?_
  unfold Tryz.f144
  simp only [Option.getD_some]
  simp only [go_sem]
  refine ⟨fun ρ _ => ∃ k : Nat, k ≤ l.length ∧ ρ 0 = .sl (l.map encVisit) ∧ ρ 3 = .rp (encVisit v) 0 ∧ ρ 7 = int l.length ∧ ρ 8 = int k ∧ ∀ u ∈ l.take k, sameV v u = false, fun ρ _ => l.length - natOf (ρ 8), ⟨0, Nat.zero_le _, rfl, rfl, rfl, rfl, by simp⟩, ?_⟩
  rintro ρ H ⟨k, hk, h0, h3, h7, h8, hz⟩
  simp only [go_sem, h0, h3, h7, h8]
  refine acond_i (fun hlt => ?_) (fun hge => ?_)
  · have hlt := le_of_lt_b hlt
    obtain ⟨u, hu⟩ := getIn hlt
    have b1 := inB hlt
    have su : (v.order == u.order && (v.drop == u.drop && true)) = sameV v u := by
      unfold sameV
      rw [show (v.order == u.order) = (u.order == v.order) from Bool.eq_iff_iff.2 (by simp only [beq_iff_eq]; exact eq_comm), show (v.drop == u.drop) = (u.drop == v.drop) from by cases v.drop <;> cases u.drop <;> rfl]
    simp only [go_sem, h0, h3, h7, h8]
    refine adraw_q (by rfl) (by kernel_rfl) ?_
    simp only [go_sem, h0, h3, h7, h8, getD_map hu, b1]
    refine acond_i (fun hb => ?_) (fun hb => ?_)
    · have hb : sameV v u = true := by rw [← su]; exact hb
      simp only [go_sem, h8]
      exact convI (by rw [index16, idxF_hit hz hu hb]; omega)
    · have hb : sameV v u = false := by rw [← su]; exact hb
      simp only [go_sem, h0, h3, h7, h8, wrapS (show k ≤ 4611686018427387904 by omega)]
      exact ⟨⟨k + 1, hlt, rfl, take_allP (p := fun u => sameV v u = false) hu hb hz⟩, by simp only [natOf_int]; omega⟩
  · have hge := eq_of_ge_b hk hge
    subst hge
    rw [List.take_length] at hz
    simp only [go_sem]
    exact convI (by rw [index16, idxF_miss hz])
def inV (l : List Visit) (v : Visit) : Bool := decide (index16 l v ≥ 0)
theorem contains_c (l : List Visit) (v : Visit) (hl : l.length ≤ 1048576) : PC Tryz.prog 120 [.sl (l.map encVisit), .agg (encVisit v)] (boo (inV l v)) := by
  refine PC.body (c := Tryz.f120.body.getD .skip) (fun _ => false) mixed Tryz.func120 rfl (by kernel_rfl) ?_
  unfold Tryz.f120
  simp only [Option.getD_some]
  simp only [go_sem]
  refine PC.use (index_c l v hl) ?_
  simp only [go_sem]
  exact .refl _
theorem place_c (l : List Visit) (v : Visit) (hl : l.length ≤ 1048576) : PC Tryz.prog 118 [.sl (l.map encVisit), .agg (encVisit v)] (int (index16 l v)) := by
  refine PC.body (c := Tryz.f118.body.getD .skip) (fun _ => false) mixed Tryz.func118 rfl (by kernel_rfl) ?_
  unfold Tryz.f118
  simp only [Option.getD_some]
  simp only [go_sem]
  refine PC.use (index_c l v hl) ?_
  simp only [go_sem]
  exact .refl _
def hasO (l : List Visit) (o : Int) : Bool := l.any fun v => v.order == o
theorem has1_c (o : Int) (v : Visit) : PC Tryz.prog 121 [.agg (encVisit v), .rp [int o] 0] (boo (v.order == o)) := by
  refine PC.body (c := Tryz.f121.body.getD .skip) (fun _ => false) mixed Tryz.func121 rfl (by kernel_rfl) ?_
  unfold Tryz.f121
  simp only [Option.getD_some]
  simp only [go_sem]
  exact .refl _
theorem before1_c (o : Int) (v : Visit) : PC Tryz.prog 122 [.agg (encVisit v), .rp [int o] 0] (boo (v.order == o)) := by
  refine PC.body (c := Tryz.f122.body.getD .skip) (fun _ => false) mixed Tryz.func122 rfl (by kernel_rfl) ?_
  unfold Tryz.f122
  simp only [Option.getD_some]
  simp only [go_sem]
  exact .refl _
theorem has_c (l : List Visit) (o : Int) (hl : l.length ≤ 1048576) : PC Tryz.prog 84 [.sl (l.map encVisit), int o] (boo (hasO l o)) := by
  refine PC.body (c := Tryz.f84.body.getD .skip) (fun _ => false) mixed Tryz.func84 rfl (by kernel_rfl) ?_
  unfold Tryz.f84
  simp only [Option.getD_some]
  simp only [go_sem]
  refine PC.use (containsFuncV_c (p := fun v => v.order == o) l hl (by kernel_rfl) (fun v _ => has1_c o v)) ?_
  simp only [go_sem]
  exact .refl _
theorem there_c (l : List Order) (k : Int) : PC Tryz.prog 137 [.sl (l.map encOrder), int k] (boo (!badNo k l.length)) := by
  refine PC.body (c := Tryz.f137.body.getD .skip) (fun _ => false) mixed Tryz.func137 rfl (by kernel_rfl) ?_
  unfold Tryz.f137
  simp only [Option.getD_some]
  simp only [go_sem]
  refine convB ?_
  unfold badNo
  rw [Bool.eq_iff_iff]; simp

theorem all_hit {α : Type} {p : α → Bool} {l : List α} {k : Nat} {x : α} (hk : l[k]? = some x) (hx : p x = false) : l.all p = false := by
  rw [List.all_eq_false]
  exact ⟨x, List.mem_of_getElem? hk, by simp [hx]⟩
theorem all_none {α : Type} {p : α → Bool} {l : List α} (h : ∀ x ∈ l.take l.length, p x = true) : l.all p = true := by
  rw [List.take_length] at h
  rw [List.all_eq_true]; exact h
theorem and1 (x : Int) : bitV .and .i64 x 1 = x % 2 := by
  have h : ((BitVec.ofInt 64 x &&& BitVec.ofInt 64 1).toNat : Int) = x % 2 := by
    rw [BitVec.toNat_and, BitVec.toNat_ofInt, BitVec.toNat_ofInt]
    have : ((1 : Int) % ((2 ^ 64 : Nat) : Int)).toNat = 1 := by decide
    rw [this, Nat.and_one_is_mod]
    omega
  refine Eq.trans (congrArg IntKind.i64.wrap h) ?_
  exact wrap_in (by omega)
theorem or_nat {a b : Nat} (ha : a < 2 ^ 63) (hb : b < 2 ^ 63) : bitV .or .i64 (a : Int) (b : Int) = ((a ||| b : Nat) : Int) := by
  have h : ((BitVec.ofInt 64 (a : Int) ||| BitVec.ofInt 64 (b : Int)).toNat : Int) = ((a ||| b : Nat) : Int) := by
    rw [BitVec.toNat_or, BitVec.toNat_ofInt, BitVec.toNat_ofInt]
    have h1 : ((a : Int) % ((2 ^ 64 : Nat) : Int)).toNat = a := by omega
    have h2 : ((b : Int) % ((2 ^ 64 : Nat) : Int)).toNat = b := by omega
    rw [h1, h2]
  refine Eq.trans (congrArg IntKind.i64.wrap h) ?_
  have := Nat.or_lt_two_pow ha hb
  exact wrap_in (by omega)
theorem shr_in {x : Int} {i : Nat} (h : i ≤ 62) : shV .shr .i64 x (i : Int) = x / 2 ^ i := by
  show x.fdiv (2 ^ min ((i : Int)).toNat 64) = _
  have : min ((i : Int)).toNat 64 = i := by omega
  rw [this, Int.fdiv_eq_ediv_of_nonneg _ (by exact Int.le_of_lt (Int.pow_pos (by decide)))]
theorem shl_in {i : Nat} (h : i ≤ 62) : shV .shl .i64 1 (i : Int) = ((2 ^ i : Nat) : Int) := by
  show IntKind.i64.wrap (1 * 2 ^ min ((i : Int)).toNat 64) = _
  have : min ((i : Int)).toNat 64 = i := by omega
  rw [this, Int.one_mul]
  have h2 : (2 : Nat) ^ i ≤ 2 ^ 62 := Nat.pow_le_pow_right (by decide) h
  have h3 : ((2 : Int) ^ i) = ((2 ^ i : Nat) : Int) := by norm_cast
  rw [h3]
  generalize 2 ^ i = m at h2
  exact wrap_in (by omega)
def hasR (set i : Int) : Bool := decide (i ≥ 0) && decide (i ≤ 62) && ((set / 2 ^ i.toNat) % 2 == 1)
theorem sHas_c (set i : Int) : PC Tryz.prog 18 [int set, int i] (boo (hasR set i)) := by
  refine PC.body (c := Tryz.f18.body.getD .skip) (fun _ => false) mixed Tryz.func18 rfl (by kernel_rfl) ?_
  unfold Tryz.f18
  simp only [Option.getD_some]
  simp only [go_sem]
  refine ⟨fun h => ?_, ?_⟩
  · simp at h; omega
  · refine convB ?_
    unfold hasR
    rw [and1]
    by_cases h : 0 ≤ i ∧ i ≤ 62
    · obtain ⟨h0, h1⟩ := h
      have e := shr_in (x := set) (i := i.toNat) (by omega)
      rw [Int.toNat_of_nonneg h0] at e
      rw [e]
    · have : (decide (i ≥ 0) && decide (i ≤ 62)) = false := by simp; omega
      rw [this]; rfl
def setN (l : List Visit) : Nat := l.foldl (fun s v => s ||| 2 ^ v.order.toNat) 0
theorem setN_app (l : List Visit) (v : Visit) : setN (l ++ [v]) = setN l ||| 2 ^ v.order.toNat := by simp [setN]
theorem setN_lt {m : Nat} (l : List Visit) (h : ∀ v ∈ l, v.order.toNat < m) : setN l < 2 ^ m := by
  suffices ∀ (l : List Visit) (s : Nat), s < 2 ^ m → (∀ v ∈ l, v.order.toNat < m) → l.foldl (fun s v => s ||| 2 ^ v.order.toNat) s < 2 ^ m from this l 0 (Nat.two_pow_pos m) h
  intro l
  induction l with
  | nil => intro s hs _; exact hs
  | cons v r ih =>
    intro s hs h
    rw [List.foldl_cons]
    exact ih _ (Nat.or_lt_two_pow hs (Nat.pow_lt_pow_right (by decide) (h v (by simp)))) fun v hv => h v (by simp [hv])
theorem setN_bit (l : List Visit) (i : Nat) : (setN l).testBit i = l.any fun v => v.order.toNat == i := by
  suffices ∀ (l : List Visit) (s : Nat), (l.foldl (fun s v => s ||| 2 ^ v.order.toNat) s).testBit i = (s.testBit i || l.any fun v => v.order.toNat == i) from by
    have := this l 0
    simpa [setN] using this
  intro l
  induction l with
  | nil => intro s; simp
  | cons v r ih =>
    intro s
    rw [List.foldl_cons, ih, Nat.testBit_or, Nat.testBit_two_pow, List.any_cons, Bool.or_assoc]
    rfl
theorem or_self_bit {s i : Nat} (h : s.testBit i = true) : s ||| 2 ^ i = s := by
  apply Nat.eq_of_testBit_eq
  intro j
  rw [Nat.testBit_or, Nat.testBit_two_pow]
  by_cases e : i = j
  · subst e; simp [h]
  · simp [e]
def okV (v : Visit) : Bool := !(decide (v.order < 0) || decide (v.order > 62))
def ordersV (l : List Visit) : Int × Int := if l.all okV then (((setN l : Nat) : Int), 0) else (0, 2)
theorem sOrders_c (r : Route) (hr : r.visits.length ≤ 1048576) : PC Tryz.prog 17 [.agg (encRoute r)] (.tup [int (ordersV r.visits).1, int (ordersV r.visits).2]) := by
  refine PC.body (c := Tryz.f17.body.getD .skip) (fun _ => false) mixed Tryz.func17 rfl (by kernel_rfl) ?_
  unfold Tryz.f17
  simp only [Option.getD_some]
  simp only [go_sem]
  refine ⟨fun ρ _ => ∃ k : Nat, k ≤ r.visits.length ∧ ρ 8 = .sl (r.visits.map encVisit) ∧ ρ 9 = int r.visits.length ∧ ρ 10 = int k ∧ ρ 4 = int (setN (r.visits.take k) : Nat) ∧ ∀ v ∈ r.visits.take k, okV v = true, fun ρ _ => r.visits.length - natOf (ρ 10), ⟨0, Nat.zero_le _, rfl, rfl, rfl, rfl, by simp⟩, ?_⟩
  rintro ρ H ⟨k, hk, h8, h9, h10, h4, hz⟩
  simp only [go_sem, h8, h9, h10, h4]
  refine acond_i (fun hlt => ?_) (fun hge => ?_)
  · have hlt := le_of_lt_b hlt
    obtain ⟨v, hv⟩ := getIn hlt
    have b1 := inB hlt
    simp only [go_sem, h8, h9, h10, h4, getD_map hv, b1]
    refine anew_i fun j hj => ?_
    simp only [go_sem, h8, h9, h10, h4, getD_map hv, b1]
    refine wputE_n (updH_same _ _ _) (by simp [encVisit_len]) ?_
    simp only [go_sem, h8, h9, h10, h4, getD_map hv, b1]
    refine acond_i (fun hb => ?_) (fun hb => ?_)
    · simp only [go_sem]
      have : ordersV r.visits = (0, 2) := by unfold ordersV; rw [all_hit hv (by unfold okV; rw [hb]; rfl)]; rfl
      rw [this]; exact .refl _
    · have hok : okV v = true := by unfold okV; rw [hb]; rfl
      have hr2 : 0 ≤ v.order ∧ v.order ≤ 62 := by simp [okV] at hok; omega
      have hlt63 : setN (r.visits.take k) < 2 ^ 63 := setN_lt _ fun v hv => by have := hz v hv; simp [okV] at this; omega
      have e1 := shl_in (i := v.order.toNat) (by omega)
      rw [Int.toNat_of_nonneg hr2.1] at e1
      have e2 := or_nat (a := setN (r.visits.take k)) (b := 2 ^ v.order.toNat) hlt63 (Nat.pow_lt_pow_right (by decide) (by omega))
      simp only [go_sem, h8, h9, h10, h4, getD_map hv, b1, e1, e2, wrapS (show k ≤ 4611686018427387904 by omega)]
      refine ⟨hr2.1, ⟨k + 1, hlt, rfl, ?_, take_allP (p := fun v => okV v = true) hv hok hz⟩, by simp only [natOf_int]; omega⟩
      rw [take_succ hv, setN_app]
  · have hge := eq_of_ge_b hk hge
    subst hge
    simp only [go_sem, h4]
    have : ordersV r.visits = (((setN r.visits : Nat) : Int), 0) := by unfold ordersV; rw [all_none hz]; rfl
    rw [this, List.take_length]
    exact .refl _
theorem or_new63 {s i : Nat} (hs : s < 2 ^ 63) (hi : i < 63) (h : s.testBit i = false) : s ||| 2 ^ i = s + 2 ^ i := by
  have hp : 2 ^ i < 2 ^ 63 := Nat.pow_lt_pow_right (by decide) hi
  have h0 : BitVec.ofNat 64 s &&& BitVec.ofNat 64 (2 ^ i) = 0#64 := by
    apply BitVec.eq_of_toNat_eq
    rw [BitVec.toNat_and, BitVec.toNat_ofNat, BitVec.toNat_ofNat, Nat.mod_eq_of_lt (by omega), Nat.mod_eq_of_lt (by omega)]
    apply Nat.eq_of_testBit_eq
    intro j
    rw [Nat.testBit_and, Nat.testBit_two_pow]
    by_cases e : i = j
    · subst e; simp [h]
    · simp [e]
  have h1 := congrArg BitVec.toNat (BitVec.add_eq_or_of_and_eq_zero (BitVec.ofNat 64 s) (BitVec.ofNat 64 (2 ^ i)) h0)
  rw [BitVec.toNat_add, BitVec.toNat_or, BitVec.toNat_ofNat, BitVec.toNat_ofNat, Nat.mod_eq_of_lt (by omega : s < 2 ^ 64), Nat.mod_eq_of_lt (by omega : 2 ^ i < 2 ^ 64), Nat.mod_eq_of_lt (by omega)] at h1
  exact h1.symm
theorem uwrap_in' {n : Int} (h : 0 ≤ n ∧ n < 18446744073709551616) : IntKind.u64.wrap n = n := Mv.uwrap_in h
theorem hasR_nat {s : Nat} {i : Int} (h0 : 0 ≤ i) (h1 : i ≤ 62) : hasR (s : Int) i = s.testBit i.toNat := by
  rw [Nat.testBit_eq_decide_div_mod_eq]
  unfold hasR
  have h3 : ((2 : Int) ^ i.toNat) = ((2 ^ i.toNat : Nat) : Int) := by norm_cast
  have : ((s : Int) / 2 ^ i.toNat) = ((s / 2 ^ i.toNat : Nat) : Int) := by rw [h3]; rfl
  rw [this]
  generalize s / 2 ^ i.toNat = m
  rw [Bool.eq_iff_iff]
  simp only [beq_iff_eq, decide_eq_true_eq, Bool.and_eq_true]
  omega
theorem has16_nat {s : Nat} {i : Int} (h0 : 0 ≤ i) (h1 : i ≤ 62) : has16 (s : Int) i = s.testBit i.toNat := by
  rw [← hasR_nat h0 h1]
  unfold has16 hasR
  rw [uwrap_in' (by omega)]
  obtain ⟨n, rfl⟩ := Int.eq_ofNat_of_zero_le h0
  rw [shr_in (by omega)]
  have h3 : ((2 : Int) ^ n) = ((2 ^ n : Nat) : Int) := by norm_cast
  have e : ((n : Int)).toNat = n := Int.toNat_natCast n
  rw [e]
  have : ((s : Int) / 2 ^ n) = ((s / 2 ^ n : Nat) : Int) := by rw [h3]; rfl
  rw [this]
  generalize s / 2 ^ n = m
  rw [Int.tmod_eq_emod_of_nonneg (by omega)]
  rw [Bool.eq_iff_iff]
  simp only [beq_iff_eq, decide_eq_true_eq, Bool.and_eq_true]
  omega
theorem ordS_nat {s : Nat} {n : Int} (hs : s < 2 ^ 63) (h0 : 0 ≤ n) (h1 : n ≤ 62) : ordS (s : Int) n = ((s ||| 2 ^ n.toNat : Nat) : Int) := by
  unfold ordS
  rw [has16_nat h0 h1]
  cases hb : s.testBit n.toNat with
  | true => rw [if_pos rfl, or_self_bit hb]
  | false =>
    rw [if_neg (by simp), uwrap_in' (by omega)]
    obtain ⟨k, rfl⟩ := Int.eq_ofNat_of_zero_le h0
    have e : ((k : Int)).toNat = k := Int.toNat_natCast k
    rw [e] at hb ⊢
    have hp : 2 ^ k < 2 ^ 63 := Nat.pow_lt_pow_right (by decide) (by omega)
    have hsum := or_new63 hs (by omega) hb
    have hor := Nat.or_lt_two_pow hs hp
    rw [hsum] at hor ⊢
    rw [shl_in (by omega), wrap_in (by omega)]
    omega
theorem foldO_set {l : List Visit} (h : ∀ v ∈ l, badO v = false) : foldO l = (setN l : Nat) := by
  suffices ∀ (l : List Visit) (s : Nat), s < 2 ^ 63 → (∀ v ∈ l, badO v = false) → l.foldl (fun s v => ordS s v.order) (s : Int) = ((l.foldl (fun s v => s ||| 2 ^ v.order.toNat) s : Nat) : Int) from this l 0 (by decide) h
  intro l
  induction l with
  | nil => intro s _ _; rfl
  | cons v r ih =>
    intro s hs h
    have hv := h v (by simp)
    unfold badO at hv
    simp only [Bool.or_eq_false_iff, decide_eq_false_iff_not] at hv
    rw [List.foldl_cons, List.foldl_cons, ordS_nat hs (by omega) (by omega)]
    exact ih _ (Nat.or_lt_two_pow hs (Nat.pow_lt_pow_right (by decide) (by omega))) fun u hu => h u (by simp [hu])
theorem okV_bad (v : Visit) : okV v = !badO v := rfl
theorem ordersV_16 (l : List Visit) : ordersV l = orders16 l := by
  unfold ordersV orders16
  by_cases h : l.any badO = true
  · rw [if_pos h, if_neg]
    rw [List.all_eq_true]
    intro ha
    obtain ⟨v, hv, hb⟩ := List.any_eq_true.1 h
    have := ha v hv
    rw [okV_bad, hb] at this; cases this
  · have hn : ∀ v ∈ l, badO v = false := fun v hv => by
      cases hb : badO v with
      | false => rfl
      | true => exact absurd (List.any_eq_true.2 ⟨v, hv, hb⟩) h
    rw [if_neg h, if_pos (List.all_eq_true.2 fun v hv => by rw [okV_bad, hn v hv]; rfl), foldO_set hn]
theorem orders_c (r : Route) (hr : r.visits.length ≤ 1048576) : PC Tryz.prog 17 [.agg (encRoute r)] (.tup [int (orders16 r.visits).1, int (orders16 r.visits).2]) := ordersV_16 r.visits ▸ sOrders_c r hr
/-- a number is in the set of a route's orders exactly if the route visits it -/
theorem has_orders {l : List Visit} (h : ∀ v ∈ l, badO v = false) {i : Int} (h0 : 0 ≤ i) (h1 : i ≤ 62) : hasR (orders16 l).1 i = hasO l i := by
  have e : (orders16 l).1 = (setN l : Nat) := by
    unfold orders16
    rw [if_neg (by rw [any_no h]; simp)]
    exact foldO_set h
  rw [e, hasR_nat h0 h1, setN_bit]
  unfold hasO
  refine Mv.any_congr fun v hv => ?_
  have hb := h v hv
  unfold badO at hb
  simp only [Bool.or_eq_false_iff, decide_eq_false_iff_not] at hb
  rw [Bool.eq_iff_iff]
  simp only [beq_iff_eq]
  omega
theorem has16_orders {l : List Visit} (h : ∀ v ∈ l, badO v = false) {i : Int} (h0 : 0 ≤ i) (h1 : i ≤ 62) : has16 (orders16 l).1 i = hasO l i := by
  rw [← has_orders h h0 h1]
  have e : (orders16 l).1 = (setN l : Nat) := by
    unfold orders16
    rw [if_neg (by rw [any_no h]; simp)]
    exact foldO_set h
  rw [e, has16_nat h0 h1, hasR_nat h0 h1]
end Go.Proofs.YtbefdpmjpioijaaGreatDoor.Sq
