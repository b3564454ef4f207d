/- Texts joined by a program: SbD, SoA. -/
import Derived.Lib.ItoaMem
import Derived.Test.YtbcfajfngdmgnaaGreatDoorZg30

section
set_option linter.unusedSimpArgs false
set_option linter.unusedVariables false
namespace Go.Proofs.YtbcfajfngdmgnaaGreatDoor.Nu
open Go.Aw Go.Aw.D Go.Proofs Ty Go.Nu Go.Sb
set_option maxRecDepth 100000
theorem popK_pop : ∀ k n : Nat, popK k n = pop k n
  | 0, _ => rfl
  | k + 1, n => by rw [popK, pop, popK_pop k]
theorem pop64 {s : Nat} (hs : s < 2 ^ 63) : pop 64 s = popK 63 s := by rw [popK_pop, pop_more hs]
theorem memS_pop {s : Nat} (hs : s < 2 ^ 63) : (memS (s : Int)).length = pop 64 s := by rw [pop64 hs]; exact memU_pop s 63 (Nat.le_refl _)
def memR : Nat → Nat → Nat → List Nat
  | 0, _, _ => []
  | w + 1, s, o => if s % 2 = 1 then o :: memR w (s / 2) (o + 1) else memR w (s / 2) (o + 1)
theorem memR_eq : ∀ (w s o : Nat), memR w s o = ((List.range w).filter fun i => s.testBit i).map (· + o)
  | 0, _, _ => rfl
  | w + 1, s, o => by
    have ih := memR_eq w (s / 2) (o + 1)
    have h1 : (List.filter (fun i => s.testBit i) ((List.range w).map Nat.succ)).map (· + o) = memR w (s / 2) (o + 1) := by
      rw [ih, List.filter_map, List.map_map]
      have : (fun i => s.testBit i) ∘ Nat.succ = fun i => (s / 2).testBit i := by funext i; exact Nat.testBit_succ s i
      rw [this]
      refine List.map_congr_left fun i _ => ?_
      show i + 1 + o = i + (o + 1)
      omega
    rw [memR, List.range_succ_eq_map, List.filter_cons, ← h1]
    have h0 : s.testBit 0 = decide (s % 2 = 1) := Nat.testBit_zero s
    rw [h0]
    by_cases h : s % 2 = 1
    · rw [if_pos h, if_pos (by simpa using h), List.map_cons, Nat.zero_add]
    · rw [if_neg h, if_neg (by simpa using h)]
theorem memS_memR {s : Nat} : memS (s : Int) = (memR 63 s 0).map fun i : Nat => (i : Int) := by
  unfold memS memU
  rw [memR_eq, List.map_map]
  have : List.filter (fun i : Nat => hasR (s : Int) (i : Int)) (List.range 63) = List.filter (fun i => s.testBit i) (List.range 63) := List.filter_congr fun i hi => hasR_nat (by have := List.mem_range.1 hi; omega)
  rw [this]
  refine List.map_congr_left fun i _ => ?_
  show (i : Int) = ((i + 0 : Nat) : Int)
  rw [Nat.add_zero]
def spr : List Nat → Nat → Nat
  | [], _ => 0
  | x :: r, p => (if p % 2 = 1 then 2 ^ x else 0) + spr r (p / 2)
theorem spr_snoc : ∀ (l : List Nat) (x p : Nat), spr (l ++ [x]) p = spr l p + (if (p / 2 ^ l.length) % 2 = 1 then 2 ^ x else 0)
  | [], x, p => by simp [spr]
  | y :: l, x, p => by
    rw [List.cons_append, spr, spr_snoc l x (p / 2), spr, Nat.div_div_eq_div_mul, List.length_cons, show 2 * 2 ^ l.length = 2 ^ (l.length + 1) by rw [Nat.pow_succ, Nat.mul_comm], Nat.add_assoc]
theorem spr_dep : ∀ (w s o p : Nat), spr (memR w s o) p = 2 ^ o * dep w s p
  | 0, s, o, p => by simp [memR, spr, dep]
  | w + 1, s, o, p => by
    rw [memR, dep]
    split
    · rw [spr, spr_dep w (s / 2) (o + 1) (p / 2), Nat.pow_succ]
      rcases (by omega : p % 2 = 0 ∨ p % 2 = 1) with e | e <;> rw [e]
      · simp [Nat.mul_assoc]
      · simp [Nat.mul_add, Nat.mul_assoc, Nat.add_comm]
    · rw [spr_dep w (s / 2) (o + 1) p, Nat.pow_succ, Nat.mul_assoc]
theorem dep_more {w s p : Nat} (hs : s < 2 ^ w) (hp : p < 2 ^ pop w s) : ∀ w', w ≤ w' → dep w' s p = dep w s p := by
  induction w generalizing s p with
  | zero =>
    intro w' _
    have : s = 0 := by simp at hs; omega
    subst this
    have h1 := dep_le w' 0 p
    have h2 := dep_le 0 0 p
    omega
  | succ w ih =>
    intro w' hw
    obtain ⟨v, rfl⟩ : ∃ v, w' = v + 1 := ⟨w' - 1, by omega⟩
    rw [Nat.pow_succ] at hs
    unfold dep
    split
    · next h => rw [ih (by omega) (pop_pos hp h w rfl) v (by omega)]
    · next h => rw [ih (by omega) (pop_even hp h) v (by omega)]
theorem spr_mem {s p : Nat} (hs : s < 2 ^ 63) (hp : p < 2 ^ pop 64 s) : spr (memR 63 s 0) p = dep 64 s p := by
  rw [spr_dep, Nat.pow_zero, Nat.one_mul]
  refine (dep_more hs ?_ 64 (by omega)).symm
  rw [pop_more hs] at hp
  exact hp
theorem memR_up : ∀ (w s o : Nat), (memR w s o).Pairwise (· < ·) ∧ ∀ x ∈ memR w s o, o ≤ x ∧ x < o + w
  | 0, _, _ => by simp [memR]
  | w + 1, s, o => by
    have ih := memR_up w (s / 2) (o + 1)
    rw [memR]
    split
    · refine ⟨List.pairwise_cons.2 ⟨fun x hx => by have := ih.2 x hx; omega, ih.1⟩, fun x hx => ?_⟩
      rcases List.mem_cons.1 hx with rfl | hx
      · omega
      · have := ih.2 x hx; omega
    · exact ⟨ih.1, fun x hx => by have := ih.2 x hx; omega⟩
theorem spr_lt : ∀ (l : List Nat) (x p : Nat), (l ++ [x]).Pairwise (· < ·) → spr l p < 2 ^ x
  | [], x, p, _ => Nat.two_pow_pos x
  | y :: l, x, p, h => by
    rw [List.cons_append] at h
    have h' := List.pairwise_cons.1 h
    have hyx : y < x := h'.1 x (by simp)
    -- all further members are multiples of 2 ^ (y + 1)
    have : ∀ (l : List Nat) (p x y : Nat), (l ++ [x]).Pairwise (· < ·) → (∀ z ∈ l, y < z) → y < x → spr l p + 2 ^ (y + 1) ≤ 2 ^ x := by
      intro l
      induction l with
      | nil => intro p x y _ _ hyx; simp only [spr, Nat.zero_add]; exact Nat.pow_le_pow_right (by decide) hyx
      | cons z l ih =>
        intro p x y h hz hyx
        rw [List.cons_append] at h
        have h2 := List.pairwise_cons.1 h
        have i1 := ih (p / 2) x z h2.2 (fun u hu => h2.1 u (by simp [hu])) (h2.1 x (by simp))
        have i2 : 2 ^ (y + 1) ≤ 2 ^ z := Nat.pow_le_pow_right (by decide) (hz z (by simp))
        rw [Nat.pow_succ] at i1
        rw [spr]
        split <;> omega
    have h3 := this l (p / 2) x y h'.2 (fun z hz => h'.1 z (by simp [hz])) hyx
    have h4 := Nat.two_pow_pos y
    rw [Nat.pow_succ] at h3
    rw [spr]
    split <;> omega
theorem spread_c (l : List Nat) (p : Nat) (hl : l.length ≤ 62) (hu : l.Pairwise (· < ·)) (hm : ∀ x ∈ l, x ≤ 61) (hp : p < 2 ^ 62) : PC Tryz.prog 210 [.sl (l.map fun i : Nat => encInt (i : Int)), int p] (int (spr l p : Nat)) := by
  refine PC.body (c := Tryz.f210.body.getD .skip) (fun _ => false) mixed Tryz.func210 rfl (by kernel_rfl) ?_
  unfold Tryz.f210
  simp only [Option.getD_some]
  simp only [go_sem]
  refine ⟨fun ρ H => ∃ (k : Nat), k ≤ l.length ∧ ρ 1 = int p ∧ ρ 8 = .sl (l.map fun i : Nat => encInt (i : Int)) ∧ ρ 9 = int (l.length : Nat) ∧ ρ 10 = int k ∧ ρ 5 = int (spr (l.take k) p : Nat), fun ρ _ => l.length - natOf (ρ 10), ⟨0, Nat.zero_le _, by simp only [go_sem], by simp only [go_sem], by simp only [go_sem, List.length_map], (by simp only [go_sem]; rfl), by simp only [go_sem]; rfl⟩, ?_⟩
  rintro ρ H ⟨k, hk, e1, e8, e9, e10, e5⟩
  simp only [go_sem, e1, e8, e9, e10, e5]
  refine acond_i (fun hlt => ?_) (fun hge => ?_)
  · have hlt := ltB hlt
    obtain ⟨x, hx⟩ := getIn hlt
    have b1 := inB hlt
    have hx61 := hm x (List.mem_of_getElem? hx)
    have hpw : (l.take k ++ [x]).Pairwise (· < ·) := by rw [← take_succ hx]; exact hu.sublist (List.take_sublist _ _)
    have hsl := spr_lt (l.take k) x p hpw
    have hpx : 2 ^ x ≤ 2 ^ 61 := Nat.pow_le_pow_right (by decide) hx61
    have hsn := spr_snoc (l.take k) x p
    rw [← take_succ hx, show (l.take k).length = k by rw [List.length_take]; omega] at hsn
    have q1 := shr_in (x := (p : Int)) (i := k) (by omega)
    have h3 : ((2 : Int) ^ k) = ((2 ^ k : Nat) : Int) := by norm_cast
    rw [h3] at q1
    have q2 : bitV .and .i64 ((p : Int) / ((2 ^ k : Nat) : Int)) 1 = ((p / 2 ^ k % 2 : Nat) : Int) := and1 _
    simp only [go_sem, e1, e8, e9, e10, e5, getD_map (f := fun i : Nat => encInt (i : Int)) hx, b1, q1, q2]
    refine acond_i (fun hb => ?_) (fun hb => ?_)
    · have hb : p / 2 ^ k % 2 = 1 := by have := eq_of_beq hb; omega
      have q3 := shl_in (i := x) (by omega)
      have q4 := or_nat (a := spr (l.take k) p) (b := 2 ^ x) (by omega) (by omega)
      rw [or_low hsl] at q4
      rw [if_pos hb] at hsn
      simp only [go_sem, e1, e8, e9, e10, e5, q3, q4, wrapS (show k ≤ 4611686018427387904 by omega)]
      exact ⟨by omega, ⟨k + 1, hlt, rfl, by rw [hsn]⟩, by simp only [natOf_int]; omega⟩
    · have hb : ¬ p / 2 ^ k % 2 = 1 := fun h => by rw [h] at hb; cases hb
      rw [if_neg hb, Nat.add_zero] at hsn
      simp only [go_sem, e1, e8, e9, e10, e5, wrapS (show k ≤ 4611686018427387904 by omega)]
      exact ⟨⟨k + 1, hlt, rfl, by rw [hsn]; rfl⟩, by simp only [natOf_int]; omega⟩
  · have hge := geB hk hge
    subst hge
    rw [List.take_length] at e5
    simp only [go_sem, e1, e8, e9, e10, e5]
    exact .refl _
def g3 : List Nat := (List.range 1024).filter fun p => pop 10 p == 3
def gosB (k : Nat) : Bool :=
  let p : Int := ((g3.getD k 0 : Nat) : Int)
  let lo := bitV .and .i64 p (IntKind.i64.wrap (0 - p))
  let up := IntKind.i64.wrap (p + lo)
  let q := IntKind.i64.wrap ((bitV .xor .i64 p up).tdiv lo)
  (bitV .or .i64 up (shV .shr .i64 q 2) == ((g3.getD (k + 1) 0 : Nat) : Int)) && !(lo == 0)
def cnt3 (n : Nat) : Nat := (g3.filter fun p => decide (p < 2 ^ n)).length
def endB (n k : Nat) : Bool :=
  let p : Int := ((g3.getD k 0 : Nat) : Int)
  let lo := bitV .and .i64 p (IntKind.i64.wrap (0 - p))
  decide (p < ((2 ^ n : Nat) : Int)) && ((lo == 0 || p == IntKind.i64.wrap (((2 ^ n : Nat) : Int) - lo)) == decide (k + 1 = cnt3 n))
theorem g3_len : g3.length = 120 := by decide +kernel
theorem gos_all : ((List.range 119).all gosB) = true := by decide +kernel
theorem end_all : ((List.range 11).all fun n => (List.range (cnt3 n)).all (endB n)) = true := by decide +kernel
theorem cnt_all : ((List.range 11).all fun n => decide (cnt3 n ≤ 120) && (decide (n < 3) || decide (0 < cnt3 n)) && (decide (3 ≤ n) || decide (cnt3 n = 0)) && (g3.take (cnt3 n) == (List.range (2 ^ n)).filter fun p => pop 10 p == 3)) = true := by decide +kernel
theorem memR_len {s : Nat} (hs : s < 2 ^ 63) : (memR 63 s 0).length = pop 64 s := by rw [← memS_pop hs, memS_memR, List.length_map]
def threeL (s : Nat) : List Nat := ((List.range (2 ^ pop 64 s)).filter fun p => pop 10 p == 3).map (dep 64 s)
theorem sized_c (s : Nat) (hs : s < 2 ^ 10) : PC Tryz.prog 143 [int s, int 3] (.tup [.sl ((threeL s).map fun x : Nat => encInt (x : Int)), int 0]) := by
  have hs63 : s < 2 ^ 63 := by omega
  have hl := memR_len hs63
  obtain ⟨hup, hin⟩ := memR_up 63 s 0
  have hn10 : pop 64 s ≤ 10 := by
    have h1 := pop_le 10 s
    have : ∀ k, 10 ≤ k → pop k s = pop 10 s := by
      intro k hk
      induction k with
      | zero => omega
      | succ k ih =>
        rcases (by omega : 10 ≤ k ∨ k = 9) with h | h
        · rw [pop_more (Nat.lt_of_lt_of_le hs (Nat.pow_le_pow_right (by decide) h)), ih h]
        · rw [h]
    rw [this 64 (by omega)]; exact h1
  have hmem : ∀ x ∈ memR 63 s 0, x ≤ 61 := by
    intro x hx
    have h1 : (x : Int) ∈ memS (s : Int) := by rw [memS_memR]; exact List.mem_map_of_mem hx
    have := memS_in (n := 10) hs (by omega) _ h1
    omega
  have hcnt := List.all_eq_true.1 cnt_all (pop 64 s) (List.mem_range.2 (by omega))
  simp only [Bool.and_eq_true, Bool.or_eq_true, decide_eq_true_eq, beq_iff_eq] at hcnt
  obtain ⟨⟨⟨c1, c2⟩, c3⟩, c4⟩ := hcnt
  have hthree : threeL s = (g3.take (cnt3 (pop 64 s))).map (spr (memR 63 s 0)) := by
    unfold threeL
    rw [c4]
    refine List.map_congr_left fun p hp => (spr_mem hs63 ?_).symm
    exact List.mem_range.1 (List.mem_filter.1 hp).1
  have hms : (memS (s : Int)).map encInt = (memR 63 s 0).map fun i : Nat => encInt (i : Int) := by rw [memS_memR, List.map_map]; rfl
  rw [hthree]
  have hmc := members_c (s : Int)
  rw [hms] at hmc
  generalize memR 63 s 0 = l at *
  generalize pop 64 s = n at *
  refine PC.body (c := Tryz.f143.body.getD .skip) (fun t => t == 7) mixed Tryz.func143 rfl (by kernel_rfl) ?_
  unfold Tryz.f143
  simp only [Option.getD_some]
  simp only [go_sem]
  refine PC.use hmc ?_
  simp only [go_sem, List.length_map, hl]
  refine acond_i (fun hb => ?_) (fun hb => ?_)
  · have hb : n < 3 := by simp at hb; omega
    rw [c3.resolve_left (by omega)]
    simp only [go_sem]
    exact .refl _
  have hn3 : 3 ≤ n := by simp at hb; omega
  have hpos := c2.resolve_left (by omega)
  have q1 := shl_in (i := n) (by omega)
  have q2 : shV .shl .i64 1 3 = 8 := rfl
  have q3 : IntKind.i64.wrap (8 - 1) = 7 := rfl
  simp only [go_sem]
  refine anew_i fun j hj => ?_
  simp only [go_sem, List.length_map, hl, q1, q2, q3]
  refine ⟨by omega, by decide, ?_⟩
  have hlast := end_all
  have g7 : g3.getD 0 0 = 7 := by decide +kernel
  have hl62 : decide (((n : Nat) : Int) > 62) = false := by simp; omega
  refine ⟨fun ρ H => ∃ (k j : Nat), k < cnt3 n ∧ ρ 6 = .sl (l.map fun i : Nat => encInt (i : Int)) ∧ ρ 8 = int (2 ^ n : Nat) ∧ ρ 7 = .os j ∧ ρ 9 = int (g3.getD k 0 : Nat) ∧ H j = some (⟨3, 1, ((g3.take k).map (spr l)).map fun x : Nat => encInt (x : Int)⟩ : Row), fun ρ _ => 1024 - natOf (ρ 9),
    ⟨0, j, hpos, by simp only [go_sem], by simp only [go_sem], by simp only [go_sem], by simp only [go_sem, g7]; rfl, updH_same _ _ _⟩, ?_⟩
  clear hj j
  rintro ρ H ⟨k, j, hk, e6, e8, e7, e9, R⟩
  have hend := List.all_eq_true.1 (List.all_eq_true.1 end_all n (List.mem_range.2 (by omega))) k (List.mem_range.2 hk)
  obtain ⟨p, hp⟩ := getIn (l := g3) (k := k) (by rw [g3_len]; omega)
  have hpd : g3.getD k 0 = p := by rw [List.getD, hp]; rfl
  have hp1024 : p < 1024 := List.mem_range.1 (List.mem_filter.1 (List.mem_of_getElem? hp)).1
  rw [hpd] at e9
  unfold endB at hend
  rw [hpd] at hend
  simp only [Bool.and_eq_true, decide_eq_true_eq, beq_iff_eq] at hend
  obtain ⟨hlt, hfin⟩ := hend
  have hltb : decide ((p : Int) < ((2 ^ n : Nat) : Int)) = true := by simpa using hlt
  have hkl : ((g3.take k).map (spr l)).length = k := by rw [List.length_map, List.length_take, g3_len]; omega
  have h8192 : ((k : Int) == 8192) = false := by rw [beq_eq_false_iff_ne]; omega
  obtain ⟨lo, hlo⟩ : ∃ lo, bitV .and .i64 (p : Int) (IntKind.i64.wrap (0 - (p : Int))) = lo := ⟨_, rfl⟩
  rw [hlo] at hfin
  simp only [go_sem, e6, e8, e7, e9, List.length_map, hl, hl62, hltb]
  refine acond_i (fun _ => ?_) (fun hb => by cases hb)
  simp only [go_sem, e6, e8, e7, e9, R, List.length_map, List.length_take, g3_len, show min k 120 = k by omega, h8192]
  refine acond_i (fun hb => by cases hb) (fun _ => ?_)
  simp only [go_sem, e6, e8, e7, e9]
  refine PC.use (spread_c l p (by omega) hup hmem (by omega)) ?_
  simp only [go_sem, e6, e8, e7, e9]
  refine wappE_i R ⟨rfl, rfl⟩ ⟨rfl, trivial⟩ (by simp; omega) (fun j' hj' => ?_)
  simp only [go_sem, e6, e8, e7, e9, hlo]
  have R' : updH (updH H j none) j' (some (⟨3, 1, (((g3.take k).map (spr l)).map fun x : Nat => encInt (x : Int)) ++ [[int (spr l p : Nat)]]⟩ : Row)) j' = some (⟨3, 1, ((g3.take (k + 1)).map (spr l)).map fun x : Nat => encInt (x : Int)⟩ : Row) := by
    rw [updH_same, take_succ hp]
    simp only [List.map_append, List.map_cons, List.map_nil]
    rfl
  refine acond_i (fun hb => ?_) (fun hb => ?_)
  · have hk1 : k + 1 = cnt3 n := by
      rw [hb] at hfin
      exact of_decide_eq_true hfin.symm
    simp only [go_sem, e6, e8, e7, e9]
    rw [← hk1]
    exact .tup _ _ (.cons _ _ _ _ (.row _ _ _ R' (ConvE.refl _)) (.cons _ _ _ _ (.refl _) .nil))
  · have hk1 : k + 1 < cnt3 n := by
      rw [hb] at hfin
      have := of_decide_eq_false hfin.symm
      omega
    have hg := List.all_eq_true.1 gos_all k (List.mem_range.2 (by omega))
    unfold gosB at hg
    rw [hpd] at hg
    simp only [hlo, Bool.and_eq_true, beq_iff_eq, Bool.not_eq_true'] at hg
    have hlo0 : lo ≠ 0 := by have := hg.2; simpa using this
    simp only [go_sem, e6, e8, e7, e9]
    refine ⟨hlo0, by decide, ?_⟩
    simp only [go_sem, e6, e8, e7, e9, hg.1]
    obtain ⟨p', hp'⟩ := getIn (l := g3) (k := k + 1) (by rw [g3_len]; omega)
    have hpd' : g3.getD (k + 1) 0 = p' := by rw [List.getD, hp']; rfl
    have hup2 : p < p' := by
      have hs2 : g3.Pairwise (· < ·) := List.Pairwise.filter _ List.pairwise_lt_range
      obtain ⟨h1, h1'⟩ := List.getElem?_eq_some_iff.1 hp
      obtain ⟨h2, h2'⟩ := List.getElem?_eq_some_iff.1 hp'
      have := List.pairwise_iff_getElem.1 hs2 k (k + 1) h1 h2 (by omega)
      rw [h1', h2'] at this; exact this
    exact ⟨⟨k + 1, j', hk1, rfl, rfl, R'⟩, by simp only [natOf_int, hpd']; omega⟩
end Go.Proofs.YtbcfajfngdmgnaaGreatDoor.Nu
end

section
set_option linter.unusedSimpArgs false
set_option linter.unusedVariables false
namespace Go.So
variable {α : Type}
structure SWO (lt : α → α → Bool) : Prop where
  asym : ∀ a b, lt a b = true → lt b a = false
  neg : ∀ a b c, lt a b = false → lt b c = false → lt a c = false
def tlt (lt : α → α → Bool) (p q : α × Nat) : Prop := lt p.1 q.1 = true ∨ (lt q.1 p.1 = false ∧ p.2 < q.2)
section
variable {lt : α → α → Bool} (h : SWO lt)
include h
theorem lt_of {a b c : α} (h1 : lt a b = true) (h2 : lt c b = false) : lt a c = true := by
  cases hc : lt a c with
  | true => rfl
  | false => have := h.neg _ _ _ hc h2; rw [h1] at this; cases this
theorem lt_of2 {a b c : α} (h1 : lt a b = true) (h2 : lt a c = false) : lt c b = true := by
  cases hc : lt c b with
  | true => rfl
  | false => have := h.neg _ _ _ h2 hc; rw [h1] at this; cases this
theorem tlt_nlt {p q : α × Nat} (h1 : tlt lt p q) : lt q.1 p.1 = false := h1.elim (fun e => h.asym _ _ e) (fun e => e.1)
theorem tlt_trans {p q r : α × Nat} (h1 : tlt lt p q) (h2 : tlt lt q r) : tlt lt p r := by
  rcases h1 with h1 | ⟨h1, h1'⟩
  · exact .inl (lt_of h h1 (tlt_nlt h h2))
  · rcases h2 with h2 | ⟨h2, h2'⟩
    · exact .inl (lt_of2 h h2 h1)
    · exact .inr ⟨h.neg _ _ _ h2 h1, by omega⟩
theorem tlt_asym {p q : α × Nat} (h1 : tlt lt p q) (h2 : tlt lt q p) : False := by
  rcases h1 with h1 | ⟨h1, h1'⟩
  · have := tlt_nlt h h2; rw [h1] at this; cases this
  · rcases h2 with h2 | ⟨h2, h2'⟩
    · rw [h1] at h2; cases h2
    · omega
end
theorem perm_unique {R : α → α → Prop} (ha : ∀ a b, R a b → R b a → False) : ∀ l1 l2 : List α, l1.Perm l2 → l1.Pairwise R → l2.Pairwise R → l1 = l2
  | [], l2, hp, _, _ => (List.nil_perm.1 hp).symm
  | a :: t, [], hp, _, _ => absurd hp.length_eq (by simp)
  | a :: t, b :: u, hp, h1, h2 => by
    have h1' := List.pairwise_cons.1 h1
    have h2' := List.pairwise_cons.1 h2
    by_cases e : a = b
    · subst e
      rw [perm_unique ha t u ((List.perm_cons a).1 hp) h1'.2 h2'.2]
    · have ma : a ∈ u := (List.mem_cons.1 (hp.mem_iff.1 (List.mem_cons_self ..))).resolve_left e
      have mb : b ∈ t := (List.mem_cons.1 (hp.mem_iff.2 (List.mem_cons_self ..))).resolve_left (fun x => e x.symm)
      exact (ha a b (h1'.1 b mb) (h2'.1 a ma)).elim
def ins (lt : α → α → Bool) (x : α) : List α → List α
  | [] => [x]
  | z :: r => if lt x z = true then x :: z :: r else z :: ins lt x r
def ssort (lt : α → α → Bool) (l : List α) : List α := l.foldl (fun acc x => ins lt x acc) []
theorem ins_perm (lt : α → α → Bool) (x : α) : ∀ l : List α, (ins lt x l).Perm (x :: l)
  | [] => .refl _
  | z :: r => by
    unfold ins
    split
    · exact .refl _
    · exact ((ins_perm lt x r).cons z).trans (.swap x z r)
theorem ins_map {β : Type} (lt : α → α → Bool) (f : β → α) (x : β) : ∀ l : List β, (ins (fun a b => lt (f a) (f b)) x l).map f = ins lt (f x) (l.map f)
  | [] => rfl
  | z :: r => by
    rw [List.map_cons]
    unfold ins
    split
    · rfl
    · rw [List.map_cons, ins_map lt f x r]
theorem ins_mem {lt : α → α → Bool} {x y : α} {l : List α} : y ∈ ins lt x l ↔ y = x ∨ y ∈ l := by rw [(ins_perm lt x l).mem_iff, List.mem_cons]
theorem ins_sorted {lt : α → α → Bool} (h : SWO lt) (x : α × Nat) : ∀ l : List (α × Nat), l.Pairwise (tlt lt) → (∀ y ∈ l, y.2 < x.2) → (ins (fun a b => lt a.1 b.1) x l).Pairwise (tlt lt)
  | [], _, _ => by simp [ins]
  | z :: r, hs, hr => by
    have hs' := List.pairwise_cons.1 hs
    unfold ins
    split
    · next hx =>
      refine List.pairwise_cons.2 ⟨fun y hy => ?_, hs⟩
      rcases List.mem_cons.1 hy with rfl | hy
      · exact .inl hx
      · exact tlt_trans h (.inl hx) (hs'.1 y hy)
    · next hx =>
      refine List.pairwise_cons.2 ⟨fun y hy => ?_, ins_sorted h x r hs'.2 fun y hy => hr y (List.mem_cons_of_mem _ hy)⟩
      rcases ins_mem.1 hy with rfl | hy
      · exact .inr ⟨by simpa using hx, hr z (List.mem_cons_self ..)⟩
      · exact hs'.1 y hy
theorem foldl_ins {lt : α → α → Bool} (h : SWO lt) : ∀ (l acc : List (α × Nat)) (k : Nat), acc.Pairwise (tlt lt) → (∀ y ∈ acc, y.2 < k) → (∀ i (y : α × Nat), l[i]? = some y → y.2 = k + i) →
    ((l.foldl (fun a x => ins (fun a b => lt a.1 b.1) x a) acc).Pairwise (tlt lt) ∧ (l.foldl (fun a x => ins (fun a b => lt a.1 b.1) x a) acc).Perm (acc ++ l) ∧ (l.foldl (fun a x => ins (fun a b => lt a.1 b.1) x a) acc).map Prod.fst = (l.map Prod.fst).foldl (fun a x => ins lt x a) (acc.map Prod.fst))
  | [], acc, k, hs, _, _ => ⟨hs, by simp, rfl⟩
  | x :: l, acc, k, hs, hk, hl => by
    have hx : x.2 = k := by have := hl 0 x rfl; omega
    have ih := foldl_ins h l (ins (fun a b => lt a.1 b.1) x acc) (k + 1) (ins_sorted h x acc hs fun y hy => by have := hk y hy; omega) (fun y hy => by
      rcases ins_mem.1 hy with rfl | hy
      · omega
      · have := hk y hy; omega) (fun i y hi => by have := hl (i + 1) y (by simpa using hi); omega)
    rw [List.foldl_cons]
    refine ⟨ih.1, ih.2.1.trans ?_, ?_⟩
    · refine ((ins_perm _ x acc).append_right l).trans ?_
      exact List.perm_middle.symm
    · rw [ih.2.2, ins_map lt Prod.fst x acc, List.map_cons, List.foldl_cons]
def tag (l : List α) : List (α × Nat) := l.zipIdx
theorem tag_fst (l : List α) : (tag l).map Prod.fst = l := by unfold tag; exact List.zipIdx_map_fst 0 l
theorem tag_get {l : List α} {i : Nat} {y : α × Nat} (h : (tag l)[i]? = some y) : y.2 = i := by
  unfold tag at h
  rw [List.getElem?_zipIdx] at h
  cases hx : l[i]? with
  | none => rw [hx] at h; cases h
  | some a => rw [hx] at h; simp at h; rw [← h]
theorem tag_len (l : List α) : (tag l).length = l.length := by unfold tag; exact List.length_zipIdx
theorem sorted_is {lt : α → α → Bool} (h : SWO lt) {l : List α} {L : List (α × Nat)} (hp : L.Perm (tag l)) (hs : L.Pairwise (tlt lt)) : L.map Prod.fst = ssort lt l := by
  have hf := foldl_ins h (tag l) [] 0 List.Pairwise.nil (by simp) (fun i y hi => by have := tag_get hi; omega)
  rw [perm_unique (fun a b => tlt_asym h) L _ (hp.trans hf.2.1.symm) hs hf.1, hf.2.2, tag_fst]
  rfl
section
variable {lt : α → α → Bool} (h : SWO lt)
include h
theorem mid_sorted {Q B : List (α × Nat)} {x : α × Nat} (hs : (Q ++ B).Pairwise (tlt lt)) (h1 : ∀ y, Q.getLast? = some y → tlt lt y x) (h2 : ∀ y, B.head? = some y → tlt lt x y) : (Q ++ x :: B).Pairwise (tlt lt) := by
  obtain ⟨hQ, hB, hQB⟩ := List.pairwise_append.1 hs
  have hxB : ∀ b ∈ B, tlt lt x b := by
    intro b hb
    cases B with
    | nil => cases hb
    | cons y r =>
      rcases List.mem_cons.1 hb with rfl | hb
      · exact h2 b rfl
      · exact tlt_trans h (h2 y rfl) ((List.pairwise_cons.1 hB).1 b hb)
  have hQx : ∀ a ∈ Q, tlt lt a x := by
    intro a ha
    rcases List.eq_nil_or_concat Q with rfl | ⟨Q', y, rfl⟩
    · cases ha
    · rw [List.concat_eq_append] at *
      have hy := h1 y (by simp)
      rcases List.mem_append.1 ha with ha | ha
      · exact tlt_trans h ((List.pairwise_append.1 hQ).2.2 a ha y (by simp)) hy
      · rw [List.mem_singleton.1 ha]; exact hy
  refine List.pairwise_append.2 ⟨hQ, List.pairwise_cons.2 ⟨hxB, hB⟩, fun a ha b hb => ?_⟩
  rcases List.mem_cons.1 hb with rfl | hb
  · exact hQx a ha
  · exact hQB a ha b hb
theorem merge_sorted {A1 A2 B1 B2 M1 M2 : List (α × Nat)} (hA : (A1 ++ A2).Pairwise (tlt lt)) (hB : (B1 ++ B2).Pairwise (tlt lt))
    (h1 : ∀ x y, A1.getLast? = some x → B2.head? = some y → tlt lt x y) (h2 : ∀ x y, B1.getLast? = some x → A2.head? = some y → tlt lt x y)
    (p1 : M1.Perm (A1 ++ B1)) (p2 : M2.Perm (A2 ++ B2)) (s1 : M1.Pairwise (tlt lt)) (s2 : M2.Pairwise (tlt lt)) :
    (M1 ++ M2).Pairwise (tlt lt) ∧ (M1 ++ M2).Perm ((A1 ++ A2) ++ (B1 ++ B2)) := by
  have cross : ∀ {X Y : List (α × Nat)}, X.Pairwise (tlt lt) → Y.Pairwise (tlt lt) → (∀ x y, X.getLast? = some x → Y.head? = some y → tlt lt x y) → ∀ x ∈ X, ∀ y ∈ Y, tlt lt x y := by
    intro X Y hX hY hc x hx y hy
    rcases List.eq_nil_or_concat X with rfl | ⟨X', z, rfl⟩
    · cases hx
    · rw [List.concat_eq_append] at *
      cases Y with
      | nil => cases hy
      | cons w r =>
        have hzw := hc z w (by simp) rfl
        have hxz : x = z ∨ tlt lt x z := by
          rcases List.mem_append.1 hx with hx | hx
          · exact .inr ((List.pairwise_append.1 hX).2.2 x hx z (by simp))
          · exact .inl (List.mem_singleton.1 hx)
        have hwy : y = w ∨ tlt lt w y := by
          rcases List.mem_cons.1 hy with hy | hy
          · exact .inl hy
          · exact .inr ((List.pairwise_cons.1 hY).1 y hy)
        have hxw : tlt lt x w := hxz.elim (fun e => e ▸ hzw) (fun e => tlt_trans h e hzw)
        exact hwy.elim (fun e => e ▸ hxw) (fun e => tlt_trans h hxw e)
  obtain ⟨a1, a2, a12⟩ := List.pairwise_append.1 hA
  obtain ⟨b1, b2, b12⟩ := List.pairwise_append.1 hB
  refine ⟨List.pairwise_append.2 ⟨s1, s2, fun x hx y hy => ?_⟩, ?_⟩
  · rcases List.mem_append.1 (p1.mem_iff.1 hx) with hx | hx <;> rcases List.mem_append.1 (p2.mem_iff.1 hy) with hy | hy
    · exact a12 x hx y hy
    · exact cross a1 b2 h1 x hx y hy
    · exact cross b1 a2 h2 x hx y hy
    · exact b12 x hx y hy
  · refine (p1.append p2).trans ?_
    rw [List.append_assoc, List.append_assoc]
    refine List.Perm.append_left _ ?_
    rw [← List.append_assoc, ← List.append_assoc]
    exact (List.perm_append_comm).append_right _
end
def swp (l : List α) (i j : Nat) : List α := match l[i]?, l[j]? with
  | some x, some y => (l.set i y).set j x
  | _, _ => l
theorem swp_len (l : List α) (i j : Nat) : (swp l i j).length = l.length := by
  unfold swp
  split <;> simp
theorem swp_at {U V W : List α} {x y : α} {i j : Nat} (hi : i = U.length) (hj : j = U.length + 1 + V.length) : swp (U ++ x :: (V ++ y :: W)) i j = U ++ y :: (V ++ x :: W) := by
  subst hi hj
  unfold swp
  have e1 : (U ++ x :: (V ++ y :: W))[U.length]? = some x := by simp
  have e2 : (U ++ x :: (V ++ y :: W))[U.length + 1 + V.length]? = some y := by
    rw [List.getElem?_append_right (by omega), show U.length + 1 + V.length - U.length = V.length + 1 by omega, List.getElem?_cons_succ, List.getElem?_append_right (by omega)]
    simp
  rw [e1, e2]
  simp only
  rw [List.set_append_right _ _ (by omega), show U.length - U.length = 0 by omega, List.set_cons_zero, List.set_append_right _ _ (by omega), show U.length + 1 + V.length - U.length = V.length + 1 by omega, List.set_cons_succ, List.set_append_right _ _ (by omega), Nat.sub_self, List.set_cons_zero]
theorem swp_next {U W : List α} {x y : α} {i j : Nat} (hi : i = U.length) (hj : j = U.length + 1) : swp (U ++ x :: y :: W) i j = U ++ y :: x :: W := swp_at (V := []) hi (by simpa using hj)
theorem swp_comm (l : List α) (i j : Nat) (h : i ≠ j) : swp l i j = swp l j i := by
  unfold swp
  cases l[i]? with
  | none => cases l[j]? <;> rfl
  | some x => cases l[j]? with
    | none => rfl
    | some y => exact List.set_comm _ _ h
def swpN (l : List α) (a b : Nat) : Nat → List α
  | 0 => l
  | n + 1 => swp (swpN l a b n) (a + n) (b + n)
theorem swpN_len (l : List α) (a b : Nat) : ∀ n, (swpN l a b n).length = l.length
  | 0 => rfl
  | n + 1 => by rw [swpN, swp_len, swpN_len l a b n]
theorem swpN_at {P X V Y S : List α} (h : X.length = Y.length) : ∀ n, n ≤ X.length → swpN (P ++ X ++ V ++ Y ++ S) P.length (P.length + X.length + V.length) n = P ++ (Y.take n ++ X.drop n) ++ V ++ (X.take n ++ Y.drop n) ++ S
  | 0, _ => by simp [swpN]
  | n + 1, hn => by
    rw [swpN, swpN_at h n (by omega)]
    have hx : n < X.length := by omega
    have hy : n < Y.length := by omega
    rw [← List.getElem_cons_drop (h := hx), ← List.getElem_cons_drop (h := hy)]
    have e := swp_at (U := P ++ Y.take n) (V := X.drop (n + 1) ++ V ++ X.take n) (W := Y.drop (n + 1) ++ S) (x := X[n]) (y := Y[n]) (i := P.length + n) (j := P.length + X.length + V.length + n) (by rw [List.length_append, List.length_take]; omega) (by
      simp only [List.length_append, List.length_take, List.length_drop]; omega)
    simp only [List.append_assoc, List.cons_append] at e ⊢
    rw [e]
    simp only [List.take_add_one, List.getElem?_eq_getElem hx, List.getElem?_eq_getElem hy, Option.toList_some, List.append_assoc, List.cons_append, List.nil_append]
theorem swpN_all {P X V Y S : List α} {a b n : Nat} (ha : a = P.length) (hb : b = P.length + X.length + V.length) (hn : n = X.length) (h : Y.length = n) : swpN (P ++ X ++ V ++ Y ++ S) a b n = P ++ Y ++ V ++ X ++ S := by
  subst ha hb hn
  rw [swpN_at h.symm _ (Nat.le_refl _), List.take_of_length_le (by omega), List.drop_length, List.append_nil, List.take_length, List.drop_of_length_le (by omega), List.append_nil]
def ranks (A B : List (α × Nat)) : Prop := ∀ x ∈ A, ∀ y ∈ B, x.2 < y.2
structure Good (lt : α → α → Bool) (R : List (List (α × Nat))) : Prop where
  srt : ∀ A ∈ R, A.Pairwise (tlt lt)
  rk : R.Pairwise ranks
def shape (n : Nat) : List (List (α × Nat)) → Prop
  | [] => True
  | [A] => 1 ≤ A.length ∧ A.length ≤ n
  | A :: B :: r => A.length = n ∧ shape n (B :: r)
theorem shape_cons {n : Nat} {A : List (α × Nat)} {r : List (List (α × Nat))} (h1 : A.length = n) (h0 : 1 ≤ n) (h : shape n r) : shape n (A :: r) := by
  cases r with
  | nil => exact ⟨by omega, by omega⟩
  | cons B r => exact ⟨h1, h⟩
theorem shape_app {n : Nat} {D r : List (List (α × Nat))} (h1 : ∀ A ∈ D, A.length = n) (h0 : 1 ≤ n) (h : shape n r) : shape n (D ++ r) := by
  induction D with
  | nil => exact h
  | cons A D ih => exact shape_cons (h1 A (by simp)) h0 (ih fun A hA => h1 A (by simp [hA]))
theorem shape_two {n : Nat} {R : List (List (α × Nat))} (h0 : 1 ≤ n) (h : shape n R) (hl : 2 * n ≤ R.flatten.length) : ∃ A B r, R = A :: B :: r ∧ A.length = n ∧ B.length = n ∧ shape n r := by
  match R, h with
  | [], _ => simp at hl; omega
  | [A], h => simp at hl; have := h.2; omega
  | [A, B], h => exact ⟨A, B, [], rfl, h.1, by have := h.1; have := h.2.2; simp at hl; omega, trivial⟩
  | A :: B :: C :: r, h => exact ⟨A, B, C :: r, rfl, h.1, h.2.1, h.2.2⟩
theorem shape_last {n : Nat} {R : List (List (α × Nat))} (h : shape n R) (hl : R.flatten.length < 2 * n) (hg : n < R.flatten.length) : ∃ A B, R = [A, B] ∧ A.length = n ∧ 1 ≤ B.length ∧ B.length ≤ n := by
  match R, h with
  | [], _ => simp at hg
  | [A], h => simp at hg; have := h.2; omega
  | [A, B], h => exact ⟨A, B, rfl, h.1, h.2.1, h.2.2⟩
  | A :: B :: C :: r, h => have := h.1; have := h.2.1; simp at hl; omega
theorem shape_one {n : Nat} {R : List (List (α × Nat))} (h0 : 1 ≤ n) (h : shape n R) (hl : R.flatten.length ≤ n) : R = [] ∨ ∃ A, R = [A] ∧ 1 ≤ A.length ∧ A.length ≤ n := by
  match R, h with
  | [], _ => exact .inl rfl
  | [A], h => exact .inr ⟨A, rfl, h⟩
  | [A, B], h => have := h.1; have := h.2.1; simp at hl; omega
  | A :: B :: C :: r, h => have := h.1; have := h.2.1; simp at hl; omega
theorem good_ranks {lt : α → α → Bool} {D r : List (List (α × Nat))} {A B : List (α × Nat)} (h : Good lt (D ++ A :: B :: r)) : ranks A B ∧ A.Pairwise (tlt lt) ∧ B.Pairwise (tlt lt) := by
  have h2 := (List.pairwise_append.1 h.rk).2.1
  exact ⟨(List.pairwise_cons.1 h2).1 B (by simp), h.srt A (by simp), h.srt B (by simp)⟩
theorem good_merge {lt : α → α → Bool} {D r : List (List (α × Nat))} {A B M : List (α × Nat)} (h : Good lt (D ++ A :: B :: r)) (hp : M.Perm (A ++ B)) (hs : M.Pairwise (tlt lt)) : Good lt (D ++ M :: r) := by
  obtain ⟨q1, q2, q3⟩ := List.pairwise_append.1 h.rk
  obtain ⟨q4, q5⟩ := List.pairwise_cons.1 q2
  obtain ⟨q6, q7⟩ := List.pairwise_cons.1 q5
  refine ⟨fun C hC => ?_, List.pairwise_append.2 ⟨q1, List.pairwise_cons.2 ⟨fun C hC x hx y hy => ?_, q7⟩, fun C hC E hE => ?_⟩⟩
  · rcases List.mem_append.1 hC with hC | hC
    · exact h.srt C (by simp [hC])
    · rcases List.mem_cons.1 hC with rfl | hC
      · exact hs
      · exact h.srt C (by simp [hC])
  · rcases List.mem_append.1 (hp.mem_iff.1 hx) with hx | hx
    · exact q4 C (by simp [hC]) x hx y hy
    · exact q6 C hC x hx y hy
  · rcases List.mem_cons.1 hE with rfl | hE
    · intro x hx y hy
      rcases List.mem_append.1 (hp.mem_iff.1 hy) with hy | hy
      · exact q3 C hC A (by simp) x hx y hy
      · exact q3 C hC B (by simp) x hx y hy
    · exact q3 C hC E (by simp [hE])
theorem good_end {lt : α → α → Bool} {n : Nat} {R : List (List (α × Nat))} (h : Good lt R) (h0 : 1 ≤ n) (hs : shape n R) (hl : R.flatten.length ≤ n) : R.flatten.Pairwise (tlt lt) := by
  rcases shape_one h0 hs hl with rfl | ⟨A, rfl, _⟩
  · exact List.Pairwise.nil
  · simpa using h.srt A (by simp)
theorem good_more {lt : α → α → Bool} {D : List (List (α × Nat))} {A : List (α × Nat)} (h : Good lt D) (hs : A.Pairwise (tlt lt)) (hr : ∀ B ∈ D, ranks B A) : Good lt (D ++ [A]) := by
  refine ⟨fun C hC => ?_, List.pairwise_append.2 ⟨h.rk, List.pairwise_singleton _ _, fun C hC E hE => ?_⟩⟩
  · rcases List.mem_append.1 hC with hC | hC
    · exact h.srt C hC
    · rw [List.mem_singleton.1 hC]; exact hs
  · rw [List.mem_singleton.1 hE]; exact hr C hC
theorem tag_ranks {l : List α} {P Q : List (α × Nat)} (h : P ++ Q = tag l) : ranks P Q := by
  intro x hx y hy
  obtain ⟨i, hi, rfl⟩ := List.getElem_of_mem hx
  obtain ⟨j, hj, rfl⟩ := List.getElem_of_mem hy
  have e1 : (tag l)[i]? = some P[i] := by rw [← h, List.getElem?_append_left hi, List.getElem?_eq_getElem hi]
  have e2 : (tag l)[P.length + j]? = some Q[j] := by rw [← h, List.getElem?_append_right (by omega), Nat.add_sub_cancel_left, List.getElem?_eq_getElem hj]
  rw [tag_get e1, tag_get e2]; omega
end Go.So
end
