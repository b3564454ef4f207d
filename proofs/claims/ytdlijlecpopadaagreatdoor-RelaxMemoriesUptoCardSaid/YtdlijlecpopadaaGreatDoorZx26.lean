/- Texts joined by a program: AuC. -/
import Derived.Test.YtdlijlecpopadaaGreatDoorZx25

set_option linter.unusedSimpArgs false
set_option linter.unusedVariables false
namespace Go.Proofs.YtdlijlecpopadaaGreatDoor.Sq
open Go.Aw Go.Aw.D Go.Proofs Ty
open Mv (convI convB convA NC.pc take_allP)
set_option maxRecDepth 100000
theorem convS {H : Heap} {a b : ByteArray} (h : a = b) : Conv H (.v (.string a)) (.v (.string b)) := h ▸ .refl _
theorem small_c (n : Nat) (hn : n < 20) : PC Tryz.prog 245 [int n] (str (decN n)) := by
  refine PC.body (c := Tryz.f245.body.getD .skip) (fun _ => false) mixed Tryz.func245 rfl (by kernel_rfl) ?_
  unfold Tryz.f245
  simp only [Option.getD_some]
  simp only [go_sem]
  refine acond_i (fun hb => ?_) (fun hb => ?_)
  · simp only [go_sem, wrapS (show n ≤ 4611686018427387904 by omega)]
    have hc : n = 0 ∨ n = 1 ∨ n = 2 ∨ n = 3 ∨ n = 4 ∨ n = 5 ∨ n = 6 ∨ n = 7 ∨ n = 8 ∨ n = 9 := by simp at hb; omega
    rcases hc with rfl | rfl | rfl | rfl | rfl | rfl | rfl | rfl | rfl | rfl <;> exact ⟨by decide, convS (by rw [decN_last (by omega)]; rfl)⟩
  · have h10 : 10 ≤ n := by simp at hb; omega
    have w1 : IntKind.i64.wrap ((n : Int) * 2) = ((n * 2 : Nat) : Int) := by rw [wrap_in (by omega)]; omega
    have w2 : IntKind.i64.wrap (((n * 2 : Nat) : Int) + 2) = ((n * 2 + 2 : Nat) : Int) := by rw [wrap_in (by omega)]; omega
    simp only [go_sem, w1, w2]
    have hc : n = 10 ∨ n = 11 ∨ n = 12 ∨ n = 13 ∨ n = 14 ∨ n = 15 ∨ n = 16 ∨ n = 17 ∨ n = 18 ∨ n = 19 := by omega
    rcases hc with rfl | rfl | rfl | rfl | rfl | rfl | rfl | rfl | rfl | rfl <;> exact ⟨by decide, convS (by rw [decN_step (by omega), decN_last (by omega)]; rfl)⟩
theorem formatInt_c (n : Nat) (hn : n < 20) : PC Tryz.prog 215 [int n, int 10] (str (decN n)) := by
  refine PC.body (c := Tryz.f215.body.getD .skip) (fun _ => false) mixed Tryz.func215 rfl (by kernel_rfl) ?_
  unfold Tryz.f215
  simp only [Option.getD_some]
  simp only [go_sem]
  refine acond_i (fun _ => ?_) (fun hb => by simp at hb)
  simp only [go_sem]
  refine acond_i (fun hb => ?_) (fun hb => by simp at hb; omega)
  simp only [go_sem]
  refine PC.use (small_c n hn) ?_
  simp only [go_sem]
  exact .refl _
theorem iitoa_c (n : Nat) (hn : n < 20) : PC Tryz.prog 173 [int n] (str (decN n)) := by
  refine PC.body (c := Tryz.f173.body.getD .skip) (fun _ => false) mixed Tryz.func173 rfl (by kernel_rfl) ?_
  unfold Tryz.f173
  simp only [Option.getD_some]
  simp only [go_sem]
  refine PC.use (formatInt_c n hn) ?_
  simp only [go_sem]
  exact .refl _
theorem itoa_c (n : Nat) (hn : n < 20) : PC Tryz.prog 120 [int n] (str (decN n)) := by
  refine PC.body (c := Tryz.f120.body.getD .skip) (fun _ => false) mixed Tryz.func120 rfl (by kernel_rfl) ?_
  unfold Tryz.f120
  simp only [Option.getD_some]
  simp only [go_sem]
  refine PC.use (iitoa_c n hn) ?_
  simp only [go_sem]
  exact .refl _
theorem W_in' {n : Int} (h : -9223372036854775808 ≤ n ∧ n ≤ 9223372036854775807) : W n = n := wrap_in h
theorem within_c (n a b : Int) : PC Tryz.prog 269 [int n, int a, int b] (boo (decide (n ≥ a) && decide (n ≤ b))) := by
  refine PC.body (c := Tryz.f269.body.getD .skip) (fun _ => false) mixed Tryz.func269 rfl (by kernel_rfl) ?_
  unfold Tryz.f269
  simp only [Option.getD_some]
  simp only [go_sem]
  exact .refl _
structure TravB (l : List Point) : Prop where
  len : 1 ≤ l.length ∧ l.length ≤ 16
  pt : ∀ p ∈ l, 0 ≤ p.t ∧ p.t ≤ 4096 ∧ p.t ≤ p.a ∧ p.a ≤ p.t + 4096
  mono : ∀ i, i + 1 < l.length → (ptAt l i).t < (ptAt l (i + 1)).t ∧ (ptAt l i).a ≤ (ptAt l (i + 1)).a
theorem opt_nil {α : Type} {b : Bool} {f : α} (h : opt b f = []) : b = false := by
  cases b with
  | false => rfl
  | true => simp [opt] at h
theorem trav_of {l : List Point} (h : travelR l = []) : TravB l := by
  unfold travelR at h
  rw [List.append_eq_nil_iff] at h
  have h1 := opt_nil h.1
  unfold badLen at h1
  simp only [Bool.or_eq_false_iff, decide_eq_false_iff_not] at h1
  have h2 : ∀ i, i < l.length → pointFaults l i = [] := fun i hi => List.flatMap_eq_nil_iff.1 h.2 i (List.mem_range.2 hi)
  have h3 : ∀ p ∈ l, 0 ≤ p.t ∧ p.t ≤ 4096 ∧ p.t ≤ p.a ∧ p.a ≤ p.t + 4096 := fun p hp => by
    obtain ⟨i, hi, rfl⟩ := List.getElem_of_mem hp
    have := h2 i hi
    unfold pointFaults at this
    rw [List.append_eq_nil_iff] at this
    have hb := opt_nil this.1
    rw [ptAt_get (List.getElem?_eq_getElem hi)] at hb
    unfold badPoint at hb
    simp only [Bool.or_eq_false_iff, decide_eq_false_iff_not] at hb
    have w := wrap_in (n := l[i].t + 4096) (by omega)
    omega
  refine ⟨by omega, h3, fun i hi => ?_⟩
  have := h2 (i + 1) hi
  unfold pointFaults at this
  rw [List.append_eq_nil_iff] at this
  have hb := opt_nil this.2
  unfold noFifo at hb
  have e : i + 1 - 1 = i := rfl
  rw [e] at hb
  simp at hb
  exact hb
theorem mono_lt {l : List Point} (h : TravB l) : ∀ (i j : Nat), i < j → j < l.length → (ptAt l i).t < (ptAt l j).t
  | i, 0, hij, _ => by omega
  | i, j + 1, hij, hj => by
    have h1 := (h.mono j hj).1
    by_cases e : i = j
    · subst e; exact h1
    · have := mono_lt h i j (by omega) (by omega)
      omega
theorem tcheck_c (l : List Point) (h : TravB l) : PC Tryz.prog 302 [.sl (l.map encPoint)] (.sl []) := by
  have hl := h.len
  refine PC.body (c := Tryz.f302.body.getD .skip) (fun _ => false) mixed Tryz.func302 rfl (by kernel_rfl) ?_
  unfold Tryz.f302
  simp only [Option.getD_some]
  simp only [go_sem]
  refine acond_i (fun hb => by exfalso; simp only [Bool.or_eq_true, beq_iff_eq, decide_eq_true_eq] at hb; omega) (fun _ => ?_)
  simp only [go_sem]
  refine ⟨fun ρ _ => ∃ k : Nat, k ≤ l.length ∧ ρ 0 = .sl (l.map encPoint) ∧ ρ 19 = .sl (l.map encPoint) ∧ ρ 20 = int l.length ∧ ρ 21 = int k ∧ ρ 3 = .sl [], fun ρ _ => l.length - natOf (ρ 21), ⟨0, Nat.zero_le _, rfl, rfl, rfl, rfl, rfl⟩, ?_⟩
  rintro ρ H ⟨k, hk, h0, h19, h20, h21, h3⟩
  simp only [go_sem, h0, h19, h20, h21, h3]
  refine acond_i (fun hlt => ?_) (fun hge => ?_)
  · have hlt := le_of_lt_b hlt
    obtain ⟨p, hp⟩ := getIn hlt
    have b1 := inB hlt
    have hpt := h.pt p (List.mem_of_getElem? hp)
    simp only [go_sem, h0, h19, h20, h21, h3, getD_map hp, b1]
    refine anew_i fun i5 hi50 => ?_
    simp only [go_sem, h0, h19, h20, h21, h3]
    refine wputE_n (updH_same _ _ _) (by simp [encPoint_len]) ?_
    generalize hGi5 : updH (updH _ i5 _) i5 _ = HGi5
    have R5 : HGi5 i5 = some (⟨136, 2, [encPoint p]⟩) := by rw [← hGi5, updH_same]; rfl
    clear hGi5 hi50
    simp only [go_sem, h0, h19, h20, h21, h3, R5]
    refine PC.use (itoa_c k (by omega)) ?_
    simp only [go_sem, h0, h19, h20, h21, h3, R5]
    refine PC.use (within_c _ _ _) ?_
    simp only [go_sem, h0, h19, h20, h21, h3, R5]
    have w := wrap_in (n := p.t + 4096) (by omega)
    refine acond_i (fun hb => by exfalso; rw [w] at hb; simp at hb; omega) (fun _ => ?_)
    simp only [go_sem, h0, h19, h20, h21, h3, R5]
    refine adraw_p [i5] [(0, false), (1, false), (2, false), (3, true), (4, true), (5, true), (6, false), (7, false), (8, false), (9, false), (10, false), (11, false), (12, false), (13, true), (14, true), (15, true), (16, false), (17, false), (18, false), (19, false), (20, false), (21, false), (22, false), (23, false)] (by simp [R5]) (by kernel_rfl) fun Hp Hr hp5 hr _ hr0 => ?_
    have P5 := (hp5 i5 (by simp)).trans R5
    obtain ⟨q, hq⟩ := getIn (show k - 1 < l.length by omega)
    have hg1 : decide ((k : Int) > 0) = true → (0 ≤ IntKind.i64.wrap ((k : Int) - 1) ∧ IntKind.i64.wrap ((k : Int) - 1) < (l.length : Int)) := fun hg => by
      simp at hg
      rw [wrapQ (show k ≤ 4611686018427387904 by omega)]; omega
    simp only [go_sem, h0, h19, h20, h21, h3, P5, wrapP (show k ≤ 4611686018427387904 by omega), getD_map hq]
    refine ⟨hg1, fun hg => hg1 hg.1, pinEnd_i fun _ Hm _ _ => ?_⟩
    simp only [go_sem, h0, h19, h20, h21, h3]
    have hm : 0 < k → q.t < p.t ∧ q.a ≤ p.a := fun hk0 => by
      have := h.mono (k - 1) (by omega)
      rw [show k - 1 + 1 = k by omega, ptAt_get hp, ptAt_get hq] at this
      exact this
    refine acond_i (fun hb => ?_) (fun _ => ?_)
    · exfalso
      simp only [Bool.or_eq_true, Bool.and_eq_true, decide_eq_true_eq] at hb
      have := hm (by omega)
      omega
    simp only [go_sem, h0, h19, h20, h21, h3, wrapS (show k ≤ 4611686018427387904 by omega)]
    exact ⟨⟨k + 1, hlt, rfl⟩, by simp only [natOf_int]; omega⟩
  · simp only [go_sem, h3]
    exact .refl _
theorem right_c (l : List Point) (h : TravB l) : PC Tryz.prog 270 [.sl (l.map encPoint)] (boo true) := by
  refine PC.body (c := Tryz.f270.body.getD .skip) (fun _ => false) mixed Tryz.func270 rfl (by kernel_rfl) ?_
  unfold Tryz.f270
  simp only [Option.getD_some]
  simp only [go_sem]
  refine PC.use (tcheck_c l h) ?_
  simp only [go_sem]
  exact .refl _
theorem arrive1_c (p : Point) (t : Int) : PC Tryz.prog 304 [.agg (encPoint p), int t] (int (W (p.t - t))) := by
  refine PC.body (c := Tryz.f304.body.getD .skip) (fun _ => false) mixed Tryz.func304 rfl (by kernel_rfl) ?_
  unfold Tryz.f304
  simp only [Option.getD_some]
  simp only [go_sem]
  exact .refl _
def bs (l : List Point) (t : Int) : Nat := (l.takeWhile fun p => decide (p.t < t)).length
def bfound (l : List Point) (t : Int) : Bool := decide ((bs l t : Int) < (l.length : Int)) && ((ptAt l (bs l t)).t - t == 0)
theorem tw_len {α : Type} {p : α → Bool} : ∀ (l : List α) (i : Nat), i ≤ l.length → (∀ c x, c < i → l[c]? = some x → p x = true) → (∀ x, l[i]? = some x → p x = false) → (l.takeWhile p).length = i
  | [], i, hi, _, _ => by simp at hi; simp [hi]
  | a :: r, 0, _, _, h2 => by
    have := h2 a rfl
    simp [List.takeWhile, this]
  | a :: r, i + 1, hi, h1, h2 => by
    have ha := h1 0 a (by omega) rfl
    rw [List.takeWhile_cons, if_pos ha, List.length_cons, tw_len r i (by simpa using hi) (fun c x hc hx => h1 (c + 1) x (by omega) (by simpa using hx)) (fun x hx => h2 x (by simpa using hx))]
theorem bs_eq {l : List Point} {t : Int} {i : Nat} (hi : i ≤ l.length) (h1 : ∀ c, c < i → (ptAt l c).t < t) (h2 : i < l.length → t ≤ (ptAt l i).t) : bs l t = i := by
  refine tw_len l i hi (fun c x hc hx => ?_) (fun x hx => ?_)
  · have := h1 c hc
    rw [ptAt_get hx] at this
    simpa using this
  · have := h2 (List.getElem?_eq_some_iff.1 hx).1
    rw [ptAt_get hx] at this
    simp; omega
theorem bsearch_c (l : List Point) (t : Int) (h : TravB l) (ht : 0 ≤ t ∧ t ≤ 1073741824) : PC Tryz.prog 303 [.sl (l.map encPoint), int t, .v (.func (.func 304) #[] #[])] (.tup [int (bs l t), boo (bfound l t)]) := by
  have hl := h.len
  refine PC.body (c := Tryz.f303.body.getD .skip) (fun _ => false) mixed Tryz.func303 rfl (by kernel_rfl) ?_
  unfold Tryz.f303
  simp only [Option.getD_some]
  simp only [go_sem]
  have hok : callOk Tryz.prog 304 = true := by kernel_rfl
  refine ⟨fun ρ _ => ∃ i j : Nat, i ≤ j ∧ j ≤ l.length ∧ ρ 0 = .sl (l.map encPoint) ∧ ρ 1 = int t ∧ ρ 2 = .v (.func (.func 304) #[] #[]) ∧ ρ 8 = int l.length ∧ ρ 9 = int i ∧ ρ 10 = int j ∧ (∀ c, c < i → (ptAt l c).t < t) ∧ (j < l.length → t ≤ (ptAt l j).t), fun ρ _ => natOf (ρ 10) - natOf (ρ 9), ⟨0, l.length, Nat.zero_le _, Nat.le_refl _, rfl, rfl, rfl, rfl, rfl, rfl, fun c hc => by omega, fun hc => by omega⟩, ?_⟩
  rintro ρ H ⟨i, j, hij, hj, h0, h1, h2, h8, h9, h10, hz, hy⟩
  simp only [go_sem, h0, h1, h2, h8, h9, h10]
  refine acond_i (fun hlt => ?_) (fun hge => ?_)
  · have hlt : i < j := by simp at hlt; omega
    have w1 : IntKind.i64.wrap ((i : Int) + (j : Int)) = ((i + j : Nat) : Int) := by rw [wrap_in (by omega)]; omega
    have w2 : IntKind.u64.wrap ((i + j : Nat) : Int) = ((i + j : Nat) : Int) := uwrap_in' (by omega)
    have w3 : shV .shr .u64 ((i + j : Nat) : Int) 1 = (((i + j) / 2 : Nat) : Int) := by
      show ((i + j : Nat) : Int).fdiv (2 ^ min (1 : Int).toNat 64) = _
      rw [Int.fdiv_eq_ediv_of_nonneg _ (by decide)]; rfl
    have w4 : IntKind.i64.wrap (((i + j) / 2 : Nat) : Int) = (((i + j) / 2 : Nat) : Int) := wrap_in (by omega)
    have hm : (i + j) / 2 < l.length := by omega
    generalize hme : (i + j) / 2 = m at w3 w4 hm
    have him : i ≤ m ∧ m < j := by omega
    obtain ⟨p, hp⟩ := getIn hm
    have b1 := inB hm
    have hpt := h.pt p (List.mem_of_getElem? hp)
    have e : W (p.t - t) = p.t - t := W_in' (by omega)
    simp only [go_sem, h0, h1, h2, h8, h9, h10, w1, w2, w3, w4, getD_map hp, b1, hok]
    refine ⟨by decide, PC.use (arrive1_c p t) ?_⟩
    simp only [go_sem, h0, h1, h2, h8, h9, h10, e]
    refine acond_joinL (fun ρ' _ => ∃ i' j' : Nat, i' ≤ j' ∧ j' ≤ l.length ∧ j' - i' < j - i ∧ ρ' 0 = .sl (l.map encPoint) ∧ ρ' 1 = int t ∧ ρ' 2 = .v (.func (.func 304) #[] #[]) ∧ ρ' 8 = int l.length ∧ ρ' 9 = int i' ∧ ρ' 10 = int j' ∧ (∀ c, c < i' → (ptAt l c).t < t) ∧ (j' < l.length → t ≤ (ptAt l j').t)) ?_ fun K hK _ _ => acond_i (fun hb => ?_) (fun hb => ?_)
    · rintro ρ' H' ⟨i', j', a1, a2, a3, c0, c1, c2, c8, c9, c10, cz, cy⟩
      exact ⟨⟨i', j', a1, a2, c0, c1, c2, c8, c9, c10, cz, cy⟩, by rw [c9, c10]; simp only [natOf_int]; omega⟩
    · have hb : p.t - t < 0 := by simpa using hb
      simp only [go_sem, h0, h1, h2, h8, h9, h10, wrapS (show m ≤ 4611686018427387904 by omega)]
      refine hK _ _ ⟨m + 1, j, by omega, hj, by omega, by simp only [go_sem, h0], by simp only [go_sem, h1], by simp only [go_sem, h2], by simp only [go_sem, h8], by simp only [go_sem], by simp only [go_sem, h10], fun c hc => ?_, hy⟩
      have e2 := ptAt_get hp
      by_cases e3 : c = m
      · subst e3; rw [e2]; omega
      · have := mono_lt h c m (by omega) hm
        rw [e2] at this; omega
    · have hb : ¬ p.t - t < 0 := by simpa using hb
      simp only [go_sem, h0, h1, h2, h8, h9, h10]
      refine hK _ _ ⟨i, m, by omega, by omega, by omega, by simp only [go_sem, h0], by simp only [go_sem, h1], by simp only [go_sem, h2], by simp only [go_sem, h8], by simp only [go_sem, h9], by simp only [go_sem], hz, fun _ => ?_⟩
      rw [ptAt_get hp]; omega
  · have hge : i = j := by simp at hge; omega
    subst hge
    have hbs : bs l t = i := bs_eq hj hz hy
    simp only [go_sem, h0, h1, h2, h8, h9, h10, hok]
    have hget : decide ((i : Int) < (l.length : Int)) = true → (l.map encPoint).getD i [] = encPoint (ptAt l i) := fun hg => by
      have hlt : i < l.length := by simp at hg; omega
      obtain ⟨p, hp⟩ := getIn hlt
      rw [getD_map hp, ptAt_get hp]
    have hin : decide ((i : Int) < (l.length : Int)) = true → 0 ≤ (i : Int) ∧ (i : Int) < (l.length : Int) := fun hg => by simp at hg; omega
    refine ⟨fun hg => ⟨hin hg, by rw [hget hg]; rfl⟩, fun hg => by rw [hget hg]; exact Nat.le_refl _, int (W ((ptAt l i).t - t)), fun hg => by rw [hget hg, encPoint_all]; exact (arrive1_c _ t).q rfl, ?_⟩
    simp only [go_sem]
    have e : bfound l t = (decide ((i : Int) < (l.length : Int)) && (W ((ptAt l i).t - t) == 0)) := by
      unfold bfound
      rw [hbs]
      by_cases hlt : i < l.length
      · have hpt := h.pt _ (List.mem_of_getElem? (getIn hlt).choose_spec)
        rw [← ptAt_get (getIn hlt).choose_spec] at hpt
        rw [W_in' (by omega)]
      · have : decide ((i : Int) < (l.length : Int)) = false := by simp; omega
        rw [this]; rfl
    rw [hbs, e]
    exact .refl _
def segP (p q : Point) (t : Int) : Int := W (p.a + IntKind.i64.wrap (Int.tdiv (W (W (W (W (t - p.t) * W (q.a - p.a)) + W (q.t - p.t)) - 1)) (W (q.t - p.t))))
def arrP (l : List Point) (t : Int) : Int :=
  if bfound l t = true then (ptAt l (bs l t)).a else if ((bs l t : Int) == 0) = true then endV (ptAt l 0) t
  else if ((bs l t : Int) == (l.length : Int)) = true then endV (ptAt l (bs l t - 1)) t else segP (ptAt l (bs l t - 1)) (ptAt l (bs l t)) t
theorem bs_le (l : List Point) (t : Int) : bs l t ≤ l.length := by
  have := congrArg List.length (List.takeWhile_append_dropWhile (p := fun p : Point => decide (p.t < t)) (l := l))
  rw [List.length_append] at this
  unfold bs; omega
theorem tarrive_c (l : List Point) (t : Int) (h : TravB l) (ht : 0 ≤ t ∧ t ≤ 1073741824) : PC Tryz.prog 271 [.sl (l.map encPoint), int t] (int (arrP l t)) := by
  have hl := h.len
  have hb := bs_le l t
  refine PC.body (c := Tryz.f271.body.getD .skip) (fun _ => false) mixed Tryz.func271 rfl (by kernel_rfl) ?_
  unfold Tryz.f271
  simp only [Option.getD_some]
  simp only [go_sem]
  refine PC.use (bsearch_c l t h ht) ?_
  simp only [go_sem]
  obtain ⟨i, hi⟩ : ∃ i, bs l t = i := ⟨_, rfl⟩
  have harr : arrP l t = if bfound l t = true then (ptAt l i).a else if ((i : Int) == 0) = true then endV (ptAt l 0) t else if ((i : Int) == (l.length : Int)) = true then endV (ptAt l (i - 1)) t else segP (ptAt l (i - 1)) (ptAt l i) t := by unfold arrP; rw [hi]
  rw [hi] at hb ⊢
  rw [harr]
  refine acond_i (fun h1 => ?_) (fun h1 => ?_)
  · have hlt : i < l.length := by unfold bfound at h1; rw [hi] at h1; simp at h1; omega
    obtain ⟨p, hp⟩ := getIn hlt
    have b1 := inB hlt
    simp only [go_sem, getD_map hp, b1]
    rw [if_pos h1, ptAt_get hp]
    exact .refl _
  simp only [go_sem]
  refine acond_i (fun h2 => ?_) (fun h2 => ?_)
  · obtain ⟨p, hp⟩ := getIn (show 0 < l.length by omega)
    simp only [go_sem]
    refine adraw_q (by rfl) (by kernel_rfl) ?_
    simp only [go_sem, getD_map hp]
    rw [if_neg (by rw [h1]; simp), if_pos h2, ptAt_get hp]
    have b0 : (0 : Int) ≤ 0 ∧ (0 : Int) < (l.length : Int) := by omega
    exact ⟨b0, b0, .refl _⟩
  simp only [go_sem]
  refine acond_i (fun h3 => ?_) (fun h3 => ?_)
  · have h2' : i ≠ 0 := by simpa using h2
    obtain ⟨p, hp⟩ := getIn (show i - 1 < l.length by omega)
    simp only [go_sem]
    refine adraw_q (by rfl) (by kernel_rfl) ?_
    have w : IntKind.i64.wrap ((i : Int) - 1) = ((i - 1 : Nat) : Int) := by rw [wrap_in (by omega)]; omega
    have b1 := inB (show i - 1 < l.length by omega)
    simp only [go_sem, w, getD_map hp, b1]
    rw [if_neg (by rw [h1]; simp), if_neg (by rw [h2]; simp), if_pos h3, ptAt_get hp]
    exact .refl _
  have h2' : i ≠ 0 := by simpa using h2
  have h3' : i ≠ l.length := by simp at h3; omega
  obtain ⟨p, hp⟩ := getIn (show i - 1 < l.length by omega)
  obtain ⟨q, hq⟩ := getIn (show i < l.length by omega)
  have w : IntKind.i64.wrap ((i : Int) - 1) = ((i - 1 : Nat) : Int) := by rw [wrap_in (by omega)]; omega
  have b1 := inB (show i - 1 < l.length by omega)
  have b2 := inB (show i < l.length by omega)
  have hm := (h.mono (i - 1) (by omega)).1
  rw [show i - 1 + 1 = i by omega, ptAt_get hp, ptAt_get hq] at hm
  have hpp := h.pt p (List.mem_of_getElem? hp)
  have hqq := h.pt q (List.mem_of_getElem? hq)
  rw [if_neg (by rw [h1]; simp), if_neg (by rw [h2]; simp), if_neg (by rw [h3]; simp), ptAt_get hp, ptAt_get hq]
  simp only [go_sem]
  refine adraw_join (fun ρ' H' => ρ' 1 = int t ∧ ∃ j7 j8, ρ' 7 = .op j7 0 0 ∧ ρ' 8 = .op j8 0 0 ∧ H' j7 = some (⟨136, 2, [encPoint p]⟩ : Row) ∧ H' j8 = some (⟨136, 2, [encPoint q]⟩ : Row) ∧ j7 ≠ j8) ?_ fun K hK => ?_
  · rintro ρ H ⟨h1, j7, j8, h7, h8, R7, R8, n78⟩
    simp only [go_sem, h1, h7, h8, R7, R8]
    refine adraw_p [j7, j8] [(0, true), (1, true), (2, true), (3, true), (4, true), (5, true), (6, true), (7, true), (8, true), (9, true), (10, true), (11, true), (12, true), (13, true), (14, true), (15, false), (16, false), (17, false), (18, false)] (by simp [R7, R8]) (by kernel_rfl) fun Hp Hr hp hr _ hr0 => ?_
    have P7 := (hp j7 (by simp)).trans R7
    have P8 := (hp j8 (by simp)).trans R8
    simp only [go_sem, h1, h7, h8, P7, P8]
    refine ⟨wrap_nz (by omega), pinEnd_i fun _ Hm _ _ => ?_⟩
    simp only [go_sem]
    exact .refl _
  · refine adraw_t [] (.q 0 (.q 1 (.q 2 (.q 3 (.q 4 (.q 5 (.q 6 (.q 7 (.q 8 (.a2 9 (.a1 10 (.a1 11 (.a1 12 .nil))) 10 (.a1 9 (.a1 11 (.a1 12 .nil))))))))))))) (by simp) (by kernel_rfl) fun Hp Hr _ hqr _ _ => ?_
    simp only [go_sem, w, getD_map hp, getD_map hq, b1, b2]
    have rP : ∀ {a b : Nat} {G : Heap} {z : List AV} {y : List AV}, a ≠ b → G a = some (⟨136, 2, [z]⟩ : Row) → updH G b (some (⟨136, 2, [y]⟩ : Row)) a = some (⟨136, 2, [z]⟩ : Row) := fun hne hG => by rw [updH_ne _ _ _ _ hne]; exact hG
    refine amixt_2i ?_ ?_
    · simp only [go_sem]
      refine anew_i fun j7 h7 => ?_
      simp only [go_sem]
      refine anew_i fun j8 h8 => ?_
      have n78 := ne_new (updH_same _ _ _) h8
      have S7 := keep_new (r' := (⟨136, 2, [[int 0, int 0]]⟩ : Row)) (updH_same Hr j7 (some (⟨136, 2, [[int 0, int 0]]⟩ : Row))) h8
      have S8 := updH_same (updH Hr j7 (some (⟨136, 2, [[int 0, int 0]]⟩ : Row))) j8 (some (⟨136, 2, [[int 0, int 0]]⟩ : Row))
      generalize updH (updH Hr j7 _) j8 _ = G at S7 S8 ⊢
      simp only [go_sem]
      refine wputE_n S7 (by simp [encPoint_len]) ?_
      simp only [go_sem]
      refine wputE_n (keepS S8 n78.symm) (by simp [encPoint_len]) ?_
      simp only [go_sem]
      refine pinEnd_i fun _ Hm _ hm => hK _ _ ⟨by simp only [go_sem], j7, j8, by simp only [go_sem], by simp only [go_sem], ?_, ?_, n78⟩
      · rw [hm j7 (by simp), updH_ne _ _ _ _ n78, updH_same]
      · rw [hm j8 (by simp), updH_same]
    · simp only [go_sem]
      refine anew_i fun j8 h8 => ?_
      simp only [go_sem]
      refine anew_i fun j7 h7 => ?_
      have n78 := (ne_new (updH_same _ _ _) h7).symm
      have S8 := keep_new (r' := (⟨136, 2, [[int 0, int 0]]⟩ : Row)) (updH_same Hr j8 (some (⟨136, 2, [[int 0, int 0]]⟩ : Row))) h7
      have S7 := updH_same (updH Hr j8 (some (⟨136, 2, [[int 0, int 0]]⟩ : Row))) j7 (some (⟨136, 2, [[int 0, int 0]]⟩ : Row))
      generalize updH (updH Hr j8 _) j7 _ = G at S7 S8 ⊢
      simp only [go_sem]
      refine wputE_n S7 (by simp [encPoint_len]) ?_
      simp only [go_sem]
      refine wputE_n (keepS S8 n78.symm) (by simp [encPoint_len]) ?_
      simp only [go_sem]
      refine pinEnd_i fun _ Hm _ hm => hK _ _ ⟨by simp only [go_sem], j7, j8, by simp only [go_sem], by simp only [go_sem], ?_, ?_, n78⟩
      · rw [hm j7 (by simp), updH_ne _ _ _ _ n78, updH_same]
      · rw [hm j8 (by simp), updH_same]
theorem tw_spec {α : Type} {p : α → Bool} : ∀ l : List α, (∀ c x, c < (l.takeWhile p).length → l[c]? = some x → p x = true) ∧ (∀ x, l[(l.takeWhile p).length]? = some x → p x = false)
  | [] => ⟨fun c x h _ => by simp at h, fun x h => by simp at h⟩
  | a :: r => by
    obtain ⟨h1, h2⟩ := tw_spec (p := p) r
    by_cases ha : p a = true
    · rw [List.takeWhile_cons, if_pos ha]
      refine ⟨fun c x hc hx => ?_, fun x hx => h2 x (by simpa using hx)⟩
      cases c with
      | zero => simp at hx; subst hx; exact ha
      | succ c => exact h1 c x (by simpa using hc) (by simpa using hx)
    · rw [List.takeWhile_cons, if_neg ha]
      refine ⟨fun c x hc _ => by simp at hc, fun x hx => ?_⟩
      simp at hx; subst hx; simpa using ha
theorem endV_at {p : Point} {t : Int} (hp : 0 ≤ p.t ∧ p.t ≤ 4096 ∧ p.t ≤ p.a ∧ p.a ≤ p.t + 4096) (e : p.t = t) : endV p t = p.a := by
  unfold endV
  subst e
  rw [W_in' (n := p.t + p.a) (by omega), W_in' (by omega)]; omega
theorem segV_at {p q : Point} {t : Int} (hp : 0 ≤ p.t ∧ p.t ≤ 4096 ∧ p.t ≤ p.a ∧ p.a ≤ p.t + 4096) (hq : 0 ≤ q.t ∧ q.t ≤ 4096 ∧ q.t ≤ q.a ∧ q.a ≤ q.t + 4096) (hpq : p.t < q.t) (e : p.t = t) : segV p q t = p.a := by
  unfold segV
  subst e
  rw [Int.sub_self, show W 0 = 0 from rfl, Int.zero_mul, show W 0 = 0 from rfl, Int.zero_add, W_in' (n := q.t) (by omega), W_in' (n := q.t - p.t) (by omega), W_in' (n := q.t - p.t - 1) (by omega),
    Int.tdiv_eq_ediv_of_nonneg (by omega), Int.ediv_eq_zero_of_lt (by omega) (by omega)]
  rw [show IntKind.i64.wrap 0 = 0 from rfl, Int.add_zero, W_in' (by omega)]
theorem segV_P {p q : Point} {t : Int} (hp : 0 ≤ p.t ∧ p.t ≤ 4096 ∧ p.t ≤ p.a ∧ p.a ≤ p.t + 4096) (hq : 0 ≤ q.t ∧ q.t ≤ 4096 ∧ q.t ≤ q.a ∧ q.a ≤ q.t + 4096) (ha : p.a ≤ q.a) (h1 : p.t ≤ t) (h2 : t < q.t) : segV p q t = segP p q t := by
  unfold segV segP
  have hx : 0 ≤ t - p.t ∧ t - p.t ≤ 4096 := by omega
  have hy : 0 ≤ q.a - p.a ∧ q.a - p.a ≤ 8192 := by omega
  have hm0 : 0 ≤ (t - p.t) * (q.a - p.a) := Int.mul_nonneg hx.1 hy.1
  have hm1 : (t - p.t) * (q.a - p.a) ≤ 4096 * 8192 := Int.mul_le_mul hx.2 hy.2 hy.1 (by omega)
  rw [W_in' (n := t - p.t) (by omega), W_in' (n := q.a - p.a) (by omega), W_in' (n := (t - p.t) * (q.a - p.a)) (by omega), W_in' (n := q.t - p.t) (by omega)]
  generalize (t - p.t) * (q.a - p.a) = m at hm0 hm1
  rw [W_in' (n := m + q.t) (by omega), W_in' (n := m + q.t - p.t) (by omega), W_in' (n := m + (q.t - p.t)) (by omega), show m + q.t - p.t = m + (q.t - p.t) by omega]
def arrL (l : List Point) (t : Int) : Int := match (List.range (l.length - 1)).find? (segIs l t) with
  | some k => segV (ptAt l k) (ptAt l (k + 1)) t
  | none => if decide (t > (ptAt l 0).t) = true then endV (ptAt l (l.length - 1)) t else endV (ptAt l 0) t
theorem arrL_some {l : List Point} {t : Int} {k : Nat} (h : (List.range (l.length - 1)).find? (segIs l t) = some k) : arrL l t = segV (ptAt l k) (ptAt l (k + 1)) t := by unfold arrL; rw [h]
theorem arrL_end {l : List Point} {t : Int} (h : (List.range (l.length - 1)).find? (segIs l t) = none) (h2 : t > (ptAt l 0).t) : arrL l t = endV (ptAt l (l.length - 1)) t := by unfold arrL; rw [h]; exact if_pos (by simpa using h2)
theorem arrL_beg {l : List Point} {t : Int} (h : (List.range (l.length - 1)).find? (segIs l t) = none) (h2 : ¬ t > (ptAt l 0).t) : arrL l t = endV (ptAt l 0) t := by unfold arrL; rw [h]; exact if_neg (by simpa using h2)
theorem arrP_f {l : List Point} {t : Int} {i : Nat} (hi : bs l t = i) (h : i < l.length ∧ (ptAt l i).t = t) : arrP l t = (ptAt l i).a := by
  unfold arrP bfound; rw [hi]; exact if_pos (by simp; omega)
theorem arrP_n {l : List Point} {t : Int} {i : Nat} (hi : bs l t = i) (h : ¬ (i < l.length ∧ (ptAt l i).t = t)) : arrP l t = if ((i : Int) == 0) = true then endV (ptAt l 0) t
  else if ((i : Int) == (l.length : Int)) = true then endV (ptAt l (i - 1)) t else segP (ptAt l (i - 1)) (ptAt l i) t := by
  unfold arrP bfound; rw [hi]; exact if_neg (by simp; intro hc; omega)
theorem arr_same {l : List Point} {t : Int} (h : TravB l) (hr : travelR l = []) (ht : 0 ≤ t ∧ t ≤ 1073741824) : arrive07 l t = arrP l t := by
  have hl := h.len
  have hb := bs_le l t
  obtain ⟨tw1, tw2⟩ := tw_spec (p := fun p : Point => decide (p.t < t)) l
  have hlow : ∀ c, c < bs l t → (ptAt l c).t < t := fun c hc => by
    obtain ⟨x, hx⟩ := getIn (show c < l.length by omega)
    have := tw1 c x hc hx
    rw [ptAt_get hx]; simpa using this
  have hhigh : bs l t < l.length → t ≤ (ptAt l (bs l t)).t := fun hlt => by
    obtain ⟨x, hx⟩ := getIn hlt
    have := tw2 x hx
    rw [ptAt_get hx]; simpa using this
  have hpt : ∀ c, c < l.length → 0 ≤ (ptAt l c).t ∧ (ptAt l c).t ≤ 4096 ∧ (ptAt l c).t ≤ (ptAt l c).a ∧ (ptAt l c).a ≤ (ptAt l c).t + 4096 := fun c hc => by
    obtain ⟨x, hx⟩ := getIn hc
    rw [ptAt_get hx]; exact h.pt x (List.mem_of_getElem? hx)
  unfold arrive07
  have hbad : badArr l t = false := by unfold badArr; rw [hr]; simp; omega
  rw [if_neg (by rw [hbad]; simp)]
  show arrL l t = arrP l t
  obtain ⟨i, hi⟩ : ∃ i, bs l t = i := ⟨_, rfl⟩
  rw [hi] at hb hlow hhigh
  have none_of : (∀ c, c + 1 < l.length → segIs l t c = false) → (List.range (l.length - 1)).find? (segIs l t) = none := fun hn => find_miss fun c hc => hn c (by have := List.mem_range.1 hc; omega)
  have some_of : ∀ k, k + 1 < l.length → (∀ c, c < k → segIs l t c = false) → segIs l t k = true → (List.range (l.length - 1)).find? (segIs l t) = some k := fun k hk hn hy => find_hit (k := k) (fun y hy2 => by
    rw [List.take_range] at hy2
    exact hn y (by have := List.mem_range.1 hy2; omega)) (range_get (by omega)) hy
  have seg_low : ∀ c, c + 1 < l.length → (ptAt l (c + 1)).t ≤ t → segIs l t c = false := fun c _ hc => by unfold segIs; simp; omega
  by_cases hfd : i < l.length ∧ (ptAt l i).t = t
  · rw [arrP_f hi hfd]
    obtain ⟨hil, he⟩ := hfd
    have lowle : ∀ c, c + 1 < l.length → c + 1 ≤ i → segIs l t c = false := fun c hc hci => seg_low c hc (by
      by_cases e : c + 1 = i
      · rw [e]; omega
      · have := hlow (c + 1) (by omega); omega)
    by_cases hlast : i + 1 < l.length
    · have hm := h.mono i hlast
      rw [arrL_some (some_of i hlast (fun c hc => lowle c (by omega) (by omega)) (by unfold segIs; simp; omega))]
      exact segV_at (hpt i hil) (hpt (i + 1) hlast) hm.1 he
    · have hn := none_of fun c hc => lowle c hc (by omega)
      have hi1 : i = l.length - 1 := by omega
      by_cases h0 : i = 0
      · rw [h0] at he hil ⊢
        rw [arrL_beg hn (by omega)]
        exact endV_at (hpt 0 hil) he
      · have := hlow 0 (by omega)
        rw [arrL_end hn this, ← hi1]
        exact endV_at (hpt i hil) he
  · rw [arrP_n hi hfd]
    by_cases h0 : i = 0
    · subst h0
      have hh := hhigh (by omega)
      have hne : (ptAt l 0).t ≠ t := fun e => hfd ⟨by omega, e⟩
      rw [arrL_beg (none_of fun c hc => by
        have : (ptAt l 0).t ≤ (ptAt l c).t := by
          by_cases e : c = 0
          · rw [e]; omega
          · have := mono_lt h 0 c (by omega) (by omega); omega
        unfold segIs; simp; omega) (by omega), if_pos (by simp)]
    · rw [if_neg (by simp; omega)]
      by_cases hn : i = l.length
      · have := hlow 0 (by omega)
        rw [arrL_end (none_of fun c hc => seg_low c hc (by have := hlow (c + 1) (by omega); omega)) this, if_pos (by simp; omega), hn]
      · have hil : i < l.length := by omega
        have hh := hhigh hil
        have hne : (ptAt l i).t ≠ t := fun e => hfd ⟨hil, e⟩
        have hlo := hlow (i - 1) (by omega)
        have e1 : i - 1 + 1 = i := by omega
        rw [arrL_some (some_of (i - 1) (by omega) (fun c hc => seg_low c (by omega) (by have := hlow (c + 1) (by omega); omega)) (by unfold segIs; rw [e1]; simp; omega)), if_neg (by simp; omega)]
        rw [e1]
        have hm := h.mono (i - 1) (by omega)
        rw [e1] at hm
        exact segV_P (hpt (i - 1) (by omega)) (hpt i hil) hm.2 (by omega) (by omega)
theorem tArrive_c (l : List Point) (t : Int) (hr : travelR l = []) : PC Tryz.prog 232 [.sl (l.map encPoint), int t] (int (arrive07 l t)) := by
  have h := trav_of hr
  refine PC.body (c := Tryz.f232.body.getD .skip) (fun _ => false) mixed Tryz.func232 rfl (by kernel_rfl) ?_
  unfold Tryz.f232
  simp only [Option.getD_some]
  simp only [go_sem]
  refine PC.use (within_c _ _ _) ?_
  simp only [go_sem]
  refine ⟨_, fun _ => (right_c l h).q rfl, ?_⟩
  simp only [go_sem]
  have hbad : badArr l t = (!(decide (t ≥ 0) && decide (t ≤ 1073741824)) || !true) := by
    unfold badArr; rw [hr, Bool.eq_iff_iff]; simp
  rw [← hbad]
  refine acond_i (fun hb => ?_) (fun hb => ?_)
  · simp only [go_sem]
    exact convI (by unfold arrive07; rw [if_pos hb])
  have ht : 0 ≤ t ∧ t ≤ 1073741824 := by unfold badArr at hb; simp at hb; omega
  simp only [go_sem]
  refine PC.use (tarrive_c l t h ht) ?_
  simp only [go_sem]
  exact convI (arr_same h hr ht).symm
theorem nplace_c (n : Network) (i : Int) : PC Tryz.prog 192 [.agg (encNetwork n), int i] (boo (place09 n i)) := by
  refine PC.body (c := Tryz.f192.body.getD .skip) (fun _ => false) mixed Tryz.func192 rfl (by kernel_rfl) ?_
  unfold Tryz.f192
  simp only [Option.getD_some]
  simp only [go_sem]
  exact .refl _
def wayCells (a : Arc) : List AV := [int a.src, int a.dst, int a.profile]
theorem wayOf_c (a : Arc) : PC Tryz.prog 231 [.agg (encArc a)] (.agg (wayCells a)) := by
  refine PC.body (c := Tryz.f231.body.getD .skip) (fun t => t == 2) mixed Tryz.func231 rfl (by kernel_rfl) ?_
  unfold Tryz.f231
  simp only [Option.getD_some]
  simp only [go_sem]
  refine anew_i fun j hj => ?_
  simp only [go_sem]
  refine wputE_n (updH_same _ _ _) (by simp) ?_
  simp only [go_sem]
  exact .refl _
structure NetOk (n : Network) : Prop where
  arcs : n.arcs.length ≤ 1048576
  travel : ∀ a ∈ n.arcs, travelR a.travel = []
  slow : ∀ a ∈ n.arcs, a.slow.length ≤ 1048576
theorem narrival_c (a : Arc) (t : Int) (ha : travelR a.travel = []) (hsl : a.slow.length ≤ 1048576) : PC Tryz.prog 194 [.agg (encArc a), int t] (int (arrive09 a t)) := by
  refine PC.body (c := Tryz.f194.body.getD .skip) (fun _ => false) mixed Tryz.func194 rfl (by kernel_rfl) ?_
  unfold Tryz.f194
  simp only [Option.getD_some]
  simp only [go_sem]
  refine PC.use (tArrive_c a.travel t ha) ?_
  simp only [go_sem]
  refine ⟨fun ρ _ => ∃ k : Nat, k ≤ a.slow.length ∧ ρ 1 = int t ∧ ρ 13 = .sl (a.slow.map encPoint) ∧ ρ 14 = int a.slow.length ∧ ρ 5 = int ((a.slow.take k).foldl (slowS t) (arrive07 a.travel t)) ∧ ρ 15 = int k, fun ρ _ => a.slow.length - natOf (ρ 15), ⟨0, Nat.zero_le _, rfl, rfl, rfl, rfl, rfl⟩, ?_⟩
  rintro ρ H ⟨k, hk, h1, h13, h14, h5, h15⟩
  simp only [go_sem, h1, h13, h14, h5, h15]
  refine acond_i (fun hlt => ?_) (fun hge => ?_)
  · have hlt := le_of_lt_b hlt
    obtain ⟨p, hp⟩ := getIn hlt
    have b1 := inB hlt
    have hs : (a.slow.take (k + 1)).foldl (slowS t) (arrive07 a.travel t) = slowS t ((a.slow.take k).foldl (slowS t) (arrive07 a.travel t)) p := by rw [take_succ hp, List.foldl_append]; rfl
    simp only [go_sem, h1, h13, h14, h5, h15, getD_map hp, b1]
    refine anew_i fun i7 hi70 => ?_
    simp only [go_sem, h1, h13, h14, h5, h15]
    refine wputE_n (updH_same _ _ _) (by simp [encPoint_len]) ?_
    generalize hGi7 : updH (updH _ i7 _) i7 _ = HGi7
    have R7 : HGi7 i7 = some (⟨136, 2, [encPoint p]⟩) := by rw [← hGi7, updH_same]; rfl
    clear hGi7 hi70
    simp only [go_sem, h1, h13, h14, h5, h15, R7]
    refine acond_joinL (fun ρ' _ => ρ' 1 = int t ∧ ρ' 13 = .sl (a.slow.map encPoint) ∧ ρ' 14 = int a.slow.length ∧ ρ' 5 = int ((a.slow.take (k + 1)).foldl (slowS t) (arrive07 a.travel t)) ∧ ρ' 15 = int k) ?_ fun K hK _ _ => acond_i (fun hb => ?_) (fun hb => ?_)
    · clear h1 h13 h14 h5 h15
      rintro ρ H ⟨h1, h13, h14, h5, h15⟩
      simp only [go_sem, h1, h13, h14, h5, h15, wrapS (show k ≤ 4611686018427387904 by omega)]
      exact ⟨⟨k + 1, hlt, rfl, rfl⟩, by simp only [natOf_int]; omega⟩
    · simp only [go_sem, h1, h13, h14, h5, h15, R7]
      refine hK _ _ ⟨by simp only [go_sem, h1], by simp only [go_sem, h13], by simp only [go_sem, h14], ?_, by simp only [go_sem, h15]⟩
      simp only [go_sem]
      rw [hs, slowS, if_pos hb]; rfl
    · simp only [go_sem]
      refine hK _ _ ⟨by simp only [go_sem, h1], by simp only [go_sem, h13], by simp only [go_sem, h14], ?_, by simp only [go_sem, h15]⟩
      simp only [go_sem, h5]
      rw [hs, slowS, if_neg (by rw [hb]; simp)]
  · have hge := eq_of_ge_b hk hge
    subst hge
    simp only [go_sem, h5]
    rw [List.take_length]
    exact .refl _
theorem nfind_c (n : Network) (p f t : Int) (hl : n.arcs.length ≤ 1048576) : PC Tryz.prog 193 [.agg (encNetwork n), int p, int f, int t] (.tup [.agg (encArc ((find09 n p f t).getD zeroArc)), boo (find09 n p f t).isSome]) := by
  refine PC.body (c := Tryz.f193.body.getD .skip) (fun _ => false) mixed Tryz.func193 rfl (by kernel_rfl) ?_
  unfold Tryz.f193
  simp only [Option.getD_some]
  simp only [go_sem]
  refine anew_i fun j8 hj80 => ?_
  generalize hGj8 : updH _ j8 _ = HGj8
  have R8 : HGj8 j8 = some (⟨139, 6, [encArc zeroArc]⟩) := by rw [← hGj8, updH_same]; rfl
  clear hGj8 hj80
  simp only [go_sem, R8]
  refine anew_i fun j10 hj100 => ?_
  have ne_j8_j10 : j8 ≠ j10 := ne_new R8 hj100
  simp only [go_sem, R8]
  refine wputE_n (updH_same _ _ _) (by simp [encPoint_len]) ?_
  generalize hGj10 : updH (updH _ j10 _) j10 _ = HGj10
  replace R8 := (congrFun hGj10.symm j8).trans ((updH_ne _ _ _ _ ne_j8_j10).trans ((updH_ne _ _ _ _ ne_j8_j10).trans R8))
  have R10 : HGj10 j10 = some (⟨285, 3, [[int f, int t, int p]]⟩) := by rw [← hGj10, updH_same]; rfl
  clear hGj10 hj100
  simp only [go_sem, R10, R8]
  refine ⟨fun ρ H => ∃ k : Nat, k ≤ n.arcs.length ∧ ρ 8 = .op j8 0 0 ∧ ρ 10 = .op j10 0 0 ∧ ρ 18 = .sl (n.arcs.map encArc) ∧ ρ 19 = int n.arcs.length ∧ ρ 20 = int k ∧ H j8 = some (⟨139, 6, [encArc zeroArc]⟩ : Row) ∧ H j10 = some (⟨285, 3, [[int f, int t, int p]]⟩ : Row) ∧ ∀ a ∈ n.arcs.take k, arcIs p f t a = false, fun ρ _ => n.arcs.length - natOf (ρ 20), ⟨0, Nat.zero_le _, rfl, rfl, rfl, rfl, rfl, R8, R10, by simp⟩, ?_⟩
  clear R8 R10
  rintro ρ H ⟨k, hk, h8, h10, h18, h19, h20, R8, R10, hz⟩
  simp only [go_sem, h8, h10, h18, h19, h20]
  refine acond_i (fun hlt => ?_) (fun hge => ?_)
  · have hlt := le_of_lt_b hlt
    obtain ⟨a, hak⟩ := getIn hlt
    have b1 := inB hlt
    simp only [go_sem, h8, h10, h18, h19, h20, getD_map hak, b1]
    refine anew_i fun i12 hi120 => ?_
    have ne_j8_i12 : j8 ≠ i12 := ne_new R8 hi120
    have ne_j10_i12 : j10 ≠ i12 := ne_new R10 hi120
    simp only [go_sem, h8, h10, h18, h19, h20, R8, R10]
    refine wputE_n (updH_same _ _ _) (by simp [encArc_len]) ?_
    generalize hGi12 : updH (updH _ i12 _) i12 _ = HGi12
    replace R8 := (congrFun hGi12.symm j8).trans ((updH_ne _ _ _ _ ne_j8_i12).trans ((updH_ne _ _ _ _ ne_j8_i12).trans R8))
    replace R10 := (congrFun hGi12.symm j10).trans ((updH_ne _ _ _ _ ne_j10_i12).trans ((updH_ne _ _ _ _ ne_j10_i12).trans R10))
    have R12 : HGi12 i12 = some (⟨139, 6, [encArc a]⟩) := by rw [← hGi12, updH_same]; rfl
    clear hGi12 hi120
    simp only [go_sem, h8, h10, h18, h19, h20, R12, R8, R10]
    refine adraw_p [i12] [(0, true), (1, true), (2, false), (3, false)] (by simp [R12]) (by kernel_rfl) fun Hp Hr hp hr _ hr0 => ?_
    have P12 := (hp i12 (by simp)).trans R12
    have P10 := (hr j10 (by simp [ne_j10_i12])).trans R10
    simp only [go_sem, h8, h10, h18, h19, h20, P12, P10]
    refine ⟨_, (wayOf_c a).q rfl, ?_⟩
    simp only [go_sem, h8, h10, h18, h19, h20, P12, P10, wayCells]
    refine pinEnd_i fun _ Hm hm1 hm2 => ?_
    have M8 : Hm j8 = some (⟨139, 6, [encArc zeroArc]⟩ : Row) := by
      have n1 : j8 ∉ [i12] := by simp [ne_j8_i12]
      rw [hm2 j8 n1]; exact (hr j8 n1).trans R8
    have M12 := (hm1 i12 (by simp)).trans R12
    have M10 : Hm j10 = _ := (hm2 j10 (by simp [ne_j10_i12])).trans P10
    simp only [go_sem, h8, h10, h18, h19, h20, M8, M10, M12]
    have ea : (a.src == f && (a.dst == t && (a.profile == p && true))) = arcIs p f t a := by unfold arcIs; rw [Bool.and_true, Bool.and_assoc]
    rw [ea]
    refine acond_i (fun hb => ?_) (fun hb => ?_)
    · simp only [go_sem, h8, M12]
      refine wputE_n M8 (by simp [encArc_len]) ?_
      simp only [go_sem, h8, encArc_len]
      have : find09 n p f t = some a := find_hit hz hak hb
      rw [this]
      exact .refl _
    · simp only [go_sem, h8, h10, h18, h19, h20, wrapS (show k ≤ 4611686018427387904 by omega)]
      exact ⟨⟨k + 1, hlt, rfl, M8, M10, take_allP (p := fun a => arcIs p f t a = false) hak hb hz⟩, by simp only [natOf_int]; omega⟩
  · have hge := eq_of_ge_b hk hge
    subst hge
    rw [List.take_length] at hz
    simp only [go_sem, h8]
    refine wputE_n R8 (by simp) ?_
    simp only [go_sem, h8]
    have : find09 n p f t = none := find_miss hz
    rw [this]
    exact .refl _
theorem nGo_c (n : Network) (p f t time : Int) (hn : NetOk n) : PC Tryz.prog 151 [.agg (encNetwork n), int p, int f, int t, int time] (.tup [int (go09 n p f t time).1, int (go09 n p f t time).2.1, int (go09 n p f t time).2.2]) := by
  refine PC.body (c := Tryz.f151.body.getD .skip) (fun _ => false) mixed Tryz.func151 rfl (by kernel_rfl) ?_
  unfold Tryz.f151
  simp only [Option.getD_some]
  simp only [go_sem]
  refine PC.use (nplace_c n f) ?_
  simp only [go_sem]
  refine ⟨_, fun _ => (nplace_c n t).q rfl, ?_⟩
  simp only [go_sem]
  refine acond_i (fun h1 => ?_) (fun h1 => ?_)
  · simp only [go_sem]
    have : go09 n p f t time = (0, 0, 11) := by unfold go09; rw [if_pos h1]
    rw [this]; exact .refl _
  simp only [go_sem]
  refine acond_i (fun h2 => ?_) (fun h2 => ?_)
  · simp only [go_sem]
    have : go09 n p f t time = (time, 0, 0) := by unfold go09; rw [if_neg (by rw [h1]; simp), if_pos h2]
    rw [this]; exact .refl _
  have hg : go09 n p f t time = match find09 n p f t with | some a => (arrive09 a time, a.miles, 0) | none => (0, 0, 12) := by unfold go09; rw [if_neg (by rw [h1]; simp), if_neg (by rw [h2]; simp)]; rfl
  rw [hg]
  simp only [go_sem]
  refine PC.use (nfind_c n p f t hn.arcs) ?_
  simp only [go_sem]
  refine anew_i fun j13 hj130 => ?_
  simp only [go_sem]
  refine wputE_n (updH_same _ _ _) (by simp [encArc_len]) ?_
  generalize hGj13 : updH (updH _ j13 _) j13 _ = HGj13
  have R13 : HGj13 j13 = some (⟨139, 6, [encArc ((find09 n p f t).getD zeroArc)]⟩) := by rw [← hGj13, updH_same]; rfl
  clear hGj13 hj130
  simp only [go_sem, R13]
  cases hf : find09 n p f t with
  | none =>
    refine acond_i (fun _ => ?_) (fun hb => by simp at hb)
    simp only [go_sem]
    exact .refl _
  | some a =>
    have ham := List.mem_of_find?_eq_some hf
    refine acond_i (fun hb => by simp at hb) (fun _ => ?_)
    rw [hf] at R13
    simp only [go_sem, Option.getD_some, encArc_len]
    refine adraw_q (by rfl) (by kernel_rfl) ?_
    simp only [go_sem, Option.getD_some, R13, encArc_len]
    refine ⟨_, (narrival_c a time (hn.travel a ham) (hn.slow a ham)).q rfl, ?_⟩
    simp only [go_sem, Option.getD_some, R13, encArc_len]
    exact .refl _
theorem begin_c (s : Stop) (a : Int) : PC Tryz.prog 195 [.agg (encStop s), int a] (.tup [int (if imax a s.start > s.close then 0 else imax a s.start), int (if imax a s.start > s.close then 14 else 0)]) := by
  refine PC.body (c := Tryz.f195.body.getD .skip) (fun _ => false) mixed Tryz.func195 rfl (by kernel_rfl) ?_
  unfold Tryz.f195
  simp only [Option.getD_some]
  simp only [go_sem]
  refine acond_i (fun hb => ?_) (fun hb => ?_)
  · have hb : imax a s.start > s.close := by simpa using hb
    simp only [go_sem]
    rw [if_pos hb, if_pos hb]
    exact .refl _
  · have hb : ¬ imax a s.start > s.close := by simpa using hb
    simp only [go_sem]
    rw [if_neg hb, if_neg hb]
    exact .refl _
end Go.Proofs.YtdlijlecpopadaaGreatDoor.Sq
