/- Texts joined by a program: AwLib, NuA, NuB, NuC, NuG. -/
import Derived.Lib.ItoaMem
import Derived.Test.YtdlijlecpopadaaGreatDoorZx11

section
set_option linter.unusedSimpArgs false
set_option linter.unusedVariables false
namespace Go.Aw
open Go.RowKit
section
variable {P : Program} {S : Sg} {w : World} {H : Heap} {f : FuncId} {args args' : List AV} {K : AV → Heap → Prop}
theorem St.frz (hS : St S w H) (l : List Nat) : St (S.froze fun k => if k ∈ l then H k else none) w (fun k => if k ∈ l then none else H k) ∧ Grow S w (S.froze fun k => if k ∈ l then H k else none) w ∧ St S w fun k => if k ∈ l then H k else none := by
  let Hf : Heap := fun k => if k ∈ l then H k else none
  let Hr : Heap := fun k => if k ∈ l then none else H k
  have hf : ∀ k r', Hf k = some r' → k ∈ l ∧ H k = some r' := fun k r' hk => by
    by_cases e : k ∈ l
    · exact ⟨e, by simpa [Hf, e] using hk⟩
    · simp [Hf, e] at hk
  have hrr : ∀ k r', Hr k = some r' → ¬ k ∈ l ∧ H k = some r' := fun k r' hk => by
    by_cases e : k ∈ l
    · simp [Hr, e] at hk
    · exact ⟨e, by simpa [Hr, e] using hk⟩
  refine ⟨⟨?_, ?_, fun k r' hk => (hS.rows k r' (hrr k r' hk).2).keep (S.le_froze Hf) (Kept.refl S w) (fun _ _ => rfl), ?_, fun k k' r1 r2 hk hk' hne g hg hg' => hS.disj k k' r1 r2 (hrr k r1 hk).2 (hrr k' r2 hk').2 hne g hg hg', hS.tabs.keep (S.le_froze Hf) (Kept.refl S w)⟩, ⟨S.le_froze Hf, fun k hk => .inl hk, rfl, rfl, rfl, Nat.le_refl _, fun _ _ => rfl, ?_⟩, hS.drop fun k r' hk => (hf k r' hk).2⟩
  · rintro g (hg | hg)
    · exact .inl (hS.ro_fz g hg)
    · exact .inr hg
  · rintro g (hg | ⟨k, r', hk, hg⟩)
    · exact hS.fz_lt g hg
    · exact (hS.rows k r' (hf k r' hk).2).block_lt hg
  · rintro k r' hk g hg (h1 | ⟨i, r2, hi, h2⟩)
    · exact hS.free k r' (hrr k r' hk).2 g hg h1
    · exact hS.disj k i r' r2 (hrr k r' hk).2 (hf i r2 hi).2 (fun e => (hrr k r' hk).1 (e ▸ (hf i r2 hi).1)) g hg h2
  · rintro g (hg | ⟨k, r', hk, hg⟩)
    · exact .inl hg
    · exact .inr (hS.free k r' (hf k r' hk).2 g hg)
theorem FCalls.frz (l : List Nat) (hc : ConvL (fun k => if k ∈ l then H k else none) args args') (h : FCalls P f args' (fun k => if k ∈ l then none else H k) K) : FCalls P f args H K := by
  intro S w vals hS ha
  obtain ⟨h1, h2, h3⟩ := hS.frz l
  refine (h _ w vals h1 (hc.rep h3 ha)).mono fun e w' ⟨v, r, H', S', he, hr, hS', hv, hg, hn⟩ => ⟨v, r, H', S', he, hr, hS', hv, h2.trans hg, fun k hk h0 => hn k hk ?_⟩
  by_cases e : k ∈ l
  · simp [e]
  · simpa [e] using h0
theorem PC.useF {r : AV} (l : List Nat) (hc : ConvL (fun k => if k ∈ l then H k else none) args args') (h : PC P f args' r) (hK : K r (fun k => if k ∈ l then none else H k)) : FCalls P f args H K := FCalls.frz l hc (PC.use h hK)
theorem PC.lib {a : List Value} {r : AV} {v : Value} (hr : ∀ S w, rep S w r v) (h : ∀ w, (∀ t ∈ tabL, varCells w t.1 = some t.2) → Calls P f a.toArray w fun e w' => e = .returned v ∧ Below w.heap.size w w') : PC P f (a.map .v) r := by
  intro S w vals hS hf ha
  obtain rfl : vals = a := by
    clear h
    induction a generalizing vals with
    | nil =>
      cases vals with
      | nil => rfl
      | cons x r => simp [repL] at ha
    | cons x a ih =>
      simp only [List.map_cons, repL] at ha
      obtain ⟨u, t, rfl, h1, h2⟩ := ha
      simp only [rep] at h1
      subst h1
      rw [ih t h2]
  refine (h w fun t ht => (hS.tabs t ht).2).mono fun e w' ⟨he, hb⟩ => ?_
  exact ⟨v, r, noRows, S, he, rfl, hS.after hb.size fun k hk => hb.block k hk, hr S w', hS.grow hb.os hb.tape hb.output hb.size fun k hk => hb.block k hk, NewK.refl _ _⟩
end
end Go.Aw
end

section
set_option linter.unusedSimpArgs false
set_option linter.unusedVariables false
namespace Go.Nu
open Go Go.Lib
def ofL (b : Nat) : List Nat → Nat
  | [] => 0
  | x :: r => x + b * ofL b r
def Lim (b : Nat) (l : List Nat) : Prop := ∀ x ∈ l, x < b
def limbs (b : Nat) (n : Nat) : List Nat := if h : n = 0 ∨ b < 2 then [] else n % b :: limbs b (n / b)
termination_by n
decreasing_by exact Nat.div_lt_self (by omega) (by omega)
def trimL : List Nat → List Nat
  | [] => []
  | x :: r => match trimL r with
    | [] => if x = 0 then [] else [x]
    | y :: t => x :: y :: t
theorem ofL_append (b : Nat) : ∀ l r : List Nat, ofL b (l ++ r) = ofL b l + b ^ l.length * ofL b r
  | [], r => by simp [ofL]
  | x :: l, r => by
    simp only [List.cons_append, ofL, ofL_append b l r, List.length_cons, Nat.pow_succ, Nat.mul_add, Nat.add_assoc]
    rw [Nat.mul_comm (b ^ l.length) b, Nat.mul_assoc]
theorem ofL_snoc (b : Nat) (l : List Nat) (x : Nat) : ofL b (l ++ [x]) = ofL b l + b ^ l.length * x := by rw [ofL_append]; simp [ofL]
theorem ofL_lt {b : Nat} (hb : 0 < b) : ∀ {l : List Nat}, Lim b l → ofL b l < b ^ l.length
  | [], _ => by simp [ofL]
  | x :: l, h => by
    have h1 := h x (by simp)
    have h2 := ofL_lt hb (l := l) fun y hy => h y (by simp [hy])
    simp only [ofL, List.length_cons, Nat.pow_succ]
    have : b * (ofL b l + 1) ≤ b * b ^ l.length := Nat.mul_le_mul_left _ h2
    rw [Nat.mul_add] at this
    rw [Nat.mul_comm (b ^ l.length) b]
    omega
theorem ofL_take_succ (b : Nat) {l : List Nat} {k x : Nat} (h : l[k]? = some x) : ofL b (l.take (k + 1)) = ofL b (l.take k) + b ^ k * x := by
  rw [List.take_add_one, h]
  simp only [Option.toList]
  rw [ofL_snoc, List.length_take, Nat.min_eq_left (Nat.le_of_lt (List.getElem?_eq_some_iff.1 h).1)]
theorem ofL_set (b : Nat) : ∀ (l : List Nat) (k x v : Nat), l[k]? = some x → ofL b (l.set k v) + b ^ k * x = ofL b l + b ^ k * v
  | [], k, x, v, h => by simp at h
  | y :: l, 0, x, v, h => by
    simp only [List.getElem?_cons_zero, Option.some.injEq] at h
    subst h
    simp only [List.set_cons_zero, ofL, Nat.pow_zero, Nat.one_mul]
    omega
  | y :: l, k + 1, x, v, h => by
    have := ofL_set b l k x v (by simpa using h)
    have h2 : b * (ofL b (l.set k v) + b ^ k * x) = b * (ofL b l + b ^ k * v) := by rw [this]
    simp only [List.set_cons_succ, ofL, Nat.pow_succ]
    rw [Nat.mul_add, Nat.mul_add, ← Nat.mul_assoc, ← Nat.mul_assoc] at h2
    rw [Nat.mul_comm (b ^ k) b]
    omega
theorem ofL_zeros (b n : Nat) : ofL b (List.replicate n 0) = 0 := by
  induction n with
  | zero => rfl
  | succ n ih => simp [List.replicate_succ, ofL, ih]
theorem limbs_zero (b : Nat) : limbs b 0 = [] := by rw [limbs]; simp
theorem limbs_pos {b n : Nat} (hb : 2 ≤ b) (hn : n ≠ 0) : limbs b n = n % b :: limbs b (n / b) := by
  rw [limbs, dif_neg (by omega)]
theorem limbs_lim {b : Nat} (hb : 2 ≤ b) (n : Nat) : Lim b (limbs b n) := by
  induction n using Nat.strongRecOn with
  | _ n ih =>
    by_cases hn : n = 0
    · subst hn; rw [limbs_zero]; intro x hx; cases hx
    · rw [limbs_pos hb hn]
      intro x hx
      rcases List.mem_cons.1 hx with rfl | hx
      · exact Nat.mod_lt _ (by omega)
      · exact ih (n / b) (Nat.div_lt_self (by omega) (by omega)) x hx
theorem ofL_limbs {b : Nat} (hb : 2 ≤ b) (n : Nat) : ofL b (limbs b n) = n := by
  induction n using Nat.strongRecOn with
  | _ n ih =>
    by_cases hn : n = 0
    · subst hn; rw [limbs_zero]; rfl
    · rw [limbs_pos hb hn, ofL, ih (n / b) (Nat.div_lt_self (by omega) (by omega))]
      exact Nat.mod_add_div n b
theorem limbs_nil {b n : Nat} (hb : 2 ≤ b) : limbs b n = [] ↔ n = 0 := by
  constructor
  · intro h
    have := ofL_limbs hb n
    rw [h] at this
    exact this.symm
  · rintro rfl; exact limbs_zero b
theorem limbs_cons {b x m : Nat} (hb : 2 ≤ b) (hx : x < b) (h : x + b * m ≠ 0) : limbs b (x + b * m) = x :: limbs b m := by
  rw [limbs_pos hb h, Nat.add_mul_mod_self_left, Nat.mod_eq_of_lt hx, Nat.add_mul_div_left _ _ (by omega), Nat.div_eq_of_lt hx, Nat.zero_add]
theorem trim_limbs {b : Nat} (hb : 2 ≤ b) : ∀ {l : List Nat}, Lim b l → trimL l = limbs b (ofL b l)
  | [], _ => by rw [ofL, limbs_zero]; rfl
  | x :: l, h => by
    have ih := trim_limbs hb (l := l) fun y hy => h y (by simp [hy])
    have hx := h x (by simp)
    rw [trimL, ih]
    by_cases h0 : ofL b l = 0
    · simp only [ofL, h0, limbs_zero]
      by_cases hx0 : x = 0
      · subst hx0; simp [limbs_zero]
      · rw [if_neg hx0, limbs_cons hb hx (by omega), limbs_zero]
    · have hne : limbs b (ofL b l) ≠ [] := fun e => h0 ((limbs_nil hb).1 e)
      rw [ofL, limbs_cons hb hx (by have : 0 < b * ofL b l := Nat.mul_pos (by omega) (by omega); omega)]
      split
      · rename_i e; exact absurd e hne
      · rename_i e; rw [e]
theorem trim_of {b : Nat} (hb : 2 ≤ b) {l : List Nat} {n : Nat} (h : Lim b l) (hn : ofL b l = n) : trimL l = limbs b n := by rw [trim_limbs hb h, hn]
theorem limbs_len_le {b : Nat} (hb : 2 ≤ b) {n k : Nat} (h : n < b ^ k) : (limbs b n).length ≤ k := by
  induction k generalizing n with
  | zero => have : n = 0 := by simpa using h
            subst this; rw [limbs_zero]; exact Nat.le_refl _
  | succ k ih =>
    by_cases hn : n = 0
    · subst hn; rw [limbs_zero]; exact Nat.zero_le _
    · rw [limbs_pos hb hn, List.length_cons]
      refine Nat.succ_le_succ (ih ?_)
      rw [Nat.div_lt_iff_lt_mul (by omega)]
      rwa [Nat.pow_succ] at h
theorem le_limbs_len {b : Nat} (hb : 2 ≤ b) {n k : Nat} (h : b ^ k ≤ n) : k < (limbs b n).length := by
  have h1 := ofL_lt (b := b) (by omega) (limbs_lim hb n)
  rw [ofL_limbs hb] at h1
  exact (Nat.pow_lt_pow_iff_right (by omega)).1 (Nat.lt_of_le_of_lt h h1)
theorem limbs_len_mono {b : Nat} (hb : 2 ≤ b) {m n : Nat} (h : m ≤ n) : (limbs b m).length ≤ (limbs b n).length := by
  refine limbs_len_le hb ?_
  have h1 := ofL_lt (b := b) (by omega) (limbs_lim hb n)
  rw [ofL_limbs hb] at h1
  omega
theorem limbs_last {b : Nat} (hb : 2 ≤ b) {n : Nat} (hn : n ≠ 0) : b ^ ((limbs b n).length - 1) ≤ n := by
  induction n using Nat.strongRecOn with
  | _ n ih =>
    rw [limbs_pos hb hn, List.length_cons, Nat.add_sub_cancel]
    by_cases h0 : n / b = 0
    · rw [h0, limbs_zero]; simp; omega
    · have := ih (n / b) (Nat.div_lt_self (by omega) (by omega)) h0
      have hl : (limbs b (n / b)).length = ((limbs b (n / b)).length - 1) + 1 := by
        have : limbs b (n / b) ≠ [] := fun e => h0 ((limbs_nil hb).1 e)
        have := List.length_pos_iff.2 this
        omega
      rw [hl, Nat.pow_succ]
      exact Nat.le_trans (Nat.mul_le_mul_right b this) (Nat.div_mul_le_self n b)
theorem ofL_lt_of {b : Nat} (hb : 0 < b) {l r : List Nat} (hl : Lim b l) (hr : Lim b r) (hlen : l.length = r.length) {k x y : Nat} (hx : l[k]? = some x) (hy : r[k]? = some y) (hxy : x < y) (hd : l.drop (k + 1) = r.drop (k + 1)) : ofL b l < ofL b r := by
  have hk : k < l.length := (List.getElem?_eq_some_iff.1 hx).1
  have e1 : l = l.take (k + 1) ++ l.drop (k + 1) := (List.take_append_drop _ _).symm
  have e2 : r = r.take (k + 1) ++ r.drop (k + 1) := (List.take_append_drop _ _).symm
  rw [e1, e2, ofL_append, ofL_append, hd, ofL_take_succ b hx, ofL_take_succ b hy, List.length_take, List.length_take, Nat.min_eq_left (by omega), Nat.min_eq_left (by omega)]
  have h1 := ofL_lt hb (l := l.take k) fun z hz => hl z (List.mem_of_mem_take hz)
  rw [List.length_take, Nat.min_eq_left (by omega)] at h1
  have h2 : b ^ k * (x + 1) ≤ b ^ k * y := Nat.mul_le_mul_left _ hxy
  rw [Nat.mul_add] at h2
  omega
theorem lt_of_len {b : Nat} (hb : 2 ≤ b) {m n : Nat} (h : (limbs b m).length < (limbs b n).length) : m < n := by
  rcases Nat.lt_or_ge m n with h1 | h1
  · exact h1
  · have := limbs_len_mono hb h1; omega
theorem snocInd {α : Type} {p : List α → Prop} (h0 : p []) (h1 : ∀ l c, p l → p (l ++ [c])) (l : List α) : p l := by
  have : ∀ r : List α, p r.reverse := fun r => by
    induction r with
    | nil => exact h0
    | cons c r ih => rw [List.reverse_cons]; exact h1 _ _ ih
  rw [← List.reverse_reverse l]
  exact this _
def isD (c : UInt8) : Bool := decide (48 ≤ c.toNat) && decide (c.toNat ≤ 57)
def valL (l : List UInt8) : Nat := l.foldl (fun a c => 10 * a + (c.toNat - 48)) 0
def rightL (l : List UInt8) : Bool := l != [] && (l.length == 1 || l.getD 0 0 != 48) && l.all isD
def dec (n : Nat) : ByteArray := ⟨(decDigits n).toArray⟩
theorem valL_snoc (l : List UInt8) (c : UInt8) : valL (l ++ [c]) = 10 * valL l + (c.toNat - 48) := by simp [valL]
theorem getD_left {α : Type} {l r : List α} {k : Nat} {d : α} (h : k < l.length) : (l ++ r).getD k d = l.getD k d := by
  simp only [List.getD, List.getElem?_append_left h]
theorem digit_nat {d : Nat} (h : d < 10) : (UInt8.ofNat (48 + d)).toNat = 48 + d := by
  rw [UInt8.toNat_ofNat']
  omega
theorem valL_dec (n : Nat) : valL (decDigits n) = n := by
  induction n using Nat.strongRecOn with
  | _ n ih =>
    rw [decDigits]
    split
    · rename_i h
      simp only [valL, List.foldl_cons, List.foldl_nil, digit_nat h]
      omega
    · rename_i h
      rw [valL_snoc, ih (n / 10) (by omega), digit_nat (by omega)]
      omega
theorem dec_all (n : Nat) : (decDigits n).all isD = true := by
  induction n using Nat.strongRecOn with
  | _ n ih =>
    rw [decDigits]
    split
    · rename_i h
      simp only [List.all_cons, List.all_nil, Bool.and_true, isD, digit_nat h, Bool.and_eq_true, decide_eq_true_eq]
      omega
    · rename_i h
      rw [List.all_append, ih (n / 10) (by omega)]
      simp only [List.all_cons, List.all_nil, Bool.and_true, Bool.true_and, isD, digit_nat (show n % 10 < 10 by omega), Bool.and_eq_true, decide_eq_true_eq]
      omega
theorem dec_ne (n : Nat) : decDigits n ≠ [] := by
  rw [decDigits]
  split <;> simp
theorem dec_len_pos (n : Nat) : 0 < (decDigits n).length := List.length_pos_iff.2 (dec_ne n)
theorem dec_head {n : Nat} (h : n ≠ 0) : (decDigits n).getD 0 0 ≠ 48 := by
  induction n using Nat.strongRecOn with
  | _ n ih =>
    rw [decDigits]
    split
    · rename_i h1
      simp only [List.getD_cons_zero]
      intro e
      have := digit_nat h1
      rw [e] at this
      simp at this
      omega
    · rename_i h1
      have h2 := ih (n / 10) (by omega) (by omega)
      have h3 := dec_len_pos (n / 10)
      rw [getD_left h3]
      exact h2
theorem dec_len_one {n : Nat} : (decDigits n).length = 1 ↔ n < 10 := by
  rw [decDigits]
  split
  · simp_all
  · rename_i h
    have := dec_len_pos (n / 10)
    simp only [List.length_append, List.length_cons, List.length_nil]
    omega
theorem right_dec (n : Nat) : rightL (decDigits n) = true := by
  unfold rightL
  simp only [Bool.and_eq_true, bne_iff_ne, ne_eq, Bool.or_eq_true, beq_iff_eq]
  refine ⟨⟨dec_ne n, ?_⟩, dec_all n⟩
  by_cases h : n = 0
  · left; rw [dec_len_one]; omega
  · right; exact dec_head h
theorem isD_iff {c : UInt8} : isD c = true ↔ 48 ≤ c.toNat ∧ c.toNat ≤ 57 := by simp [isD]
theorem isD_of {c : UInt8} (h : isD c = true) : UInt8.ofNat (48 + (c.toNat - 48)) = c := by
  rw [isD_iff] at h
  rw [show 48 + (c.toNat - 48) = c.toNat by omega]
  exact UInt8.ofNat_toNat
theorem valL_pos : ∀ {l : List UInt8}, l.all isD = true → l ≠ [] → l.getD 0 0 ≠ 48 → 10 ^ (l.length - 1) ≤ valL l := by
  intro l
  induction l using snocInd with
  | h0 => intro _ h; exact absurd rfl h
  | h1 l c ih =>
    intro ha _ h0
    rw [List.all_append] at ha
    simp only [Bool.and_eq_true, List.all_cons, List.all_nil, Bool.and_true] at ha
    rw [valL_snoc]
    by_cases hl : l = []
    · subst hl
      simp only [List.nil_append, List.getD_cons_zero] at h0
      simp only [List.nil_append, List.length_cons, List.length_nil, Nat.zero_add, Nat.sub_self, Nat.pow_zero]
      have := isD_iff.1 ha.2
      have h1 : c.toNat ≠ 48 := fun e => h0 (UInt8.toNat.inj e)
      omega
    · have hp := List.length_pos_iff.2 hl
      rw [getD_left hp] at h0
      have := ih ha.1 hl h0
      simp only [List.length_append, List.length_cons, List.length_nil, Nat.zero_add, Nat.add_sub_cancel]
      rw [show l.length = (l.length - 1) + 1 by omega, Nat.pow_succ]
      omega
theorem dec_of_right : ∀ {l : List UInt8}, rightL l = true → decDigits (valL l) = l := by
  intro l
  induction l using snocInd with
  | h0 => intro h; simp [rightL] at h
  | h1 l c ih =>
    intro h
    unfold rightL at h
    simp only [Bool.and_eq_true, bne_iff_ne, ne_eq, Bool.or_eq_true, beq_iff_eq, List.all_append, List.all_cons, List.all_nil, Bool.and_true] at h
    obtain ⟨⟨_, h1⟩, h2, h3⟩ := h
    have hc := isD_iff.1 h3
    by_cases hl : l = []
    · subst hl
      rw [List.nil_append]
      rw [show valL [c] = c.toNat - 48 by simp [valL], decDigits_one (by omega), isD_of h3]
    · have hp := List.length_pos_iff.2 hl
      have h0 : l.getD 0 0 ≠ 48 := by
        rcases h1 with h1 | h1
        · simp only [List.length_append, List.length_cons, List.length_nil] at h1; omega
        · rwa [getD_left hp] at h1
      have hv := valL_pos h2 hl h0
      have hv1 : 1 ≤ valL l := Nat.le_trans (Nat.one_le_pow _ _ (by omega)) hv
      rw [valL_snoc, decDigits, dif_neg (by omega)]
      rw [show (10 * valL l + (c.toNat - 48)) / 10 = valL l by omega, show (10 * valL l + (c.toNat - 48)) % 10 = c.toNat - 48 by omega, isD_of h3, ih]
      unfold rightL
      simp only [Bool.and_eq_true, bne_iff_ne, ne_eq, Bool.or_eq_true, beq_iff_eq]
      exact ⟨⟨hl, .inr h0⟩, h2⟩
theorem dec_len_le {n k : Nat} (hk : 1 ≤ k) : (decDigits n).length ≤ k ↔ n < 10 ^ k := by
  rw [decDigits_length]
  constructor
  · intro h
    exact Nat.lt_of_lt_of_le (lt_pow_nDigits n) (Nat.pow_le_pow_right (by omega) h)
  · intro h
    by_cases h0 : n < 10
    · rw [nDigits_small h0]; exact hk
    · induction k generalizing n with
      | zero => omega
      | succ k ih =>
        by_cases hk0 : k = 0
        · subst hk0; simp at h; omega
        · rw [nDigits_big h0]
          rw [Nat.pow_succ] at h
          have := Nat.succ_le_succ (show nDigits (n / 10) ≤ k from by
            by_cases h9 : n / 10 < 10
            · rw [nDigits_small h9]; omega
            · exact ih (by omega) (by omega) h9)
          exact this
end Go.Nu
end

section
set_option linter.unusedSimpArgs false
set_option linter.unusedVariables false
namespace Go.Nu
open Go Go.Lib
def bl (s : ByteArray) : List UInt8 := s.data.toList
theorem bl_ext {a b : ByteArray} (h : bl a = bl b) : a = b := by
  cases a; cases b
  simp only [bl] at h
  rw [Array.toList_inj.1 h]
theorem bl_size (s : ByteArray) : (bl s).length = s.size := by unfold bl; rw [Array.length_toList]; rfl
def eqB (a b : ByteArray) : Bool := bl a == bl b
theorem eqB_iff {a b : ByteArray} : eqB a b = true ↔ a = b := by
  unfold eqB
  rw [beq_iff_eq]
  exact ⟨bl_ext, fun h => by rw [h]⟩
theorem eqB_no {a b : ByteArray} : eqB a b = false ↔ a ≠ b := by rw [← Bool.not_eq_true, eqB_iff]
theorem bl_mk (l : List UInt8) : bl ⟨l.toArray⟩ = l := by simp [bl]
theorem bl_append (a b : ByteArray) : bl (a ++ b) = bl a ++ bl b := by unfold bl; rw [ByteArray.data_append, Array.toList_append]
theorem mk_bl (s : ByteArray) : (⟨(bl s).toArray⟩ : ByteArray) = s := bl_ext (bl_mk _)
def emp : ByteArray := ByteArray.empty
theorem bl_extract (s : ByteArray) (a b : Nat) : bl (s.extract a b) = ((bl s).take b).drop a := by
  simp [bl, ByteArray.data_extract, Array.toList_extract, List.extract_eq_take_drop, List.drop_take]
def maxD : Nat := 4096
def maxN : Nat := 10 ^ maxD
theorem lt_max {n k : Nat} (h : n < 10 ^ k) (hk : k ≤ 4096) : n < maxN := Nat.lt_of_lt_of_le h (Nat.pow_le_pow_right (show 0 < 10 by omega) (show k ≤ maxD from hk))
theorem max_pos : 0 < maxN := Nat.pow_pos (show 0 < 10 by omega)
def rightN (s : ByteArray) : Bool := rightL (bl s)
def valN (s : ByteArray) : Nat := valL (bl s)
theorem bl_dec (n : Nat) : bl (dec n) = decDigits n := bl_mk _
theorem rightN_dec (n : Nat) : rightN (dec n) = true := by unfold rightN; rw [bl_dec]; exact right_dec n
theorem valN_dec (n : Nat) : valN (dec n) = n := by unfold valN; rw [bl_dec]; exact valL_dec n
theorem dec_valN {s : ByteArray} (h : rightN s = true) : dec (valN s) = s := bl_ext (by rw [bl_dec]; exact dec_of_right h)
theorem size_dec (n : Nat) : (dec n).size = (decDigits n).length := by rw [← bl_size, bl_dec]
theorem size_max (n : Nat) : (dec n).size ≤ 4096 ↔ n < maxN := by rw [size_dec]; exact dec_len_le (k := maxD) (by decide)
theorem right_size {s : ByteArray} (h : rightN s = true) : s.size ≤ 4096 ↔ valN s < maxN := by
  have := size_max (valN s)
  rwa [dec_valN h] at this
theorem dec_eq {m n : Nat} : dec m = dec n ↔ m = n := ⟨fun h => by rw [← valN_dec m, h, valN_dec], fun h => by rw [h]⟩
def szN (n : Nat) : ByteArray × Int := if n < maxN then (dec n, 0) else (emp, 4)
def errN (a b : ByteArray) : Int := if (!rightN a || !rightN b) = true then 3 else if (decide (a.size > 4096) || decide (b.size > 4096)) = true then 4 else 0
def addN (a b : ByteArray) : ByteArray × Int := if errN a b = 0 then szN (valN a + valN b) else (emp, errN a b)
def subN (a b : ByteArray) : ByteArray × Int := if errN a b = 0 then (if valN a < valN b then (emp, 2) else szN (valN a - valN b)) else (emp, errN a b)
def mulN (a b : ByteArray) : ByteArray × Int := if errN a b = 0 then szN (valN a * valN b) else (emp, errN a b)
def divN (a b : ByteArray) : ByteArray × ByteArray × Int := if errN a b = 0 then (if valN b = 0 then (emp, emp, 10) else (dec (valN a / valN b), dec (valN a % valN b), 0)) else (emp, emp, errN a b)
def gcdN (a b : ByteArray) : ByteArray × Int := if errN a b = 0 then szN (Nat.gcd (valN a) (valN b)) else (emp, errN a b)
theorem errN_ok {a b : ByteArray} (ha : rightN a = true) (hb : rightN b = true) (sa : a.size ≤ 4096) (sb : b.size ≤ 4096) : errN a b = 0 := by
  unfold errN
  rw [ha, hb]
  simp
  omega
theorem errN_dec {m n : Nat} (hm : m < maxN) (hn : n < maxN) : errN (dec m) (dec n) = 0 := errN_ok (rightN_dec m) (rightN_dec n) ((size_max m).2 hm) ((size_max n).2 hn)
theorem errN_zero {a b : ByteArray} (h : errN a b = 0) : ∃ m n, a = dec m ∧ b = dec n ∧ m < maxN ∧ n < maxN := by
  unfold errN at h
  split at h
  · cases h
  · rename_i h1
    split at h
    · cases h
    · rename_i h2
      simp only [Bool.or_eq_true, Bool.not_eq_true', not_or, Bool.not_eq_false, decide_eq_true_eq, Nat.not_lt] at h1 h2
      exact ⟨valN a, valN b, (dec_valN h1.1).symm, (dec_valN h1.2).symm, (right_size h1.1).1 h2.1, (right_size h1.2).1 h2.2⟩
theorem szN_ok {n : Nat} (h : n < maxN) : szN n = (dec n, 0) := if_pos h
def minusZ (s : ByteArray) : Bool := (bl s).head? == some 45
def digZ (s : ByteArray) : ByteArray := if minusZ s = true then ⟨((bl s).drop 1).toArray⟩ else s
def rightZ (s : ByteArray) : Bool := rightN (digZ s) && !(minusZ s && eqB (digZ s) (dec 0))
def valZ (s : ByteArray) : Int := if minusZ s = true then -(valN (digZ s) : Int) else valN (digZ s)
def zed (n : Int) : ByteArray := ⟨(itoa n).toArray⟩
theorem zed_nat (n : Nat) : zed n = dec n := by unfold zed; rw [itoa_nonneg]; rfl
theorem zed_neg {n : Nat} (h : 1 ≤ n) : zed (-(n : Int)) = ⟨((45 : UInt8) :: decDigits n).toArray⟩ := by unfold zed; rw [itoa_neg n h]
theorem dec_no_minus (n : Nat) : minusZ (dec n) = false := by
  unfold minusZ
  rw [bl_dec]
  have h1 := dec_all n
  have h2 := dec_ne n
  cases h : decDigits n with
  | nil => exact absurd h h2
  | cons c r =>
    rw [h] at h1
    simp only [List.all_cons, Bool.and_eq_true] at h1
    have := isD_iff.1 h1.1
    simp only [List.head?_cons, beq_eq_false_iff_ne, ne_eq, Option.some.injEq]
    intro e
    rw [e] at this
    simp at this
theorem digZ_dec (n : Nat) : digZ (dec n) = dec n := by unfold digZ; rw [dec_no_minus]; rfl
theorem minus_cons (l : List UInt8) : minusZ ⟨((45 : UInt8) :: l).toArray⟩ = true := by unfold minusZ; rw [bl_mk]; rfl
theorem digZ_cons (l : List UInt8) : digZ ⟨((45 : UInt8) :: l).toArray⟩ = ⟨l.toArray⟩ := by unfold digZ; rw [minus_cons, if_pos rfl, bl_mk]; rfl
theorem minusZ_zed (n : Int) : minusZ (zed n) = decide (n < 0) := by
  rcases Int.lt_or_le n 0 with h | h
  · obtain ⟨m, rfl⟩ : ∃ m : Nat, n = -(m : Int) := ⟨n.natAbs, by omega⟩
    rw [zed_neg (by omega), minus_cons]
    simp; omega
  · obtain ⟨m, rfl⟩ : ∃ m : Nat, n = m := ⟨n.toNat, by omega⟩
    rw [zed_nat, dec_no_minus]
    simp
theorem digZ_zed (n : Int) : digZ (zed n) = dec n.natAbs := by
  rcases Int.lt_or_le n 0 with h | h
  · obtain ⟨m, rfl⟩ : ∃ m : Nat, n = -(m : Int) := ⟨n.natAbs, by omega⟩
    rw [zed_neg (by omega), digZ_cons, Int.natAbs_neg, Int.natAbs_natCast]
    rfl
  · obtain ⟨m, rfl⟩ : ∃ m : Nat, n = m := ⟨n.toNat, by omega⟩
    rw [zed_nat, digZ_dec, Int.natAbs_natCast]
theorem rightZ_zed (n : Int) : rightZ (zed n) = true := by
  unfold rightZ
  rw [digZ_zed, minusZ_zed, rightN_dec]
  simp only [Bool.true_and, Bool.not_eq_true', Bool.and_eq_false_iff, decide_eq_false_iff_not]
  by_cases h : n < 0
  · right
    refine eqB_no.2 fun e => ?_
    rw [dec_eq] at e
    omega
  · left; exact h
theorem valZ_zed (n : Int) : valZ (zed n) = n := by
  unfold valZ
  rw [digZ_zed, minusZ_zed, valN_dec]
  split
  · rename_i h; simp only [decide_eq_true_eq] at h; omega
  · rename_i h; simp only [decide_eq_true_eq] at h; omega
theorem zed_valZ {s : ByteArray} (h : rightZ s = true) : zed (valZ s) = s := by
  unfold rightZ at h
  simp only [Bool.and_eq_true, Bool.not_eq_true', Bool.and_eq_false_iff] at h
  obtain ⟨h1, h2⟩ := h
  have hd := dec_valN h1
  unfold valZ
  by_cases hm : minusZ s = true
  · have h3 : digZ s ≠ dec 0 := by
      rcases h2 with h2 | h2
      · rw [hm] at h2; cases h2
      · exact eqB_no.1 h2
    rw [if_pos hm]
    have hv : 1 ≤ valN (digZ s) := by
      rcases Nat.eq_zero_or_pos (valN (digZ s)) with h4 | h4
      · exact absurd (by rw [← hd, h4]) h3
      · exact h4
    rw [zed_neg hv]
    refine bl_ext ?_
    rw [bl_mk, ← bl_dec, hd]
    unfold digZ
    rw [if_pos hm, bl_mk]
    unfold minusZ at hm
    cases hb : bl s with
    | nil => rw [hb] at hm; cases hm
    | cons c r =>
      rw [hb] at hm
      simp only [List.head?_cons, beq_iff_eq, Option.some.injEq] at hm
      subst hm
      rfl
  · rw [if_neg hm, zed_nat, hd]
    unfold digZ
    rw [if_neg hm]
theorem zed_eq {m n : Int} : zed m = zed n ↔ m = n := ⟨fun h => by rw [← valZ_zed m, h, valZ_zed], fun h => by rw [h]⟩
def szZ (n : Int) : ByteArray × Int := if n.natAbs < maxN then (zed n, 0) else (emp, 4)
def errZ (a b : ByteArray) : Int := if (!rightZ a || !rightZ b) = true then 3 else if (decide ((digZ a).size > 4096) || decide ((digZ b).size > 4096)) = true then 4 else 0
def addZ (a b : ByteArray) : ByteArray × Int := if errZ a b = 0 then szZ (valZ a + valZ b) else (emp, errZ a b)
def subZ (a b : ByteArray) : ByteArray × Int := if errZ a b = 0 then szZ (valZ a - valZ b) else (emp, errZ a b)
def mulZ (a b : ByteArray) : ByteArray × Int := if errZ a b = 0 then szZ (valZ a * valZ b) else (emp, errZ a b)
def divZ (a b : ByteArray) : ByteArray × ByteArray × Int := if errZ a b = 0 then (if valZ b = 0 then (emp, emp, 10) else (zed ((valZ a).fdiv (valZ b)), zed ((valZ a).fmod (valZ b)), 0)) else (emp, emp, errZ a b)
def cmpI (a b : Int) : Int := if a < b then -1 else if b < a then 1 else 0
def cmpZ (a b : ByteArray) : Int := if rightZ a = true ∧ rightZ b = true then cmpI (valZ a) (valZ b) else 0
theorem errZ_zed {m n : Int} (hm : m.natAbs < maxN) (hn : n.natAbs < maxN) : errZ (zed m) (zed n) = 0 := by
  unfold errZ
  rw [rightZ_zed, rightZ_zed, digZ_zed, digZ_zed]
  have := (size_max m.natAbs).2 hm
  have := (size_max n.natAbs).2 hn
  simp
  omega
theorem errZ_zero {a b : ByteArray} (h : errZ a b = 0) : ∃ m n : Int, a = zed m ∧ b = zed n ∧ m.natAbs < maxN ∧ n.natAbs < maxN := by
  unfold errZ at h
  split at h
  · cases h
  · rename_i h1
    split at h
    · cases h
    · rename_i h2
      simp only [Bool.or_eq_true, Bool.not_eq_true', not_or, Bool.not_eq_false, decide_eq_true_eq, Nat.not_lt] at h1 h2
      have ea := zed_valZ h1.1
      have eb := zed_valZ h1.2
      refine ⟨valZ a, valZ b, ea.symm, eb.symm, ?_, ?_⟩
      · have := h2.1
        rw [← ea, digZ_zed] at this
        exact (size_max _).1 this
      · have := h2.2
        rw [← eb, digZ_zed] at this
        exact (size_max _).1 this
end Go.Nu
end

section
set_option linter.unusedSimpArgs false
set_option linter.unusedVariables false
namespace Go.Nu
open Go Go.Lib
def slash : UInt8 := 47
def hasSl (s : ByteArray) : Bool := (bl s).any (· == slash)
def numT (s : ByteArray) : ByteArray := ⟨((bl s).takeWhile (· != slash)).toArray⟩
def denT (s : ByteArray) : ByteArray := if hasSl s = true then ⟨(((bl s).dropWhile (· != slash)).drop 1).toArray⟩ else dec 1
def rightR (s : ByteArray) : Bool := (rightZ (numT s) && rightN (denT s) && decide ((digZ (numT s)).size ≤ 4096) && decide ((denT s).size ≤ 4096)) &&
  (!hasSl s || (!eqB (denT s) (dec 0) && !eqB (denT s) (dec 1) && !eqB (numT s) (dec 0) && Nat.gcd (valZ (numT s)).natAbs (valN (denT s)) == 1))
def valR (s : ByteArray) : Rat := mkRat (valZ (numT s)) (valN (denT s))
def slB : ByteArray := ⟨#[47]⟩
def ratS (x : Rat) : ByteArray := if x.den = 1 then zed x.num else zed x.num ++ slB ++ dec x.den
def SmallR (x : Rat) : Prop := x.num.natAbs < maxN ∧ x.den < maxN
theorem takeW_self {α : Type} {p : α → Bool} : ∀ {l : List α}, (∀ c ∈ l, p c = true) → l.takeWhile p = l
  | [], _ => rfl
  | a :: l, h => by rw [List.takeWhile_cons, if_pos (h a (by simp)), takeW_self fun c hc => h c (by simp [hc])]
theorem takeW_mem {α : Type} {p : α → Bool} : ∀ {l : List α} {c : α}, c ∈ l.takeWhile p → p c = true
  | [], c, h => by simp at h
  | a :: l, c, h => by
    rw [List.takeWhile_cons] at h
    split at h
    · rename_i ha
      rcases List.mem_cons.1 h with rfl | h
      · exact ha
      · exact takeW_mem h
    · cases h
theorem slash_digit {c : UInt8} (h : isD c = true) : (c != slash) = true := by
  have := isD_iff.1 h
  simp only [bne_iff_ne, ne_eq]
  intro e
  rw [e] at this
  simp [slash] at this
theorem dec_noslash (n : Nat) : ∀ c ∈ decDigits n, (c != slash) = true := fun c hc => slash_digit (List.all_eq_true.1 (dec_all n) c hc)
theorem itoa_noslash (n : Int) : ∀ c ∈ itoa n, (c != slash) = true := by
  intro c hc
  unfold itoa at hc
  split at hc
  · rcases List.mem_cons.1 hc with rfl | hc
    · decide
    · exact dec_noslash _ c hc
  · exact dec_noslash _ c hc
theorem bl_zed (n : Int) : bl (zed n) = itoa n := bl_mk _
theorem bl_slB : bl slB = [slash] := rfl
theorem takeW_all {l r : List UInt8} (h : ∀ c ∈ l, (c != slash) = true) : (l ++ slash :: r).takeWhile (· != slash) = l := by
  rw [List.takeWhile_append_of_pos h]
  simp
theorem dropW_all {l r : List UInt8} (h : ∀ c ∈ l, (c != slash) = true) : (l ++ slash :: r).dropWhile (· != slash) = slash :: r := by
  rw [List.dropWhile_append_of_pos h]
  simp
theorem any_no {l : List UInt8} (h : ∀ c ∈ l, (c != slash) = true) : l.any (· == slash) = false := by
  rw [List.any_eq_false]
  intro c hc e
  have := h c hc
  simp at this e
  exact this e
theorem bl_ratS (x : Rat) : bl (ratS x) = if x.den = 1 then itoa x.num else itoa x.num ++ slash :: decDigits x.den := by
  unfold ratS
  split
  · exact bl_zed _
  · rw [bl_append, bl_append, bl_zed, bl_dec, bl_slB]; simp
theorem hasSl_ratS (x : Rat) : hasSl (ratS x) = !(x.den == 1) := by
  unfold hasSl
  rw [bl_ratS]
  split
  · rename_i h; rw [any_no (itoa_noslash _), h]; rfl
  · rename_i h
    rw [List.any_append]
    simp [h]
theorem numT_ratS (x : Rat) : numT (ratS x) = zed x.num := by
  refine bl_ext ?_
  unfold numT
  rw [bl_mk, bl_ratS, bl_zed]
  split
  · exact takeW_self (itoa_noslash _)
  · exact takeW_all (itoa_noslash _)
theorem denT_ratS (x : Rat) : denT (ratS x) = dec x.den := by
  unfold denT
  rw [hasSl_ratS, bl_ratS]
  by_cases h : x.den = 1
  · simp [h]
  · simp only [h, beq_eq_false_iff_ne.2 h, Bool.not_false, if_true, if_false]
    rw [dropW_all (itoa_noslash _)]
    rfl
theorem valR_ratS (x : Rat) : valR (ratS x) = x := by
  unfold valR
  rw [numT_ratS, denT_ratS, valZ_zed, valN_dec, Rat.mkRat_self]
theorem digZ_size (n : Int) : (digZ (zed n)).size ≤ 4096 ↔ n.natAbs < maxN := by rw [digZ_zed]; exact size_max _
theorem rightR_ratS {x : Rat} (h : SmallR x) : rightR (ratS x) = true := by
  unfold rightR
  rw [numT_ratS, denT_ratS, rightZ_zed, rightN_dec, hasSl_ratS, valZ_zed, valN_dec]
  simp only [Bool.true_and, Bool.and_eq_true, decide_eq_true_eq, Bool.or_eq_true, Bool.not_not, beq_iff_eq, Bool.not_eq_true', eqB_no, ne_eq]
  refine ⟨⟨(digZ_size _).2 h.1, (size_max _).2 h.2⟩, ?_⟩
  by_cases h1 : x.den = 1
  · exact .inl h1
  · refine .inr ⟨⟨⟨?_, ?_⟩, ?_⟩, x.reduced⟩
    · rw [dec_eq]; exact x.den_nz
    · rw [dec_eq]; exact h1
    · rw [← zed_nat, zed_eq]
      intro h0
      apply h1
      have := x.reduced
      rw [h0] at this
      simpa [Nat.Coprime] using this
theorem right_parts {s : ByteArray} (h : rightR s = true) : ∃ x : Rat, s = ratS x ∧ SmallR x ∧ numT s = zed x.num ∧ denT s = dec x.den := by
  unfold rightR at h
  simp only [Bool.and_eq_true, decide_eq_true_eq, Bool.or_eq_true, Bool.not_eq_true', eqB_no, ne_eq, beq_iff_eq] at h
  obtain ⟨⟨⟨⟨h1, h2⟩, h3⟩, h4⟩, h5⟩ := h
  have ep := zed_valZ h1
  have eq := dec_valN h2
  have hcop : (valZ (numT s)).natAbs.Coprime (valN (denT s)) ∧ valN (denT s) ≠ 0 := by
    rcases h5 with h5 | ⟨⟨⟨h6, _⟩, _⟩, h7⟩
    · have e1 : denT s = dec 1 := by unfold denT; rw [if_neg (by rw [h5]; simp)]
      rw [e1, valN_dec]
      exact ⟨Nat.coprime_one_right _, by omega⟩
    · exact ⟨h7, fun e => h6 (by rw [← eq, e])⟩
  let x : Rat := ⟨valZ (numT s), valN (denT s), hcop.2, hcop.1⟩
  have e1 : numT s = zed x.num := ep.symm
  have e2 : denT s = dec x.den := eq.symm
  refine ⟨x, bl_ext ?_, ⟨?_, ?_⟩, e1, e2⟩
  · rw [bl_ratS]
    have hn : bl (numT s) = (bl s).takeWhile (· != slash) := bl_mk _
    rw [e1, bl_zed] at hn
    by_cases hs : hasSl s = true
    · have hd : bl (denT s) = ((bl s).dropWhile (· != slash)).drop 1 := by unfold denT; rw [if_pos hs, bl_mk]
      rw [e2, bl_dec] at hd
      have hx : x.den ≠ 1 := fun e => by
        rcases h5 with h5 | ⟨⟨⟨_, h6⟩, _⟩, _⟩
        · rw [hs] at h5; cases h5
        · exact h6 (by rw [e2, e])
      rw [if_neg hx, hn, hd]
      conv => lhs; rw [← List.takeWhile_append_dropWhile (p := (· != slash)) (l := bl s)]
      congr 1
      cases hw : (bl s).dropWhile (· != slash) with
      | nil =>
        exfalso
        unfold hasSl at hs
        obtain ⟨c, hc, hcs⟩ := List.any_eq_true.1 hs
        rw [← List.takeWhile_append_dropWhile (p := (· != slash)) (l := bl s), hw, List.append_nil] at hc
        have := takeW_mem hc
        simp at this hcs
        exact this hcs
      | cons c r =>
        have h0 : (c != slash) = false := by
          have := List.head?_dropWhile_not (p := (· != slash)) (l := bl s)
          rw [hw] at this
          simpa using this
        have : c = slash := by simpa using h0
        rw [this]; rfl
    · have hs : hasSl s = false := by simpa using hs
      have hx : x.den = 1 := by
        have : denT s = dec 1 := by unfold denT; rw [hs]; rfl
        rw [e2] at this
        exact dec_eq.1 this
      rw [if_pos hx, hn]
      symm
      refine takeW_self ?_
      intro c hc
      unfold hasSl at hs
      rw [List.any_eq_false] at hs
      have := hs c hc
      simp at this ⊢
      exact this
  · rw [e1] at h3; exact (digZ_size _).1 h3
  · rw [e2] at h4; exact (size_max _).1 h4
def bigI (n : Int) : Bool := !decide (n.natAbs < maxN)
def sumR (x y : Rat) : ByteArray × Int := if (bigI (x.num * y.den) || bigI (y.num * x.den) || bigI (x.num * y.den + y.num * x.den) || bigI (x.den * y.den)) = true then (emp, 4) else (ratS (x + y), 0)
def addR (a b : ByteArray) : ByteArray × Int := if (rightR a && rightR b) = true then sumR (valR a) (valR b) else (emp, 3)
def subR (a b : ByteArray) : ByteArray × Int := if (rightR a && rightR b) = true then sumR (valR a) (-valR b) else (emp, 3)
def cmpQ (x y : Rat) : Int := if x < y then -1 else if y < x then 1 else 0
def cmpR (a b : ByteArray) : Int := if (rightR a && rightR b) = true then cmpQ (valR a) (valR b) else 0
end Go.Nu
end

section
set_option linter.unusedSimpArgs false
set_option linter.unusedVariables false
namespace Go.Nu
open Go Go.Lib
theorem low_num {n : Int} {d : Nat} (hd : d ≠ 0) : n.fdiv (Nat.gcd n.natAbs d : Nat) = (mkRat n d).num := by
  rw [Rat.num_mkRat, if_neg hd, Nat.gcd_comm]
  exact Int.fdiv_eq_ediv_of_nonneg _ (by omega)
theorem low_den {n : Int} {d : Nat} (hd : d ≠ 0) : (d : Int).fdiv (Nat.gcd n.natAbs d : Nat) = ((mkRat n d).den : Int) := by
  rw [Rat.den_mkRat, if_neg hd, Nat.gcd_comm, Int.fdiv_eq_ediv_of_nonneg _ (by omega)]
  rfl
theorem small_mk {n : Int} {d : Nat} (hd : d ≠ 0) (hn : n.natAbs < maxN) (hd2 : d < maxN) : SmallR (mkRat n d) := by
  constructor
  · rw [Rat.num_mkRat, if_neg hd]
    have : (n / ((d.gcd n.natAbs : Nat) : Int)).natAbs ≤ n.natAbs := by
      rw [Int.natAbs_ediv_of_dvd]
      · exact Nat.div_le_self _ _
      · exact Int.ofNat_dvd_left.2 (Nat.gcd_dvd_right _ _)
    omega
  · rw [Rat.den_mkRat, if_neg hd]
    exact Nat.lt_of_le_of_lt (Nat.div_le_self _ _) hd2
theorem gcd_pos {n : Int} {d : Nat} (hd : d ≠ 0) : 0 < Nat.gcd n.natAbs d := Nat.gcd_pos_of_pos_right _ (by omega)
theorem gcd_small {n : Int} {d : Nat} (hd : d ≠ 0) (h : d < maxN) : Nat.gcd n.natAbs d < maxN := Nat.lt_of_le_of_lt (Nat.gcd_le_right _ (by omega)) h
theorem bigI_iff {n : Int} : bigI n = false ↔ n.natAbs < maxN := by simp [bigI]
theorem add_mk (x y : Rat) : x + y = mkRat (x.num * y.den + y.num * x.den) (x.den * y.den) := Rat.add_def' x y
theorem den_abs (x y : Rat) : ((x.den : Int) * y.den).natAbs = x.den * y.den := by rw [Int.natAbs_mul, Int.natAbs_natCast, Int.natAbs_natCast]
theorem den_ne (x y : Rat) : x.den * y.den ≠ 0 := Nat.mul_ne_zero x.den_nz y.den_nz
theorem sumR_small {x y : Rat} (h : (sumR x y).2 = 0) : sumR x y = (ratS (x + y), 0) ∧ SmallR (x + y) := by
  unfold sumR at h ⊢
  split at h
  · cases h
  · rename_i hb
    rw [if_neg hb]
    simp only [Bool.or_eq_true, not_or, Bool.not_eq_true, bigI_iff] at hb
    exact ⟨rfl, by rw [add_mk]; exact small_mk (den_ne x y) hb.1.2 (by rw [← den_abs]; exact hb.2)⟩
def cmpX (p q r s : Int) : Int := cmpI (p * s) (r * q)
theorem fdiv_pos {p q : Int} (hq : 0 < q) : p = p.fdiv q * q + p.fmod q ∧ 0 ≤ p.fmod q ∧ p.fmod q < q :=
  ⟨by rw [Int.mul_comm]; exact (Int.mul_fdiv_add_fmod p q).symm, Int.fmod_nonneg_of_pos _ hq, Int.fmod_lt_of_pos _ hq⟩
theorem cmpI_lt {a b : Int} (h : a < b) : cmpI a b = -1 := if_pos h
theorem cmpI_gt {a b : Int} (h : b < a) : cmpI a b = 1 := by unfold cmpI; rw [if_neg (by omega), if_pos h]
theorem cmpI_eq {a b : Int} (h : a = b) : cmpI a b = 0 := by unfold cmpI; rw [if_neg (by omega), if_neg (by omega)]
theorem cmpI_zero {a b : Int} : cmpI a b = 0 ↔ a = b := by
  unfold cmpI
  constructor
  · intro h
    split at h
    · cases h
    · split at h
      · cases h
      · omega
  · intro h; rw [if_neg (by omega), if_neg (by omega)]
theorem cmpI_swap (a b : Int) : cmpI b a = -cmpI a b := by
  rcases Int.lt_trichotomy a b with h | h | h
  · rw [cmpI_lt h, cmpI_gt h]; rfl
  · rw [cmpI_eq h, cmpI_eq h.symm]; rfl
  · rw [cmpI_gt h, cmpI_lt h]
theorem floor_lt {p q r s : Int} (hq : 0 < q) (hs : 0 < s) (h : p.fdiv q < r.fdiv s) : p * s < r * q := by
  obtain ⟨e1, a1, b1⟩ := fdiv_pos (p := p) hq
  obtain ⟨e2, a2, b2⟩ := fdiv_pos (p := r) hs
  have h1 : p * s < (p.fdiv q + 1) * q * s := by
    refine Int.mul_lt_mul_of_pos_right ?_ hs
    rw [Int.add_mul]
    omega
  have h2 : (p.fdiv q + 1) * q * s ≤ r.fdiv s * q * s := Int.mul_le_mul_of_nonneg_right (Int.mul_le_mul_of_nonneg_right (by omega) (by omega)) (by omega)
  have h3 : r.fdiv s * q * s ≤ r * q := by
    rw [Int.mul_right_comm]
    exact Int.mul_le_mul_of_nonneg_right (by omega) (by omega)
  omega
theorem cmpX_floor {p q r s : Int} (hq : 0 < q) (hs : 0 < s) (h : p.fdiv q ≠ r.fdiv s) : cmpX p q r s = cmpI (p.fdiv q) (r.fdiv s) := by
  unfold cmpX
  rcases Int.lt_or_gt_of_ne h with h | h
  · rw [cmpI_lt h, cmpI_lt (floor_lt hq hs h)]
  · rw [cmpI_gt h, cmpI_gt (floor_lt hs hq h)]
theorem cmpX_rest {p q r s : Int} (hq : 0 < q) (hs : 0 < s) (h : p.fdiv q = r.fdiv s) : cmpX p q r s = cmpI (p.fmod q * s) (r.fmod s * q) := by
  obtain ⟨e1, _, _⟩ := fdiv_pos (p := p) hq
  obtain ⟨e2, _, _⟩ := fdiv_pos (p := r) hs
  unfold cmpX
  have h1 : p * s = p.fdiv q * q * s + p.fmod q * s := by
    conv => lhs; rw [e1]
    rw [Int.add_mul]
  have h2 : r * q = p.fdiv q * q * s + r.fmod s * q := by
    conv => lhs; rw [e2]
    rw [Int.add_mul, ← h, Int.mul_right_comm]
  rw [h1, h2]
  unfold cmpI
  have c1 : (p.fdiv q * q * s + p.fmod q * s < p.fdiv q * q * s + r.fmod s * q) ↔ p.fmod q * s < r.fmod s * q := by omega
  have c2 : (p.fdiv q * q * s + r.fmod s * q < p.fdiv q * q * s + p.fmod q * s) ↔ r.fmod s * q < p.fmod q * s := by omega
  simp only [c1, c2]
theorem cmpX_flip (x q y s : Int) : cmpI (x * s) (y * q) = -cmpX q x s y := by
  unfold cmpX
  rw [Int.mul_comm q y, Int.mul_comm s x]
  exact cmpI_swap _ _
theorem cmpQ_X (x y : Rat) : cmpQ x y = cmpX x.num x.den y.num y.den := by
  unfold cmpQ cmpX cmpI
  simp only [Rat.lt_iff]
end Go.Nu
end
