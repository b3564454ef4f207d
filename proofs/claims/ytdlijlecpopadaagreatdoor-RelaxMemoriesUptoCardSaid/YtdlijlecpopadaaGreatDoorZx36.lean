/- Texts joined by a program: RxN, RxO, CuR, SaidRM, EndRM. -/
import Derived.Lib.LaidIn
import Derived.MakeChecks
import Derived.Stop.LaidErr
import Derived.Test.YtdlijlecpopadaaGreatDoorCards
import Derived.Test.YtdlijlecpopadaaGreatDoorTie
import Derived.Deep.DeepHandedRow
import Derived.Deep.DeepWitnessRowRef
import Derived.SevenTiedAt
import Derived.Test.YtdlijlecpopadaaGreatDoorZx24
import Derived.Test.YtdlijlecpopadaaGreatDoorZx35

section
set_option linter.unusedSimpArgs false
set_option linter.unusedVariables false
namespace Go.Proofs.YtdlijlecpopadaaGreatDoor.Rx
open Go.Aw Go.Aw.D Go.Proofs Ty Go.Nu Go.So
open Sq (W visP stopV hasR NetOk)
set_option maxRecDepth 100000
theorem stopV_of {x : Instance} {o : Nat} {d : Bool} (ho : o < x.orders.length) (h : (Sq.stopO (ordAt x o) ⟨(o : Nat), d⟩).place ≥ 0) : stopV x ⟨(o : Nat), d⟩ = (Sq.stopO (ordAt x o) ⟨(o : Nat), d⟩, 0) := by
  have hb : badNo ((o : Nat) : Int) x.orders.length = false := by unfold badNo; simp; omega
  have hs : Sq.stop18 x ⟨(o : Nat), d⟩ = (Sq.stopO (ordAt x o) ⟨(o : Nat), d⟩, decide ((Sq.stopO (ordAt x o) ⟨(o : Nat), d⟩).place ≥ 0)) := by
    unfold Sq.stop18
    rw [if_neg (by rw [hb]; simp)]
    show (match x.orders[(((o : Nat) : Int)).toNat]? with | some o_1 => _ | none => _) = _
    rw [Int.toNat_natCast, ordAt_get ho]
  unfold stopV
  rw [hs]
  show (if decide ((Sq.stopO (ordAt x o) ⟨(o : Nat), d⟩).place ≥ 0) = true then _ else _) = _
  rw [if_pos (decide_eq_true h)]
theorem visP_of {x : Instance} {o : Nat} (ho : o < x.orders.length) : visP x.orders (o : Nat) = Sq.visitsO (ordAt x o) (o : Nat) := by
  have hb : badNo ((o : Nat) : Int) x.orders.length = false := by unfold badNo; simp; omega
  unfold visP
  rw [if_neg (by rw [hb]; simp)]
  show (match x.orders[(((o : Nat) : Int)).toNat]? with | some o_1 => _ | none => _) = _
  rw [Int.toNat_natCast, ordAt_get ho]
theorem places_same {x : Instance} {o : Nat} (ho : o < x.orders.length) : placesP x (o : Nat) = places32 (ordAt x o) := by
  unfold placesP
  rw [visP_of ho]
  unfold Sq.visitsO places32
  rw [List.map_append]
  congr 1
  · by_cases h : decide ((ordAt x o).pick.place ≥ 0) = true
    · rw [if_pos h, if_pos h, List.map_cons, List.map_nil, stopV_of ho (by exact of_decide_eq_true h)]; rfl
    · rw [if_neg h, if_neg h]; rfl
  · by_cases h : decide ((ordAt x o).drop.place ≥ 0) = true
    · rw [if_pos h, if_pos h, List.map_cons, List.map_nil, stopV_of ho (by exact of_decide_eq_true h)]; rfl
    · rw [if_neg h, if_neg h]; rfl
structure MinOf (b : Int) (M : Arc → Prop) (l : List Arc) (r : Int) : Prop where
  le : r ≤ b
  lb : ∀ c ∈ l, M c → r ≤ c.miles
  at' : r = b ∨ ∃ c ∈ l, M c ∧ r = c.miles
theorem MinOf.uniq {b : Int} {M : Arc → Prop} {l : List Arc} {r s : Int} (h : MinOf b M l r) (g : MinOf b M l s) : r = s := by
  have h1 : r ≤ s := by
    rcases g.at' with e | ⟨c, hc, hm, e⟩
    · rw [e]; exact h.le
    · rw [e]; exact h.lb c hc hm
  have h2 : s ≤ r := by
    rcases h.at' with e | ⟨c, hc, hm, e⟩
    · rw [e]; exact g.le
    · rw [e]; exact g.lb c hc hm
  omega
theorem imin_le (a b : Int) : imin a b ≤ a ∧ imin a b ≤ b ∧ (imin a b = a ∨ imin a b = b) := by
  unfold imin; split <;> omega
theorem fold_min {f : Int → Arc → Int} {T : Arc → Bool} (hf : ∀ m c, f m c = if T c = true then imin m c.miles else m) (l : List Arc) (b : Int) : MinOf b (fun c => T c = true) l (l.foldl f b) := by
  induction l generalizing b with
  | nil => exact ⟨Int.le_refl b, by simp, .inl rfl⟩
  | cons c l ih =>
    have h := ih (f b c)
    rw [List.foldl_cons]
    rw [hf] at h ⊢
    by_cases hc : T c = true
    · rw [if_pos hc] at h ⊢
      obtain ⟨i1, i2, i3⟩ := imin_le b c.miles
      refine ⟨Int.le_trans h.le i1, fun d hd hm => ?_, ?_⟩
      · rcases List.mem_cons.1 hd with rfl | hd
        · exact Int.le_trans h.le i2
        · exact h.lb d hd hm
      · rcases h.at' with e | ⟨d, hd, hm, e⟩
        · rcases i3 with e2 | e2
          · exact .inl (e.trans e2)
          · exact .inr ⟨c, by simp, hc, e.trans e2⟩
        · exact .inr ⟨d, by simp [hd], hm, e⟩
    · rw [if_neg hc] at h ⊢
      refine ⟨h.le, fun d hd hm => ?_, ?_⟩
      · rcases List.mem_cons.1 hd with rfl | hd
        · exact absurd hm hc
        · exact h.lb d hd hm
      · rcases h.at' with e | ⟨d, hd, hm, e⟩
        · exact .inl e
        · exact .inr ⟨d, by simp [hd], hm, e⟩
def tA (p q : Int) (w : Arc) : Bool := (w.src == p && w.dst == q) || (w.src == q && w.dst == p)
theorem MinOf.join {b r s : Int} {M N : Arc → Prop} {l : List Arc} (h : MinOf b M l r) (g : MinOf r N l s) : MinOf b (fun c => M c ∨ N c) l s := by
  refine ⟨Int.le_trans g.le h.le, fun c hc hm => ?_, ?_⟩
  · rcases hm with hm | hm
    · exact Int.le_trans g.le (h.lb c hc hm)
    · exact g.lb c hc hm
  · rcases g.at' with e | ⟨c, hc, hm, e⟩
    · rcases h.at' with e2 | ⟨c, hc, hm, e2⟩
      · exact .inl (e.trans e2)
      · exact .inr ⟨c, hc, .inl hm, e.trans e2⟩
    · exact .inr ⟨c, hc, .inr hm, e⟩
theorem MinOf.iff {b r : Int} {M N : Arc → Prop} {l : List Arc} (h : MinOf b M l r) (e : ∀ c ∈ l, M c ↔ N c) : MinOf b N l r :=
  ⟨h.le, fun c hc hm => h.lb c hc ((e c hc).2 hm), h.at'.imp id fun ⟨c, hc, hm, e2⟩ => ⟨c, hc, (e c hc).1 hm, e2⟩⟩
theorem d32Q_min (arcs : List Arc) (p : Int) (m q : Int) (hne : p ≠ q) : MinOf m (fun c => tA p q c = true) arcs (d32Q arcs p m q) := by
  unfold d32Q
  rw [if_neg (by simpa using hne)]
  exact fold_min (T := tA p q) (fun m c => rfl) arcs m
theorem d32P_min (arcs : List Arc) (p : Int) : ∀ (Q : List Int) (m : Int), (∀ q ∈ Q, p ≠ q) → MinOf m (fun c => ∃ q ∈ Q, tA p q c = true) arcs (Q.foldl (d32Q arcs p) m)
  | [], m, _ => ⟨Int.le_refl m, by simp, .inl rfl⟩
  | q :: Q, m, h => by
    rw [List.foldl_cons]
    have h1 := d32Q_min arcs p m q (h q (by simp))
    have h2 := d32P_min arcs p Q (d32Q arcs p m q) (fun a ha => h a (by simp [ha]))
    exact (h1.join h2).iff fun c _ => by simp
theorem dist_min (arcs : List Arc) (Q : List Int) : ∀ (P : List Int) (m : Int), (∀ p ∈ P, ∀ q ∈ Q, p ≠ q) → MinOf m (fun c => ∃ p ∈ P, ∃ q ∈ Q, tA p q c = true) arcs (P.foldl (d32P arcs Q) m)
  | [], m, _ => ⟨Int.le_refl m, by simp, .inl rfl⟩
  | p :: P, m, h => by
    rw [List.foldl_cons]
    have h1 : MinOf m (fun c => ∃ q ∈ Q, tA p q c = true) arcs (d32P arcs Q m p) := d32P_min arcs p Q m (h p (by simp))
    have h2 := dist_min arcs Q P (d32P arcs Q m p) (fun a ha => h a (by simp [ha]))
    exact (h1.join h2).iff fun c _ => by simp
theorem d32A_zero (p q : Int) (l : List Arc) (h : ∀ c ∈ l, 0 ≤ c.miles) : l.foldl (d32A p q) 0 = 0 := by
  induction l with
  | nil => rfl
  | cons c l ih =>
    rw [List.foldl_cons]
    have : d32A p q 0 c = 0 := by
      unfold d32A
      split
      · have := h c (by simp); unfold imin; split <;> omega
      · rfl
    rw [this]; exact ih fun d hd => h d (by simp [hd])
theorem d32Q_zero (arcs : List Arc) (p q : Int) (h : ∀ c ∈ arcs, 0 ≤ c.miles) : d32Q arcs p 0 q = 0 := by
  unfold d32Q
  have : (if (p == q) = true then (0 : Int) else 0) = 0 := by split <;> rfl
  rw [this]; exact d32A_zero p q arcs h
theorem d32Ps_zero (arcs : List Arc) (p : Int) (h : ∀ c ∈ arcs, 0 ≤ c.miles) : ∀ Q : List Int, Q.foldl (d32Q arcs p) 0 = 0
  | [] => rfl
  | q :: Q => by rw [List.foldl_cons, d32Q_zero arcs p q h]; exact d32Ps_zero arcs p h Q
theorem d32P_hit (arcs : List Arc) (p : Int) (h : ∀ c ∈ arcs, 0 ≤ c.miles) : ∀ (Q : List Int) (m : Int), p ∈ Q → Q.foldl (d32Q arcs p) m = 0
  | [], _, hm => by simp at hm
  | q :: Q, m, hm => by
    rw [List.foldl_cons]
    by_cases e : p = q
    · have : d32Q arcs p m q = 0 := by
        unfold d32Q
        rw [if_pos (by simpa using e)]
        exact d32A_zero p q arcs h
      rw [this]; exact d32Ps_zero arcs p h Q
    · exact d32P_hit arcs p h Q _ ((List.mem_cons.1 hm).resolve_left e)
theorem dist_zero (arcs : List Arc) (Q : List Int) (h : ∀ c ∈ arcs, 0 ≤ c.miles) : ∀ P : List Int, P.foldl (d32P arcs Q) 0 = 0
  | [] => rfl
  | p :: P => by
    rw [List.foldl_cons]
    have : d32P arcs Q 0 p = 0 := d32Ps_zero arcs p h Q
    rw [this]; exact dist_zero arcs Q h P
theorem dist_hit (arcs : List Arc) (Q : List Int) (h : ∀ c ∈ arcs, 0 ≤ c.miles) : ∀ (P : List Int) (m : Int), (∃ p ∈ P, p ∈ Q) → P.foldl (d32P arcs Q) m = 0
  | [], _, ⟨p, hp, _⟩ => by simp at hp
  | a :: P, m, ⟨p, hp, hq⟩ => by
    rw [List.foldl_cons]
    by_cases e : a ∈ Q
    · have : d32P arcs Q m a = 0 := d32P_hit arcs a h Q m e
      rw [this]; exact dist_zero arcs Q h P
    · rcases List.mem_cons.1 hp with rfl | hp
      · exact absurd hq e
      · exact dist_hit arcs Q h P _ ⟨p, hp, hq⟩
theorem hasI_mem (l : List Int) (n : Int) : hasI l n = true ↔ n ∈ l := by
  unfold hasI
  rw [List.any_eq_true]
  constructor
  · rintro ⟨a, ha, he⟩; have : n = a := by simpa using he
    rw [this]; exact ha
  · intro h; exact ⟨n, h, by simp⟩
theorem dist_same {x : Instance} (hm : ∀ c ∈ x.net.arcs, 0 ≤ c.miles) {a b : Nat} (ha : a < x.orders.length) (hb : b < x.orders.length) : distP x (a : Nat) (b : Nat) = dist32 x a b := by
  unfold distP dist32
  rw [places_same ha, places_same hb]
  generalize places32 (ordAt x a) = P
  generalize places32 (ordAt x b) = Q
  by_cases h : (P.any fun i => hasI Q i) = true
  · rw [if_pos h]
    obtain ⟨p, hp, hq⟩ := List.any_eq_true.1 h
    exact (dist_hit x.net.arcs Q hm P 10001 ⟨p, hp, (hasI_mem Q p).1 hq⟩).symm
  · rw [if_neg h]
    have hne : ∀ p ∈ P, ∀ q ∈ Q, p ≠ q := fun p hp q hq e => h (List.any_eq_true.2 ⟨p, hp, (hasI_mem Q p).2 (e ▸ hq)⟩)
    have h1 := fold_min (f := distC P Q) (T := fun c => (hasI P c.src && hasI Q c.dst) || (hasI Q c.src && hasI P c.dst)) (fun m c => rfl) x.net.arcs 10001
    have h2 := dist_min x.net.arcs Q P 10001 hne
    refine (h1.iff fun c _ => ?_).uniq h2
    unfold tA
    simp only [Bool.or_eq_true, Bool.and_eq_true, hasI_mem, beq_iff_eq]
    constructor
    · rintro (⟨h1, h2⟩ | ⟨h1, h2⟩)
      · exact ⟨_, h1, _, h2, .inl ⟨rfl, rfl⟩⟩
      · exact ⟨_, h2, _, h1, .inr ⟨rfl, rfl⟩⟩
    · rintro ⟨p, hp, q, hq, ⟨rfl, rfl⟩ | ⟨rfl, rfl⟩⟩
      · exact .inl ⟨hp, hq⟩
      · exact .inr ⟨hq, hp⟩
def lexK (key : Int → Int) (a b : Int) : Prop := key a < key b ∨ (key a = key b ∧ a < b)
theorem ins_mem {lt : Int → Int → Bool} {x y : Int} {l : List Int} : y ∈ ins lt x l ↔ y = x ∨ y ∈ l := by
  rw [(ins_perm lt x l).mem_iff, List.mem_cons]
theorem ins_lex (key : Int → Int) (x : Int) : ∀ l : List Int, l.Pairwise (lexK key) → (∀ y ∈ l, y < x) → (ins (fun a b => decide (key a < key b)) x l).Pairwise (lexK key)
  | [], _, _ => by unfold ins; exact List.pairwise_singleton _ _
  | z :: r, h, hx => by
    have h' := List.pairwise_cons.1 h
    unfold ins
    split
    · next hc =>
      have hc := of_decide_eq_true hc
      refine List.pairwise_cons.2 ⟨fun y hy => .inl ?_, h⟩
      rcases List.mem_cons.1 hy with rfl | hy
      · exact hc
      · rcases h'.1 y hy with e | e
        · omega
        · omega
    · next hc =>
      have hc : ¬ key x < key z := fun e => hc (decide_eq_true e)
      refine List.pairwise_cons.2 ⟨fun y hy => ?_, ins_lex key x r h'.2 fun y hy => hx y (by simp [hy])⟩
      rcases ins_mem.1 hy with rfl | hy
      · have := hx z (by simp)
        unfold lexK
        omega
      · exact h'.1 y hy
theorem foldl_lex (key : Int → Int) : ∀ (l acc : List Int), l.Pairwise (· < ·) → acc.Pairwise (lexK key) → (∀ y ∈ acc, ∀ x ∈ l, y < x) → (l.foldl (fun acc x => ins (fun a b => decide (key a < key b)) x acc) acc).Pairwise (lexK key)
  | [], acc, _, h, _ => h
  | x :: l, acc, hl, h, hx => by
    have hl' := List.pairwise_cons.1 hl
    refine foldl_lex key l _ hl'.2 (ins_lex key x acc h fun y hy => hx y hy x (by simp)) fun y hy z hz => ?_
    rcases ins_mem.1 hy with rfl | hy
    · exact hl'.1 z hz
    · exact hx y hy z (by simp [hz])
theorem ssort_lex (key : Int → Int) (l : List Int) (h : l.Pairwise (· < ·)) : (ssort (fun a b => decide (key a < key b)) l).Pairwise (lexK key) := foldl_lex key l [] h List.Pairwise.nil (by simp)
theorem hasN_bit (s i : Nat) : hasN s i = s.testBit i := by
  unfold hasN
  rw [Nat.testBit_eq_decide_div_mod_eq, Bool.eq_iff_iff]
  simp
theorem add_bit {x s : Nat} (h : x.testBit s = false) : x + 2 ^ s = x ||| 2 ^ s := by
  have hd : x = 2 ^ (s + 1) * (x / 2 ^ (s + 1)) + x % 2 ^ (s + 1) := (Nat.div_add_mod x (2 ^ (s + 1))).symm
  have hb : x % 2 ^ (s + 1) < 2 ^ s := by
    have h1 : x / 2 ^ s % 2 = 0 := by
      rw [Nat.testBit_eq_decide_div_mod_eq] at h
      have := of_decide_eq_false h
      omega
    rw [Nat.mod_pow_succ, h1, Nat.mul_zero, Nat.add_zero]
    exact Nat.mod_lt x (Nat.two_pow_pos s)
  generalize x % 2 ^ (s + 1) = b at *
  generalize x / 2 ^ (s + 1) = a at *
  apply Nat.eq_of_testBit_eq
  intro j
  have h2 : 2 ^ s + b < 2 ^ (s + 1) := by rw [Nat.pow_succ]; omega
  have hb2 : b < 2 ^ (s + 1) := by omega
  have e1 : x + 2 ^ s = 2 ^ (s + 1) * a + (2 ^ s + b) := by omega
  rw [e1, Nat.testBit_two_pow_mul_add a h2 j, Nat.testBit_or, hd, Nat.testBit_two_pow_mul_add a hb2 j]
  by_cases hj : j < s + 1
  · rw [if_pos hj, if_pos hj]
    by_cases e : j = s
    · subst e
      rw [Nat.testBit_two_pow_add_eq, Nat.testBit_two_pow_self, Nat.testBit_lt_two_pow hb]; rfl
    · rw [Nat.testBit_two_pow_add_gt (by omega), Nat.testBit_two_pow_of_ne (by omega), Bool.or_false]
  · rw [if_neg hj, if_neg hj, Nat.testBit_two_pow_of_ne (by omega), Bool.or_false]
theorem bestTo_spec (x : Instance) (a set : Nat) : ∀ k, (bestTo x a set k = -1 ∧ ∀ b, b < k → hasN set b = true) ∨ ∃ b0 : Nat, b0 < k ∧ bestTo x a set k = (b0 : Int) ∧ hasN set b0 = false ∧ ∀ b, b < k → hasN set b = false → b = b0 ∨ dist32 x a b0 < dist32 x a b ∨ (dist32 x a b0 = dist32 x a b ∧ b0 < b)
  | 0 => .inl ⟨rfl, fun b hb => by omega⟩
  | k + 1 => by
    rw [bestTo_succ]
    unfold bestS
    rcases bestTo_spec x a set k with ⟨e, h⟩ | ⟨b0, hb0, e, hs, h⟩
    · rw [e]
      cases hk : hasN set k with
      | true =>
        refine .inl ⟨by simp, fun b hb => ?_⟩
        by_cases e2 : b = k
        · rw [e2]; exact hk
        · exact h b (by omega)
      | false =>
        refine .inr ⟨k, Nat.lt_succ_self k, by simp, hk, fun b hb hs => ?_⟩
        by_cases e2 : b = k
        · exact .inl e2
        · rw [h b (by omega)] at hs; cases hs
    · rw [e]
      cases hk : hasN set k with
      | true =>
        refine .inr ⟨b0, by omega, by simp, hs, fun b hb hs2 => ?_⟩
        by_cases e2 : b = k
        · rw [e2, hk] at hs2; cases hs2
        · exact h b (by omega) hs2
      | false =>
        by_cases hd : dist32 x a k < dist32 x a b0
        · refine .inr ⟨k, Nat.lt_succ_self k, ?_, hk, fun b hb hs2 => ?_⟩
          · rw [if_pos (by simp [hd])]
          · by_cases e2 : b = k
            · exact .inl e2
            · rcases h b (by omega) hs2 with rfl | h2 | h2
              · exact .inr (.inl hd)
              · exact .inr (.inl (by omega))
              · exact .inr (.inl (by omega))
        · refine .inr ⟨b0, by omega, ?_, hs, fun b hb hs2 => ?_⟩
          · rw [if_neg (by simp [hd])]
          · by_cases e2 : b = k
            · subst e2
              by_cases e3 : dist32 x a b0 < dist32 x a b
              · exact .inr (.inl e3)
              · exact .inr (.inr ⟨by omega, hb0⟩)
            · exact h b (by omega) hs2
def orS (i : Nat) (l : List Int) : Nat := l.foldl (fun s k => s ||| 2 ^ k.toNat) (2 ^ i)
theorem orS_snoc (i : Nat) (l : List Int) (k : Int) : orS i (l ++ [k]) = orS i l ||| 2 ^ k.toNat := by unfold orS; rw [List.foldl_append]; rfl
theorem orF_bit (l : List Int) : ∀ (s b : Nat), (l.foldl (fun s k => s ||| 2 ^ k.toNat) s).testBit b = (s.testBit b || l.any fun k => k.toNat == b) := by
  induction l with
  | nil => intro s b; simp
  | cons k l ih =>
    intro s b
    rw [List.foldl_cons, ih, Nat.testBit_or, List.any_cons]
    have : (2 ^ k.toNat).testBit b = (k.toNat == b) := by
      by_cases e : k.toNat = b
      · rw [e, Nat.testBit_two_pow_self]; simp
      · rw [Nat.testBit_two_pow_of_ne e, Bool.eq_iff_iff]; simp [e]
    rw [this, Bool.or_assoc]
theorem orS_has (i : Nat) (l : List Int) (b : Nat) : hasN (orS i l) b = (i == b || l.any fun k => k.toNat == b) := by
  rw [hasN_bit]
  unfold orS
  rw [orF_bit]
  congr 1
  by_cases e : i = b
  · rw [e, Nat.testBit_two_pow_self]; simp
  · rw [Nat.testBit_two_pow_of_ne e, Bool.eq_iff_iff]; simp [e]
theorem othersP_asc (x : Instance) (i : Nat) : (othersP x i).Pairwise (· < ·) := by
  unfold othersP
  refine List.Pairwise.map _ (fun a b h => ?_) ((List.pairwise_lt_range).filter _)
  show (a : Int) < (b : Int)
  omega
theorem othersP_iff {x : Instance} {i : Nat} {a : Int} : a ∈ othersP x i ↔ ∃ k : Nat, a = (k : Int) ∧ k < x.orders.length ∧ k ≠ i := by
  unfold othersP
  rw [List.mem_map]
  constructor
  · rintro ⟨k, hk, rfl⟩
    have := List.mem_filter.1 hk
    exact ⟨k, rfl, List.mem_range.1 this.1, by simpa using this.2⟩
  · rintro ⟨k, rfl, hk, hne⟩
    exact ⟨k, List.mem_filter.2 ⟨List.mem_range.2 hk, by simpa using hne⟩, rfl⟩
theorem setTo_or {x : Instance} (hm : ∀ c ∈ x.net.arcs, 0 ≤ c.miles) {i : Nat} (hi : i < x.orders.length) : ∀ m, setTo x i m = orS i ((ssort (dlt x (i : Nat)) (othersP x i)).take m)
  | 0 => rfl
  | m + 1 => by
    have ih := setTo_or hm hi m
    have hlex : (ssort (dlt x (i : Nat)) (othersP x i)).Pairwise (lexK (distP x (i : Nat))) := ssort_lex (distP x (i : Nat)) (othersP x i) (othersP_asc x i)
    have hperm := ssortPerm (dlt x (i : Nat)) (othersP x i)
    generalize ssort (dlt x (i : Nat)) (othersP x i) = S at *
    have hmem : ∀ a, a ∈ S ↔ ∃ k : Nat, a = (k : Int) ∧ k < x.orders.length ∧ k ≠ i := fun a => hperm.mem_iff.trans othersP_iff
    have hnd : S.Pairwise (· ≠ ·) := hlex.imp fun h e => by subst e; unfold lexK at h; omega
    show setS x i (setTo x i m) = _
    unfold setS
    rw [ih]
    have hin : ∀ b : Nat, hasN (orS i (S.take m)) b = true ↔ b = i ∨ (b : Int) ∈ S.take m := fun b => by
      rw [orS_has, Bool.or_eq_true, beq_iff_eq, List.any_eq_true]
      constructor
      · rintro (e | ⟨k, hk, e⟩)
        · exact .inl e.symm
        · obtain ⟨n, rfl, _⟩ := (hmem k).1 (List.mem_of_mem_take hk)
          have : n = b := by simpa using e
          subst this; exact .inr hk
      · rintro (rfl | h)
        · exact .inl rfl
        · exact .inr ⟨_, h, by simp⟩
    by_cases hlt : m < S.length
    · obtain ⟨s, hs⟩ := getIn hlt
      obtain ⟨n, rfl, hn1, hn2⟩ := (hmem s).1 (List.mem_of_getElem? hs)
      have hspl := drop_at hs
      have hnot : ((n : Nat) : Int) ∉ S.take m := fun hmm => by
        have h2 : (S.take m ++ S.drop m).Pairwise (· ≠ ·) := by rw [List.take_append_drop]; exact hnd
        rw [hspl] at h2
        exact (List.pairwise_append.1 h2).2.2 _ hmm _ (List.mem_cons_self ..) rfl
      have hnf : hasN (orS i (S.take m)) n = false := by
        rw [Bool.eq_false_iff]; intro h; rcases (hin n).1 h with e | e
        · exact hn2 e
        · exact hnot e
      have hb : bestTo x i (orS i (S.take m)) x.orders.length = (n : Int) := by
        rcases bestTo_spec x i (orS i (S.take m)) x.orders.length with ⟨_, h⟩ | ⟨b0, hb0, e, hs0, h⟩
        · rw [h n hn1] at hnf; cases hnf
        · rw [e]
          rcases h n hn1 hnf with e2 | h2
          · rw [e2]
          exfalso
          have hb0i : b0 ≠ i := fun e => by rw [(hin b0).2 (.inl e)] at hs0; cases hs0
          have hb0n : ((b0 : Nat) : Int) ∉ S.take m := fun e => by rw [(hin b0).2 (.inr e)] at hs0; cases hs0
          have hb0S : ((b0 : Nat) : Int) ∈ S := (hmem _).2 ⟨b0, rfl, hb0, hb0i⟩
          have hd : ((b0 : Nat) : Int) ∈ S.drop m := by
            have : ((b0 : Nat) : Int) ∈ S.take m ++ S.drop m := by rw [List.take_append_drop]; exact hb0S
            exact (List.mem_append.1 this).resolve_left hb0n
          rw [hspl] at hd
          have hdl : (S.drop m).Pairwise (lexK (distP x (i : Nat))) := List.Pairwise.sublist (List.drop_sublist m S) hlex
          rw [hspl] at hdl
          rcases List.mem_cons.1 hd with e2 | hd
          · have : b0 = n := by omega
            subst this; omega
          · have hl := (List.pairwise_cons.1 hdl).1 _ hd
            unfold lexK at hl
            rw [dist_same hm hi hn1, dist_same hm hi hb0] at hl
            omega
      rw [hb, if_pos (by omega), Int.toNat_natCast, add_bit (by rw [← hasN_bit]; exact hnf), take_succ hs, orS_snoc, Int.toNat_natCast]
    · have hall : ∀ b, b < x.orders.length → hasN (orS i (S.take m)) b = true := fun b hb => by
        rw [List.take_of_length_le (by omega)] at hin ⊢
        by_cases e : b = i
        · exact (hin b).2 (.inl e)
        · exact (hin b).2 (.inr ((hmem _).2 ⟨b, rfl, hb, e⟩))
      have hb : bestTo x i (orS i (S.take m)) x.orders.length = -1 := by
        rcases bestTo_spec x i (orS i (S.take m)) x.orders.length with ⟨e, _⟩ | ⟨b0, hb0, e, hs0, h⟩
        · exact e
        · rw [hall b0 hb0] at hs0; cases hs0
      rw [hb, if_neg (by omega), List.take_of_length_le (by omega), List.take_of_length_le (by omega)]
theorem nearSet_or {size i : Nat} {S : List Int} (hi : i ≤ 61) (h : ∀ a ∈ S, 0 ≤ a ∧ a ≤ 61) : nearSet size i S = ((orS i (S.take (size - 1)) : Nat) : Int) := by
  have key : ∀ (l : List Int) (s : Nat), s < 2 ^ 63 → (∀ a ∈ l, 0 ≤ a ∧ a ≤ 61) → l.foldl (fun s k => bitV .or .i64 s (shV .shl .i64 1 k)) ((s : Nat) : Int) = ((l.foldl (fun s k => s ||| 2 ^ k.toNat) s : Nat) : Int) := by
    intro l
    induction l with
    | nil => intro s _ _; rfl
    | cons a l ih =>
      intro s hs hl
      obtain ⟨n, rfl⟩ := Int.eq_ofNat_of_zero_le (hl a (by simp)).1
      have hn := (hl _ (List.mem_cons_self ..)).2
      have hp : 2 ^ n < 2 ^ 63 := Nat.pow_lt_pow_right (by decide) (by omega)
      rw [List.foldl_cons, List.foldl_cons, Sq.shl_in (by omega), Sq.or_nat hs hp, ih _ (Nat.or_lt_two_pow hs hp) fun b hb => hl b (by simp [hb]), Int.toNat_natCast]
  unfold nearSet orS
  exact key _ _ (Nat.pow_lt_pow_right (by decide) (by omega)) fun a ha => h a (List.mem_of_mem_take ha)
theorem near_same {x : Instance} (hm : ∀ c ∈ x.net.arcs, 0 ≤ c.miles) (hn : x.orders.length ≤ 19) (size : Nat) : nearP x size = near32 x size := by
  unfold nearP near32
  refine List.map_congr_left fun i hi => ?_
  have hi := List.mem_range.1 hi
  rw [setTo_or hm hi, nearSet_or (by omega) fun a ha => ?_]
  have := othersP_mem ((ssortPerm _ _).mem_iff.1 ha)
  omega
theorem nearA_same {x : Instance} (hm : ∀ c ∈ x.net.arcs, 0 ≤ c.miles) (hn : x.orders.length ≤ 19) (size : Int) : nearA x size = nearB x size := by
  unfold nearA nearB
  rw [near_same hm hn]
theorem memTo_bit (near : List Int) (m o : Nat) : ∀ k b, (memTo near m o k).testBit b = (decide (b < k) && (b == o || (hasN m b && hasN (near.getD o 0).toNat b)))
  | 0, b => by
    show (0 : Nat).testBit b = _
    simp
  | k + 1, b => by
    have ih := memTo_bit near m o k
    have hlt := memTo_lt near m o k
    rw [memTo_succ]
    unfold memS
    have hk : (memTo near m o k).testBit k = false := Nat.testBit_lt_two_pow hlt
    by_cases hc : (k == o || (hasN m k && hasN (near.getD o 0).toNat k)) = true
    · rw [if_pos hc, add_bit hk, Nat.testBit_or, ih]
      by_cases e : b = k
      · subst e
        rw [Nat.testBit_two_pow_self, hc]; simp
      · rw [Nat.testBit_two_pow_of_ne (fun h => e h.symm), Bool.or_false]
        congr 1
        rw [Bool.eq_iff_iff]; simp; omega
    · rw [if_neg hc, ih]
      by_cases e : b = k
      · subst e
        rw [Bool.not_eq_true] at hc
        rw [hc]; simp
      · congr 1
        rw [Bool.eq_iff_iff]; simp; omega
theorem mem_same {near : List Int} {m o : Nat} (ho : o < near.length) (hm : m < 2 ^ near.length) : memP near m o = memTo near m o near.length := by
  unfold memP
  apply Nat.eq_of_testBit_eq
  intro b
  rw [memTo_bit, Nat.testBit_or, Nat.testBit_and, hasN_bit, hasN_bit]
  have h2 : (2 ^ o).testBit b = (b == o) := by
    by_cases e : o = b
    · rw [e, Nat.testBit_two_pow_self]; simp
    · rw [Nat.testBit_two_pow_of_ne e, Bool.eq_iff_iff]; simp; omega
  rw [h2]
  by_cases hb : b < near.length
  · rw [decide_eq_true hb, Bool.true_and, Bool.or_comm]
  · rw [decide_eq_false hb, Bool.false_and, Nat.testBit_lt_two_pow (Nat.lt_of_lt_of_le hm (Nat.pow_le_pow_right (by decide) (by omega))), Bool.false_and, Bool.false_or, Bool.eq_false_iff]
    simp; omega
theorem miles_of {x : Instance} (h : checkR x = []) : ∀ c ∈ x.net.arcs, 0 ≤ c.miles ∧ c.miles ≤ 10000 := by
  unfold checkR at h
  simp only [List.append_eq_nil_iff, List.map_eq_nil_iff] at h
  obtain ⟨⟨⟨hn, _⟩, _⟩, _⟩ := h
  unfold netR at hn
  simp only [List.append_eq_nil_iff] at hn
  intro c hc
  obtain ⟨i, hi, rfl⟩ := List.getElem_of_mem hc
  have h2 := List.flatMap_eq_nil_iff.1 hn.2 i (List.mem_range.2 hi)
  unfold arcR at h2
  rw [arcAt_get (List.getElem?_eq_getElem hi)] at h2
  simp only [List.nil_append, List.append_eq_nil_iff] at h2
  have h3 := opt_nil h2.1.1.1.1.2
  unfold badArc at h3
  simp only [Bool.or_eq_false_iff, decide_eq_false_iff_not] at h3
  omega
end Go.Proofs.YtdlijlecpopadaaGreatDoor.Rx
end

section
set_option linter.unusedSimpArgs false
set_option linter.unusedVariables false
namespace Go.Proofs.YtdlijlecpopadaaGreatDoor.Rx
open Go.Aw Go.Aw.D Go.Proofs Ty Go.Nu Go.So
open Sq (W visP stopV hasR NetOk)
open Nu (ltB geB)
open Mv (convI convB convA NC.pc take_allP)
set_option maxRecDepth 100000
theorem list_near {x : Instance} {near : List Int} (h : list32 x near = true) (hn : x.orders.length ≤ 10) : near.length = x.orders.length ∧ NearB near := by
  unfold list32 at h
  rw [Bool.and_eq_true, List.all_eq_true] at h
  have hl : near.length = x.orders.length := by have := h.1; simp at this; omega
  refine ⟨hl, by omega, fun n hm => ?_⟩
  obtain ⟨i, hi, rfl⟩ := List.getElem_of_mem hm
  have hb := h.2 i (List.mem_range.2 hi)
  unfold listBad at hb
  rw [List.getD, List.getElem?_eq_getElem hi] at hb
  simp only [Option.getD_some, Bool.not_eq_true', Bool.or_eq_false_iff, decide_eq_false_iff_not] at hb
  have h1 : ((2 ^ near.length : Nat) : Int) ≤ ((2 ^ 10 : Nat) : Int) := by
    have := Nat.pow_le_pow_right (n := 2) (by omega) (show near.length ≤ 10 by omega)
    omega
  have := hb.1
  refine ⟨by omega, ?_⟩
  have : ((2 ^ 10 : Nat) : Int) = 1024 := by decide
  omega
theorem relaxMemories_c (x : Instance) (size : Int) (near : List Int) (m o : Int) (h : InB x) (hnl : near.length ≤ 1048576) : PC Tryz.prog 3 [.agg (encInstance x), int size, .sl (near.map encInt), int m, int o] (boo true) := by
  have hck := NC.pc (check_c x h)
  refine PC.body (c := Tryz.f3.body.getD .skip) (fun _ => false) mixed Tryz.func3 rfl (by kernel_rfl) ?_
  unfold Tryz.f3
  simp only [Option.getD_some]
  simp only [go_sem]
  refine PC.use hck ?_
  simp only [go_sem, List.length_map]
  refine acond_i (fun hb => ?_) (fun hb => ?_)
  · simp only [go_sem]
    refine PC.use examples_c ?_
    simp only [go_sem]
    exact .refl _
  have hc : checkR x = [] := by
    cases e : checkR x with
    | nil => rfl
    | cons a l => rw [e] at hb; simp at hb
  have hacc := acc_of hc
  have ho := hacc.orders
  have ha := hacc.arcs
  have hmi := fun c hc' => (miles_of hc c hc').1
  have hA := nearA_c x size (by omega) (by omega)
  have hB := nearB_c x size (by omega) (by omega)
  rw [nearA_same hmi (by omega)] at hA
  have hNl : (nearB x size).1.length ≤ 1048576 := by
    unfold nearB
    by_cases e : (decide (size < 1) || decide (size > 10)) = true
    · rw [if_pos e]; simp
    · rw [if_neg e]; unfold near32; simp; omega
  generalize nearB x size = N at hA hB hNl
  have hi := ints_c N.1 N.1 hNl
  rw [decide_eq_true rfl] at hi
  have hL := list32_c x near (by omega) hnl
  simp only [go_sem]
  refine PC.use hA ?_
  simp only [go_sem]
  refine PC.use hB ?_
  simp only [go_sem]
  refine ⟨_, fun _ => hi.q rfl, ?_⟩
  simp only [go_sem]
  refine acond_i (fun hb => ?_) (fun hb => ?_)
  · simp at hb
  simp only [go_sem]
  refine PC.use hL ?_
  simp only [go_sem]
  by_cases hl : list32 x near = true
  case neg =>
    simp only [go_sem, eq_false_of_ne_true hl]
    refine acond_i (fun hb => ?_) (fun hb => ?_)
    · simp only [go_sem]
      refine PC.use examples_c ?_
      simp only [go_sem]
      exact .refl _
    · simp at hb
  obtain ⟨hlen, hNB⟩ := list_near hl ho
  have b6 : (near.length : Nat) ≤ 62 := by omega
  have w6 : IntKind.u64.wrap (near.length : Int) = (near.length : Int) := Mv.uwrap_in (by omega)
  simp only [go_sem, hl, w6, Sq.shl_in b6]
  refine acond_i (fun hb => ?_) (fun hb => ?_)
  · simp only [go_sem]
    refine PC.use examples_c ?_
    simp only [go_sem]
    exact .refl _
  simp only [Bool.not_true, Bool.false_or, Bool.or_eq_false_iff, decide_eq_false_iff_not] at hb
  obtain ⟨⟨⟨h1, h2⟩, h3⟩, h4⟩ := hb
  obtain ⟨M, rfl⟩ := Int.eq_ofNat_of_zero_le (show 0 ≤ m by omega)
  obtain ⟨O, rfl⟩ := Int.eq_ofNat_of_zero_le (show 0 ≤ o by omega)
  have hO : O < near.length := by omega
  have hM : M < 2 ^ near.length := by omega
  have hM6 : M < 2 ^ 62 := Nat.lt_of_lt_of_le hM (Nat.pow_le_pow_right (by omega) b6)
  have c1 := memory_c near M O hO hNB hM6
  have c2 := mem32_c near M O hNB hO hM6
  rw [← mem_same hO hM] at c2
  generalize memP near M O = D at c1 c2
  simp only [go_sem]
  refine PC.use c1 ?_
  simp only [go_sem]
  refine PC.use c2 ?_
  simp only [go_sem]
  refine ⟨_, fun _ => examples_c.q rfl, ?_⟩
  simp only [go_sem]

  refine convB ?_
  simp
end Go.Proofs.YtdlijlecpopadaaGreatDoor.Rx
end

section
set_option linter.unusedSimpArgs false
set_option linter.unusedVariables false
namespace Go.Aw.D
open Go.Aw Go.RowKit Go.Proofs Go.Proofs.YtdlijlecpopadaaGreatDoor Go.WideShapes Go.ChangeShapes
set_option maxRecDepth 100000
section
variable {H : Type} {e : TypeId × Value → H} {w : World}
end
theorem arg_int {H : Type} {e : TypeId × Value → H} {P : Program} {W : World} {t : TypeId} {r : Reach} {b0 : Nat} {v : Value} {d : DataW H} {ps : List MemPlace} (ht : P.underlying t = some (.int .i64))
    (hval : Value.okWide P W r b0 t v) (hd : DataW.Trod e P W 0 (fun _ => true) true t v d ps) : ∃ x : Int, rep (Sw W) W (.v (.int .i64 x)) v ∧ ∀ n, BK H d ≤ n → bInt n x := by
  obtain ⟨x, rfl⟩ := okWide_int ht hval
  obtain ⟨fuel, h⟩ := hd
  obtain ⟨n, h1, _, hw⟩ := DataW.trod_int ht h
  have h2 : (Value.int .i64 x) = .int .i64 n := by
    have : (Value.cells (.int .i64 x)) = #[.int .i64 x] := rfl
    rw [this] at h1
    simpa using h1
  cases h2
  exact ⟨x, by simp only [rep], fun _ _ => bounds_i64 hw⟩
theorem trodAll_five {H : Type} {enc : TypeId × Value → H} {P : Program} {w : World} {base : Nat} {spare : TypeId → Bool} {held : Bool} {t0 t1 t2 t3 t4 : TypeId} {args : Array Value} {ds : List (DataW H)} {ps : List MemPlace} (h : DataW.TrodAll enc P w base spare held [t0, t1, t2, t3, t4] args.toList ds ps) :
    ∃ v0 v1 v2 v3 v4 d0 d1 d2 d3 d4 p0 p1 p2 p3 p4, args = #[v0, v1, v2, v3, v4] ∧ ds = [d0, d1, d2, d3, d4] ∧ ps = p0 ++ p1 ++ p2 ++ p3 ++ p4 ∧ DataW.Trod enc P w base spare held t0 v0 d0 p0 ∧ DataW.Trod enc P w base spare held t1 v1 d1 p1 ∧ DataW.Trod enc P w base spare held t2 v2 d2 p2 ∧ DataW.Trod enc P w base spare held t3 v3 d3 p3 ∧ DataW.Trod enc P w base spare held t4 v4 d4 p4 := by
  obtain ⟨v0, vs0, d0, ds0, p0, q0, hargs, rfl, rfl, hd0, h0⟩ := trodAll_cons h
  obtain ⟨v1, vs1, d1, ds1, p1, q1, rfl, rfl, rfl, hd1, h1⟩ := trodAll_cons h0
  obtain ⟨v2, vs2, d2, ds2, p2, q2, rfl, rfl, rfl, hd2, h2⟩ := trodAll_cons h1
  obtain ⟨v3, vs3, d3, ds3, p3, q3, rfl, rfl, rfl, hd3, h3⟩ := trodAll_cons h2
  obtain ⟨v4, vs4, d4, ds4, p4, q4, rfl, rfl, rfl, hd4, h4⟩ := trodAll_cons h3
  obtain ⟨rfl, rfl, rfl⟩ := trodAll_nil h4
  exact ⟨v0, v1, v2, v3, v4, d0, d1, d2, d3, d4, p0, p1, p2, p3, p4, by cases args; simp_all, rfl, by simp, hd0, hd1, hd2, hd3, hd4⟩
def rowLaid : List (String × DataW Unit) := [("math/bits.deBruijn32tab", Go.Proofs.YtdlijlecpopadaaGreatDoor.Rows.laid_math_bits_deBruijn32tab), ("math/bits.deBruijn64tab", Go.Proofs.YtdlijlecpopadaaGreatDoor.Rows.laid_math_bits_deBruijn64tab), ("internal/strconv.uint64pow10", Go.Proofs.YtdlijlecpopadaaGreatDoor.Rows.laid_internal_strconv_uint64pow10)]
theorem laid_bru : (Go.Proofs.YtdlijlecpopadaaGreatDoor.Rows.laid_math_bits_deBruijn64tab : DataW Unit) = Lib.tabData .u8 (Lib.deBruijn64tab.map fun z : Nat => (z : Int)) := by kernel_rfl
theorem laid_pow : (Go.Proofs.YtdlijlecpopadaaGreatDoor.Rows.laid_internal_strconv_uint64pow10 : DataW Unit) = Lib.tabData .u64 Lib.pow10Tab := by kernel_rfl
theorem tabsIn_of {W : World} (h : laidMetH Tryz.prog rowLaid W) : TabsIn W := by
  have h0 : laidMet Tryz.prog rowLaid W := (Go.MakeChecks.laidMetH_plain Tryz.prog rowLaid W (by kernel_rfl)) ▸ h
  have h1 := laidMet.tail h0
  have h2 := laidMet.tail h1
  rw [laid_bru] at h1
  rw [laid_pow] at h2
  have b := Lib.tabIs_of_head (g := 3) (by kernel_rfl) (by kernel_rfl) (t := 368) (e := 5) (n := 64) Tryz.underlying368 Tryz.underlying5 (by kernel_rfl) (by kernel_rfl) h1
  have p := Lib.tabIs_of_head (g := 1) (by kernel_rfl) (by kernel_rfl) (t := 341) (e := 299) (n := 20) Tryz.underlying341 Tryz.underlying299 (by kernel_rfl) (by kernel_rfl) h2
  unfold Lib.TabIs World.var? at b p
  rw [show Tryz.prog.globalNamed "math/bits.deBruijn64tab" = some 3 by kernel_rfl] at b
  rw [show Tryz.prog.globalNamed "internal/strconv.uint64pow10" = some 1 by kernel_rfl] at p
  intro t ht
  simp only [tabL, List.mem_cons, List.not_mem_nil, or_false] at ht
  rcases ht with rfl | rfl
  · exact p
  · have : bruTab = ((Lib.deBruijn64tab.map fun z : Nat => (z : Int)).map fun z => Value.int .u8 z).toArray := by simp [bruTab]
    rw [this]
    exact b
end Go.Aw.D
end

section
set_option linter.unusedSimpArgs false
set_option linter.unusedVariables false
namespace Go.Proofs.YtdlijlecpopadaaGreatDoor.relaxMemories
open Go.Aw Go.Aw.D Go.Proofs Go.RowKit Go.ChangeShapes Go.WideShapes Go.ChangeAt
set_option maxRecDepth 100000
def Holds : Prop := ∀ (x0 : Instance) (x1 : Int) (x2 : List Int) (x3 : Int) (x4 : Int), bInstance 1048576 x0 → bInt 1048576 x1 → (bL bInt) 1048576 x2 → bInt 1048576 x3 → bInt 1048576 x4 → PC Tryz.prog 3 [.agg (encInstance x0), .v (.int .i64 x1), .sl (x2.map encInt), .v (.int .i64 x3), .v (.int .i64 x4)] (.v (.bool true))
theorem own : ownKnob Tryz.prog.godebug = none := by kernel_rfl
theorem laid : laidOutB Tryz.prog = true := by kernel_rfl
theorem readInstance : Tryz.prog.readableRec 30 = true ∧ 30 < Tryz.prog.types.size := ⟨by kernel_rfl, by decide +kernel⟩
theorem readInt : Tryz.prog.readableRec 3 = true ∧ 3 < Tryz.prog.types.size := ⟨by kernel_rfl, by decide +kernel⟩
theorem readLInt : Tryz.prog.readableRec 31 = true ∧ 31 < Tryz.prog.types.size := ⟨by kernel_rfl, by decide +kernel⟩
theorem contract (hh : Holds) (H : Type) (enc : TypeId × Value → H) (W : World) (base : Nat) (args : Array Value) (ds gs : List (DataW H)) (before : List MemPlace)
    (hval : ∀ (j : Nat) t v, Tryz.f3.params[j]? = some t → args[j]? = some v → Value.okWide Tryz.prog W .any base t v)
    (hW : DataW.Whole enc Tryz.prog Tryz.f3.params.toList Rows.relaxMemoriesSpec.vars false W args.toList ds gs before) (hk : Rows.uptoSmall H (ds ++ gs) = true) (ht : TabsIn W) :
    Calls Tryz.prog 3 args W fun e W' => ∃ v, e = .returned v ∧ Rows.relaxMemoriesSpec.post enc Tryz.prog Tryz.f3 false true false false W args v W' := by
  have hW' := hW
  obtain ⟨p, q, hA0, hV, rfl, hfz, hnd⟩ := hW
  have hA : DataW.TrodAll enc Tryz.prog W 0 (fun _ => true) true [30, 3, 31, 3, 3] args.toList ds p := hA0
  obtain ⟨v0, v1, v2, v3, v4, d0, d1, d2, d3, d4, p0, p1, p2, p3, p4, rfl, rfl, rfl, h0, h1, h2, h3, h4⟩ := trodAll_five hA
  obtain ⟨rfl, rfl⟩ := trodVars_none hV
  clear hA0
  simp only [List.append_nil] at hW' hk
  have hb : Rows.uptoBulkAll [d0, d1, d2, d3, d4] ≤ 1048576 := of_decide_eq_true hk
  simp only [Rows.uptoBulkAll] at hb
  obtain ⟨x0, r0, b0⟩ := arg_struct Tryz.underlying30 rd_Instance (hval 0 30 v0 rfl rfl) h0
  obtain ⟨x1, r1, b1⟩ := arg_int Tryz.underlying3 (hval 1 3 v1 rfl rfl) h1
  obtain ⟨x2, r2, b2⟩ := arg_slice Tryz.underlying31 rd_LInt (hval 2 31 v2 rfl rfl) h2
  obtain ⟨x3, r3, b3⟩ := arg_int Tryz.underlying3 (hval 3 3 v3 rfl rfl) h3
  obtain ⟨x4, r4, b4⟩ := arg_int Tryz.underlying3 (hval 4 3 v4 rfl rfl) h4
  refine (calls_of_PC (vals := [v0, v1, v2, v3, v4]) (hh x0 x1 x2 x3 x4 (b0 _ (by simp only [BK]; omega)) (b1 _ (by simp only [BK]; omega)) (b2 _ (by simp only [BK]; omega)) (b3 _ (by simp only [BK]; omega)) (b4 _ (by simp only [BK]; omega))) ht (by simp only [repL]; exact ⟨_, _, rfl, r0, ⟨_, _, rfl, r1, ⟨_, _, rfl, r2, ⟨_, _, rfl, r3, ⟨_, _, rfl, r4, rfl⟩⟩⟩⟩⟩)).mono fun e W' ⟨he, hg⟩ => ?_
  subst he
  exact ⟨_, rfl, post_true laid (by
    intro t ht
    have ht : t ∈ [30, 3, 31, 3, 3] := ht
    simp only [List.mem_cons, List.not_mem_nil, or_false] at ht
    rcases ht with rfl | rfl | rfl | rfl | rfl
    · exact readInstance
    · exact readInt
    · exact readLInt
    · exact readInt
    · exact readInt
    ) rfl Tryz.underlying4 rfl (gs := []) (by simpa using hW') rfl rfl rfl hg⟩
def cellsOf : DataW Unit → Array Value
  | .agg l => (l.map fun d => match d with | .lit (.int k n) => Value.int k n | _ => undef).toArray
  | _ => #[]
noncomputable def laidWorld (os : Os) : World :=
  let w0 := World.holding Tryz.prog os ⟨#[], #[], []⟩
  let put (h : Array Obj) (g : Nat) (cs : Array Value) : Array Obj := h.modify g fun
    | .cells _ t frozen => .cells cs t frozen
    | o => o
  let h1 := put w0.heap 2 (cellsOf Rows.laid_math_bits_deBruijn32tab)
  let h2 := put h1 3 (cellsOf Rows.laid_math_bits_deBruijn64tab)
  let h3 := put h2 1 (cellsOf Rows.laid_internal_strconv_uint64pow10)
  { w0 with heap := h3 }
theorem laid_met (os : Os) : laidMet Tryz.prog Rows.relaxMemoriesUptoRow.laid ((laidWorld os).forCall (fun _ _ => 0) ⟨#[], #[.agg #[.slice none 0 0, .slice none 0 0, .slice none 0 0, .slice none 0 0, .slice none 0 0, .slice none 0 0], .int .i64 0, .slice none 0 0, .int .i64 0, .int .i64 0], []⟩).memory :=
  laidMet_of_run' 8 (by kernel_rfl) (by kernel_rfl)
theorem reads (os : Os) {H : Type} (enc : TypeId × Value → H) : ∃ places, DataW.whole enc Tryz.prog ((laidWorld os).forCall (fun _ _ => 0) ⟨#[], #[.agg #[.slice none 0 0, .slice none 0 0, .slice none 0 0, .slice none 0 0, .slice none 0 0, .slice none 0 0], .int .i64 0, .slice none 0 0, .int .i64 0, .int .i64 0], []⟩).memory Tryz.f3.params.toList Rows.relaxMemoriesSpec.vars false (#[.agg #[.slice none 0 0, .slice none 0 0, .slice none 0 0, .slice none 0 0, .slice none 0 0, .slice none 0 0], .int .i64 0, .slice none 0 0, .int .i64 0, .int .i64 0] : Array Value).toList 8 = some ([.agg [.agg [.nil, .nil], .nil, .nil, .nil, .nil], .lit (.int .i64 0), .nil, .lit (.int .i64 0), .lit (.int .i64 0)], [], places) :=
  ⟨[], by kernel_rfl⟩
theorem lifted (hh : Holds) (os : Os) (started : os.Started) (H : Type) (enc : TypeId × Value → H) (F : Stop.Interp) :
    ReturnsInHanded {} Tryz.checked os 3 .any ((Rows.OpenSpec.upto Rows.relaxMemoriesSpec).preRow enc Tryz.prog Tryz.f3 Rows.relaxMemoriesUptoRow.domain false Rows.relaxMemoriesUptoRow.laid) (((Rows.OpenSpec.upto Rows.relaxMemoriesSpec).at F).post enc Tryz.prog Tryz.f3 false true false false) := by
  obtain ⟨places, hx⟩ := reads os enc
  refine returnsInHanded_of_row (C := Tryz.checked) (s := Rows.OpenSpec.upto Rows.relaxMemoriesSpec) own started (by kernel_rfl) Tryz.func3
    (witness_row_atRef (enc := enc) (C := Tryz.checked) false (laidWorld os) #[.agg #[.slice none 0 0, .slice none 0 0, .slice none 0 0, .slice none 0 0, .slice none 0 0, .slice none 0 0], .int .i64 0, .slice none 0 0, .int .i64 0, .int .i64 0] rfl (by kernel_rfl) (by kernel_rfl) (by kernel_rfl)
      (OpenSpec.preRow_of_cond 8 hx (by kernel_rfl) (fun k hk => by cases hk; kernel_rfl) (by kernel_rfl) (laid_met os))) ?_
  intro W base args ds gs before hval hW _ hk _ hlaid _ _
  exact contract hh H enc W base args ds gs before hval hW (hk _ rfl) (tabsIn_of hlaid)
theorem and_mk {a b : Bool} (h1 : a = true) (h2 : b = true) : (a && b) = true := by rw [h1, h2]; rfl
set_option maxHeartbeats 4000000 in
theorem closed : joinedFacts Tryz.prog 3 Tryz.f3 (Rows.OpenSpec.upto Rows.relaxMemoriesSpec).bare Rows.relaxMemoriesUptoRow = true := by
  unfold joinedFacts
  repeat' (first | with_reducible refine and_mk ?_ ?_ | (as_aux_lemma => kernel_rfl))
set_option maxHeartbeats 4000000 in
theorem over (hh : Holds) : Rows.RelaxMemoriesUptoSaid :=
  OpenClaim.holds_of_cond 3 Tryz.f3 rfl rfl rfl rfl rfl rfl rfl ⟨rfl, rfl, rfl, rfl, rfl⟩ rfl rfl rfl rfl rfl (by as_aux_lemma => kernel_rfl) Tryz.func3 closed
    (of_decide_eq_true (by as_aux_lemma => kernel_rfl)) (by unfold Func.isWrapper; first | (rw [if_pos (by decide +kernel)]; kernel_rfl) | (rw [if_neg (by decide +kernel)]; exact ⟨rfl, rfl⟩))
    (fun os started H enc _ F => by rw [OpenClaim.pre_eq_preRow]; exact lifted hh os started H enc F)
set_option maxHeartbeats 4000000 in
theorem card (hh : Holds) : Rows.RelaxMemoriesUptoCardSaid :=
  Claim7.holds_tied_plain_at .later [] _ _ _ _ (over hh) (fun _ h => by cases h) (by as_aux_lemma => kernel_rfl) (fun _ h => by cases h) relaxMemoriesUpto_row_tie rfl ⟨rfl, rfl⟩ (by as_aux_lemma => kernel_rfl) rfl
    (fun f fn hf hfn => by
      obtain rfl : f = 3 := Option.some.inj ((show Tryz.prog.funcNamed "lorry/lorrylaw32.RelaxMemories" = some 3 by as_aux_lemma => kernel_rfl).symm.trans hf) |>.symm
      obtain rfl : fn = Tryz.f3 := (Option.some.inj (Tryz.func3.symm.trans hfn)).symm
      refine ⟨by as_aux_lemma => kernel_rfl, fun j t ht => ?_⟩
      have ht : (#[30, 3, 31, 3, 3] : Array TypeId)[j]? = some t := ht
      have hm := Array.mem_of_getElem? ht
      simp only [Array.mem_def, List.mem_cons, List.not_mem_nil, or_false, or_self] at hm
      rcases hm with rfl | rfl | rfl | rfl
      · exact (show Tryz.prog.wantsStandIn 30 = false by as_aux_lemma => kernel_rfl)
      · exact (show Tryz.prog.wantsStandIn 3 = false by as_aux_lemma => kernel_rfl)
      · exact (show Tryz.prog.wantsStandIn 31 = false by as_aux_lemma => kernel_rfl)
      · exact (show Tryz.prog.wantsStandIn 3 = false by as_aux_lemma => kernel_rfl)) (by as_aux_lemma => kernel_rfl)
end Go.Proofs.YtdlijlecpopadaaGreatDoor.relaxMemories
end

section
namespace Go.Proofs.YtdlijlecpopadaaGreatDoor
open Go.Aw Go.Aw.D
theorem inB_of {x : Instance} (h : bInstance 1048576 x) : InB x := by
  obtain ⟨⟨hpl, har⟩, hty, hor, hap, hbe⟩ := h
  exact ⟨hpl.1, hpl.2, har.1, fun a ha => ⟨(har.2 a ha).2.2.2.2.1.1, (har.2 a ha).2.2.2.2.2.1⟩, hty.1, fun t ht => ⟨(hty.2 t ht).1, (hty.2 t ht).2.2.2.2.1.1⟩, hor.1, fun t ht => ⟨(hor.2 t ht).1, (hor.2 t ht).2.1.1⟩, hap.1, hbe.1⟩
theorem relaxMemories_holds : Rows.RelaxMemoriesUptoCardSaid := relaxMemories.card fun x n l m o hx _ hl _ _ => Rx.relaxMemories_c x n l m o (inB_of hx) hl.1
#print axioms relaxMemories_holds
end Go.Proofs.YtdlijlecpopadaaGreatDoor
end
