/- Texts joined by a program: NwB, NwC. -/
import Derived.Test.YtmidcjlidploaaaGreatDoorSb19

section
set_option linter.unusedSimpArgs false
set_option linter.unusedVariables false
namespace Go.Proofs.YtmidcjlidploaaaGreatDoor.Nw
open Go.Aw Go.Aw.D Go.Proofs Ty
open Go.Proofs.YtmidcjlidploaaaGreatDoor
set_option maxRecDepth 100000
theorem lenB (n : Nat) : badLen n 1 16 = ((n : Int) == 0 || decide ((n : Int) > 16)) := by
  unfold badLen
  rw [Bool.eq_iff_iff]
  simp only [Bool.or_eq_true, decide_eq_true_eq, beq_iff_eq]
  omega
theorem badPt (p : Point) : badPoint p = ((!inR p.t 0 4096 || decide (p.a < p.t)) || decide (p.a > IntKind.i64.wrap (p.t + 4096))) := by
  unfold badPoint inR
  rw [Bool.eq_iff_iff]
  simp only [Bool.or_eq_true, decide_eq_true_eq, Bool.not_eq_true', Bool.and_eq_false_iff, decide_eq_false_iff_not]
  omega
theorem tcheck_c (l : List Point) (hl : l.length ≤ 1048576) : PC Tryz.prog 132 [.sl (l.map encPoint)] (.sl ((travelR l).map encFault)) := by
  refine PC.body (c := Tryz.f132.body.getD .skip) (fun t => t == 3) mixed Tryz.func132 rfl (by kernel_rfl) ?_
  unfold Tryz.f132
  simp only [Option.getD_some]
  simp only [go_sem]
  refine anew_i fun j hj => ?_
  simp only [go_sem]
  refine acond_join (fun ρ H => ∃ j, ρ 0 = .sl (l.map encPoint) ∧ ρ 3 = .os j ∧ H j = some (faultRow (opt (badLen l.length 1 16) ⟨4, ByteArray.empty⟩))) ?_ fun K hK => acond_i (fun hb => ?_) (fun hb => ?_)
  · rintro ρ H ⟨j, h0, h3, hH⟩
    simp only [go_sem, h0, h3]
    generalize hpre : opt (badLen l.length 1 16) (⟨4, ByteArray.empty⟩ : Fault) = pre at hH
    have hpl : pre.length ≤ 1 := by rw [← hpre]; exact opt_len _ _
    refine ⟨fun ρ H => ∃ k : Nat, k ≤ l.length ∧ ρ 0 = .sl (l.map encPoint) ∧ ρ 19 = .sl (l.map encPoint) ∧ ρ 20 = int l.length ∧ ρ 21 = int k ∧ ∃ j, ρ 3 = .os j ∧ H j = some (faultRow (pre ++ (List.range k).flatMap (pointFaults l))), fun ρ _ => l.length - natOf (ρ 21), ⟨0, Nat.zero_le _, by simp only [go_sem, h0], by simp only [go_sem, h0], by simp only [go_sem, List.length_map], by simp only [go_sem]; rfl, j, by simp only [go_sem, h3], by simpa using hH⟩, ?_⟩
    rintro ρ H ⟨k, hk, h0, h19, h20, h21, j, h3, hH⟩
    generalize hes : pre ++ (List.range k).flatMap (pointFaults l) = es at hH
    have hlen : es.length ≤ 2 * k + 1 := by
      have := flat_len_le (pf_len l) (List.range k)
      rw [← hes, List.length_append]; rw [List.length_range] at this; omega
    simp only [go_sem, h0, h3, h19, h20, h21]
    refine acond_i (fun hlt => ?_) (fun hge => ?_)
    · have hlt := le_of_lt_b hlt
      obtain ⟨p, hp⟩ := getIn hlt
      have b1 := inB hlt
      simp only [go_sem, h0, h3, h19, h20, h21, b1, getD_map hp]
      refine anew_i fun i hi => ?_
      simp only [go_sem]
      refine wputE_n (r := ⟨140, 2, [[int 0, int 0]]⟩) (by rw [updH_same]) (by simp [encPoint_len]) ?_
      have hji : j ≠ i := ne_new hH hi
      have hH' : updH (updH H i (some ⟨140, 2, [[int 0, int 0]]⟩)) i (some ⟨140, 2, [encPoint p]⟩) j = some (faultRow es) := by rw [updH_ne _ _ _ _ hji, updH_ne _ _ _ _ hji, hH]
      have hi' : updH (updH H i (some ⟨140, 2, [[int 0, int 0]]⟩)) i (some ⟨140, 2, [encPoint p]⟩) i = some ⟨140, 2, [encPoint p]⟩ := updH_same _ _ _
      simp only [go_sem]
      refine PC.use (itoa_c k (by omega)) ?_
      simp only [go_sem, hi']
      refine PC.use (within_c _ _ _) ?_
      simp only [go_sem, hi']
      refine acond_join (fun ρ' H' => ∃ j', ρ' 0 = .sl (l.map encPoint) ∧ ρ' 19 = .sl (l.map encPoint) ∧ ρ' 20 = int l.length ∧ ρ' 21 = int k ∧ ρ' 4 = int k ∧ ρ' 6 = str (decN k) ∧ ρ' 3 = .os j' ∧ ρ' 5 = .op i 0 0 ∧ H' i = some ⟨140, 2, [encPoint p]⟩ ∧ j' ≠ i ∧
        H' j' = some (faultRow (es ++ opt (badPoint p) ⟨2, decN k⟩))) ?_ fun K hK => acond_i (fun hb => ?_) (fun hb => ?_)
      · rintro ρ H ⟨j, h0, h19, h20, h21, h4, h6, h3, h5, hi, hji, hH⟩
        generalize hfs : es ++ opt (badPoint p) ⟨2, decN k⟩ = fs at hH
        have hfl : fs.length ≤ 2 * k + 2 := by
          have := opt_len (badPoint p) (⟨2, decN k⟩ : Fault)
          rw [← hfs, List.length_append]; omega
        simp only [go_sem]
        refine adraw_q (by rfl) (by kernel_rfl) ?_
        simp only [go_sem, h0, h3, h4, h5, hi]
        obtain ⟨q, hq⟩ := getIn (show k - 1 < l.length by omega)
        simp only [go_sem, h0, h3, h4, h5, hi, wrapP (show k ≤ 4611686018427387904 by omega), getD_map hq]
        have hkk : k ≤ 4611686018427387904 := by omega
        have hg : decide ((k : Int) > 0) = true → 0 ≤ IntKind.i64.wrap ((k : Int) - 1) ∧ IntKind.i64.wrap ((k : Int) - 1) < (l.length : Int) := fun h => by
          have : (k : Int) > 0 := by simpa using h
          rw [wrapQ hkk]; omega
        have hpf : pre ++ (List.range (k + 1)).flatMap (pointFaults l) = fs ++ opt (decide ((k : Int) > 0) && noFifo p q) ⟨13, decN k⟩ := by
          rw [flat_range_succ, ← List.append_assoc, hes, ← hfs, pointFaults, ptAt_get hp, ptAt_get hq, List.append_assoc]
        refine ⟨hg, fun h => hg h.1, acond_joinL (fun ρ' H' => ρ' 0 = .sl (l.map encPoint) ∧ ρ' 19 = .sl (l.map encPoint) ∧ ρ' 20 = int l.length ∧ ρ' 21 = int k ∧ ∃ j, ρ' 3 = .os j ∧ H' j = some (faultRow (pre ++ (List.range (k + 1)).flatMap (pointFaults l)))) ?_ fun K hK _ _ => acond_i (fun hb => ?_) (fun hb => ?_)⟩
        · rintro ρ H ⟨h0, h19, h20, h21, j, h3, hH⟩
          simp only [go_sem, h0, h3, h19, h20, h21, wrapS hkk]
          exact ⟨⟨k + 1, hlt, rfl, j, rfl, hH⟩, by simp only [natOf_int]; omega⟩
        · simp only [go_sem, h0, h3, h6]
          refine wappE_i hH ⟨rfl, rfl⟩ (by simp only [go_sem]) (by simp only [List.length_map, List.length_cons, List.length_nil]; omega) (fun j' hj' => ?_)
          simp only [go_sem, h0, h3, h4]
          refine hK _ _ ⟨by simp only [go_sem, h0], by simp only [go_sem, h19], by simp only [go_sem, h20], by simp only [go_sem, h21], j', by simp only [go_sem], ?_⟩
          rw [hpf, opt_t (by exact hb)]
          exact row_app (l' := [⟨13, decN k⟩]) rfl
        · simp only [go_sem]
          refine hK _ _ ⟨by simp only [go_sem, h0], by simp only [go_sem, h19], by simp only [go_sem, h20], by simp only [go_sem, h21], j, by simp only [go_sem, h3], ?_⟩
          rw [hpf, opt_f (by exact hb), List.append_nil, hH]
      · simp only [go_sem, h0, h3]
        refine wappE_i hH' ⟨rfl, rfl⟩ (by simp only [go_sem]) (by simp only [List.length_map, List.length_cons, List.length_nil]; omega) (fun j' hj' => ?_)
        simp only [go_sem, h0, h3]
        refine hK _ _ ⟨j', by simp only [go_sem, h0], by simp only [go_sem, h19], by simp only [go_sem, h20], by simp only [go_sem, h21], by simp only [go_sem], by simp only [go_sem], by simp only [go_sem], by simp only [go_sem], keep_app hi' hji hj', (ne_new hi' hj').symm, ?_⟩
        rw [opt_t ((badPt p).trans hb)]
        exact row_app (l' := [⟨2, decN k⟩]) rfl
      · simp only [go_sem]
        refine hK _ _ ⟨j, by simp only [go_sem, h0], by simp only [go_sem, h19], by simp only [go_sem, h20], by simp only [go_sem, h21], by simp only [go_sem], by simp only [go_sem], by simp only [go_sem, h3], by simp only [go_sem], by rw [updH_same], hji, ?_⟩
        rw [hH', opt_f ((badPt p).trans hb), List.append_nil]
    · have hge := eq_of_ge_b hk hge
      subst hge
      simp only [go_sem, h3]
      refine .row _ _ _ (by rw [hH, ← hes, ← hpre]) ?_
      exact ConvE.refl _
  · simp only [go_sem]
    refine wappE_i (r := faultRow []) (by simp only [go_sem]; rfl) ⟨rfl, rfl⟩ (by simp only [go_sem]) (by simp) (fun j' hj' => ?_)
    simp only [go_sem]
    refine hK _ _ ⟨j', rfl, rfl, ?_⟩
    rw [opt_t ((lenB _).trans hb)]
    exact row_app (l := []) (l' := [⟨4, ByteArray.empty⟩]) rfl
  · simp only [go_sem]
    refine hK _ _ ⟨j, rfl, rfl, ?_⟩
    rw [opt_f ((lenB _).trans hb), updH_same]; rfl
def slowE (l : List Point) : List Int := opt (decide ((l.length : Int) > 16)) 4 ++ (List.range l.length).flatMap fun i => opt (badSlow l i) 2
theorem badSl (l : List Point) {k : Nat} {p r : Point} (hp : l[k]? = some p) (hr : l[k - 1]? = some r) :
    badSlow l k = ((!inR p.t 0 4096 || decide ((k : Int) > 0) && decide (p.t ≤ r.t)) || !inR p.a 0 4096) := by
  rw [badSlow, ptAt_get hp, ptAt_get hr]
  cases !inR p.t 0 4096 <;> cases !inR p.a 0 4096 <;> simp
theorem slow_c (l : List Point) (hl : l.length ≤ 1048576) : PC Tryz.prog 133 [.sl (l.map encPoint)] (.sl ((slowE l).map encInt)) := by
  refine PC.body (c := Tryz.f133.body.getD .skip) (fun t => t == 3) mixed Tryz.func133 rfl (by kernel_rfl) ?_
  unfold Tryz.f133
  simp only [Option.getD_some]
  simp only [go_sem]
  refine anew_i fun j hj => ?_
  simp only [go_sem]
  refine acond_join (fun ρ H => ∃ j, ρ 0 = .sl (l.map encPoint) ∧ ρ 3 = .os j ∧ H j = some (errRow (opt (decide ((l.length : Int) > 16)) 4))) ?_ fun K hK => acond_i (fun hb => ?_) (fun hb => ?_)
  · rintro ρ H ⟨j, h0, h3, hH⟩
    simp only [go_sem, h0, h3]
    generalize hpre : opt (decide ((l.length : Int) > 16)) (4 : Int) = pre at hH
    have hpl : pre.length ≤ 1 := by rw [← hpre]; exact opt_len _ _
    refine ⟨fun ρ H => ∃ k : Nat, k ≤ l.length ∧ ρ 0 = .sl (l.map encPoint) ∧ ρ 12 = .sl (l.map encPoint) ∧ ρ 13 = int l.length ∧ ρ 14 = int k ∧ ∃ j, ρ 3 = .os j ∧ H j = some (errRow (pre ++ (List.range k).flatMap fun i => opt (badSlow l i) 2)), fun ρ _ => l.length - natOf (ρ 14), ⟨0, Nat.zero_le _, by simp only [go_sem, h0], by simp only [go_sem, h0], by simp only [go_sem, List.length_map], by simp only [go_sem]; rfl, j, by simp only [go_sem, h3], by simpa using hH⟩, ?_⟩
    rintro ρ H ⟨k, hk, h0, h12, h13, h14, j, h3, hH⟩
    generalize hes : pre ++ (List.range k).flatMap (fun i => opt (badSlow l i) (2 : Int)) = es at hH
    have hlen : es.length ≤ k + 1 := by
      have := flat_len_le (f := fun x => opt (badSlow l x) (2 : Int)) (c := 1) (fun x => opt_len _ _) (List.range k)
      rw [← hes, List.length_append]; rw [List.length_range] at this; omega
    simp only [go_sem, h0, h3, h12, h13, h14]
    refine acond_i (fun hlt => ?_) (fun hge => ?_)
    · have hlt := le_of_lt_b hlt
      obtain ⟨p, hp⟩ := getIn hlt
      obtain ⟨r, hr⟩ := getIn (show k - 1 < l.length by omega)
      have hkk : k ≤ 4611686018427387904 := by omega
      have b1 := inB hlt
      simp only [go_sem, h0, h3, h12, h13, h14, b1, getD_map hp]
      refine anew_i fun i hi => ?_
      simp only [go_sem]
      refine wputE_n (updH_same _ _ _) (by simp [encPoint_len]) ?_
      have hji : j ≠ i := ne_new hH hi
      generalize hG : updH (updH H i _) i _ = G
      have hH' : G j = some (errRow es) := by rw [← hG, updH_ne _ _ _ _ hji, updH_ne _ _ _ _ hji, hH]
      have hi' : G i = some ⟨140, 2, [encPoint p]⟩ := by rw [← hG, updH_same]; rfl
      clear hG
      simp only [go_sem]
      refine adraw_q (by rfl) (by kernel_rfl) ?_
      simp only [go_sem, h0, h3, hi', wrapP hkk, getD_map hr]
      refine ⟨_, (ntick_c _).q rfl, ?_⟩
      simp only [go_sem, h0, h3, hi', wrapP hkk, getD_map hr]
      have hg : decide ((k : Int) > 0) = true → 0 ≤ IntKind.i64.wrap ((k : Int) - 1) ∧ IntKind.i64.wrap ((k : Int) - 1) < (l.length : Int) := fun h => by
        have : (k : Int) > 0 := by simpa using h
        rw [wrapQ hkk]; omega
      refine ⟨fun h => hg h.2, _, fun _ => (ntick_c _).q rfl, ?_⟩
      simp only [go_sem, h0, h3, hi', wrapP hkk, getD_map hr]
      have hfl : pre ++ (List.range (k + 1)).flatMap (fun i => opt (badSlow l i) 2) = es ++ opt (badSlow l k) 2 := by rw [flat_range_succ, ← List.append_assoc, hes]
      refine acond_joinL (fun ρ' H' => ρ' 0 = .sl (l.map encPoint) ∧ ρ' 12 = .sl (l.map encPoint) ∧ ρ' 13 = int l.length ∧ ρ' 14 = int k ∧ ∃ j, ρ' 3 = .os j ∧ H' j = some (errRow (es ++ opt (badSlow l k) 2))) ?_ fun K hK _ _ => acond_i (fun hb => ?_) (fun hb => ?_)
      · clear h0 h12 h13 h14 h3
        rintro ρ H ⟨h0, h12, h13, h14, j, h3, hH⟩
        simp only [go_sem, h0, h3, h12, h13, h14, wrapS hkk]
        exact ⟨⟨k + 1, hlt, rfl, j, rfl, by rw [hfl]; exact hH⟩, by simp only [natOf_int]; omega⟩
      · simp only [go_sem, h0, h3]
        refine wappE_i hH' ⟨rfl, rfl⟩ (by simp only [go_sem]) (by simp only [List.length_map, List.length_cons, List.length_nil]; omega) (fun j' hj' => ?_)
        simp only [go_sem, h0, h3]
        refine hK _ _ ⟨by simp only [go_sem, h0], by simp only [go_sem, h12], by simp only [go_sem, h13], by simp only [go_sem, h14], j', by simp only [go_sem], ?_⟩
        rw [opt_t ((badSl l hp hr).trans hb)]
        exact row_appI (l' := [2]) rfl
      · simp only [go_sem]
        refine hK _ _ ⟨by simp only [go_sem, h0], by simp only [go_sem, h12], by simp only [go_sem, h13], by simp only [go_sem, h14], j, by simp only [go_sem, h3], ?_⟩
        rw [opt_f ((badSl l hp hr).trans hb), List.append_nil, hH']
    · have hge := eq_of_ge_b hk hge
      subst hge
      simp only [go_sem, h3]
      refine .row _ _ _ (by rw [hH, ← hes, ← hpre]) ?_
      exact ConvE.refl _
  · simp only [go_sem]
    refine wappE_i (r := errRow []) (by simp only [go_sem]; rfl) ⟨rfl, rfl⟩ (by simp only [go_sem]) (by simp) (fun j' hj' => ?_)
    simp only [go_sem]
    refine hK _ _ ⟨j', rfl, rfl, ?_⟩
    rw [opt_t hb]
    exact row_appI (l := []) (l' := [4]) rfl
  · simp only [go_sem]
    refine hK _ _ ⟨j, rfl, rfl, ?_⟩
    rw [opt_f hb, updH_same]; rfl
end Go.Proofs.YtmidcjlidploaaaGreatDoor.Nw
end

section
set_option linter.unusedSimpArgs false
set_option linter.unusedVariables false
namespace Go.Proofs.YtmidcjlidploaaaGreatDoor.Nw
open Go.Aw Go.Aw.D Go.Proofs Ty
open Go.Proofs.YtmidcjlidploaaaGreatDoor
set_option maxRecDepth 100000
section
variable {α : Type} (enc : α → AV) (eqv : α → α → Bool)
def setE (a : α) : List AV := [enc a, boo true]
abbrev setRow (ms : List α) : Row := ⟨0, 2, ms.map (setE enc)⟩
def putS (ms : List α) (a : α) : List α := if ms.any (eqv a) = true then ms else ms ++ [a]
variable {enc eqv}
theorem mfind_set {P : Program} {kt : TypeId} (a : α) (hk : ∀ b, keyEq P kt (enc a) (enc b) = some (eqv a b)) : ∀ (ms : List α) (i : Nat), mfind (keyEq P kt (enc a)) (ms.map (setE enc)) i = some ((ms.findIdx? (eqv a)).map (· + i))
  | [], i => rfl
  | b :: ms, i => by
    have ih := mfind_set a hk ms (i + 1)
    have hb : keyEq P kt (enc a) ((setE enc b).getD 0 .any) = some (eqv a b) := hk b
    rw [List.map_cons, mfind, hb, List.findIdx?_cons]
    cases eqv a b with
    | true => simp
    | false =>
      simp only [Bool.false_eq_true, if_false]
      rw [ih]
      cases ms.findIdx? (eqv a) with
      | none => rfl
      | some j => simp; omega
theorem mfind_set0 {P : Program} {kt : TypeId} (a : α) (hk : ∀ b, keyEq P kt (enc a) (enc b) = some (eqv a b)) (ms : List α) : mfind (keyEq P kt (enc a)) (ms.map (setE enc)) 0 = some (ms.findIdx? (eqv a)) := by
  rw [mfind_set a hk]; cases ms.findIdx? (eqv a) <;> rfl
theorem mget_set (ms : List α) (a : α) : mget false (boo false) (ms.map (setE enc)) (ms.findIdx? (eqv a)) = boo (ms.any (eqv a)) := by
  unfold mget
  induction ms with
  | nil => rfl
  | cons b ms ih =>
    rw [List.findIdx?_cons, List.any_cons]
    cases eqv a b with
    | true => simp [setE]
    | false =>
      cases hi : ms.findIdx? (eqv a) with
      | none => rw [hi] at ih; simpa using ih
      | some j => rw [hi] at ih; simp at ih ⊢; exact ih
theorem mput_set (he : ∀ a b, eqv a b = true → enc a = enc b) (ms : List α) (a : α) : mput (ms.map (setE enc)) (ms.findIdx? (eqv a)) (enc a) (boo true) = (putS eqv ms a).map (setE enc) := by
  unfold mput putS
  cases hi : ms.findIdx? (eqv a) with
  | none =>
    have : ms.any (eqv a) = false := by
      rw [List.findIdx?_eq_none_iff] at hi
      exact List.any_eq_false.2 fun x hx => by rw [hi x hx]; simp
    simp only [this, Bool.false_eq_true, if_false, List.map_append, List.map_cons, List.map_nil]
    rfl
  | some i =>
    obtain ⟨hlt, h1, _⟩ := List.findIdx?_eq_some_iff_getElem.1 hi
    have : ms.any (eqv a) = true := List.any_eq_true.2 ⟨_, List.getElem_mem hlt, h1⟩
    simp only [this, if_true]
    apply List.ext_getElem
    · simp
    · intro k hk1 hk2
      rw [List.getElem_set]
      split
      · next e => subst e; simp only [List.getElem_map, setE, he _ _ h1]
      · rfl
theorem any_put (ht : ∀ a b c, eqv a b = true → eqv b c = true → eqv a c = true) (ms : List α) (a b : α) : (putS eqv ms a).any (eqv b) = (ms.any (eqv b) || eqv b a) := by
  unfold putS
  split
  · next h =>
    obtain ⟨c, hc, h1⟩ := List.any_eq_true.1 h
    cases hb : eqv b a with
    | false => simp
    | true =>
      have : ms.any (eqv b) = true := List.any_eq_true.2 ⟨c, hc, ht _ _ _ hb h1⟩
      simp [this]
  · simp [List.any_append]
end
def Keeps (H H' : Heap) : Prop := ∀ k r, H k = some r → H' k = some r
theorem Keeps.refl (H : Heap) : Keeps H H := fun _ _ h => h
theorem Keeps.off {H H' : Heap} (h : Keeps H H') {i : Nat} (hi : H' i = none) : H i = none := by
  cases e : H i with
  | none => rfl
  | some r => rw [h i r e] at hi; cases hi
theorem Keeps.new {H H' : Heap} (h : Keeps H H') {i : Nat} (hi : H' i = none) (a : Option Row) : Keeps H (updH H' i a) := fun k r hk => by
  rw [updH_ne _ _ _ _ (ne_new (h k r hk) hi)]; exact h k r hk
theorem Keeps.set {H H' : Heap} (h : Keeps H H') {i : Nat} (hi : H i = none) (a : Option Row) : Keeps H (updH H' i a) := fun k r hk => by
  rw [updH_ne _ _ _ _ (ne_new hk hi)]; exact h k r hk
theorem Keeps.app {H H' : Heap} (h : Keeps H H') {i j : Nat} (hi : H i = none) (hj : H' j = none) (a : Option Row) : Keeps H (updH (updH H' i none) j a) :=
  (h.set hi none).new (by by_cases e : j = i; · subst e; exact updH_same _ _ _
                          · rw [updH_ne _ _ _ _ e]; exact hj) a
theorem way_eq (a b : Arc) : keyEq Tryz.prog 173 (.agg (wayA a)) (.agg (wayA b)) = some (sameArc a b) := by
  unfold keyEq
  simp only [fl173]
  simp [wayA, eqCells, eqCell, andO, sameArc, Bool.and_assoc]
theorem way_plain (a : Arc) : plainKey Tryz.prog 173 (.agg (wayA a)) = true := by
  unfold plainKey
  simp only [fl173]
  rw [show isStructT Tryz.prog 173 = true by kernel_rfl]
  simp [wayA, eqCells, eqCell, andO]
theorem way_enc (a b : Arc) (h : sameArc a b = true) : AV.agg (wayA a) = AV.agg (wayA b) := by
  unfold sameArc at h
  simp only [Bool.and_eq_true, beq_iff_eq] at h
  unfold wayA
  rw [h.1.1, h.1.2, h.2]
theorem slowE_len (l : List Point) : (slowE l).length ≤ l.length + 1 := by
  have h1 := opt_len (decide ((l.length : Int) > 16)) (4 : Int)
  have h2 := flat_len_le (f := fun x => opt (badSlow l x) (2 : Int)) (c := 1) (fun x => opt_len _ _) (List.range l.length)
  rw [slowE, List.length_append]
  rw [List.length_range] at h2
  omega
theorem badEnd (n : Nat) (a : Arc) : badEnds n a = (!(decide (a.src ≥ 0) && decide (a.src < (n : Int))) || !(decide (a.dst ≥ 0) && decide (a.dst < (n : Int)))) := by
  unfold badEnds
  rw [Bool.eq_iff_iff]
  simp only [Bool.or_eq_true, decide_eq_true_eq, Bool.not_eq_true', Bool.and_eq_false_iff, decide_eq_false_iff_not]
  omega
theorem badArc_b (a : Arc) : badArc a = ((((decide (a.profile < 0) || decide (a.profile > 7)) || decide (a.miles < 0)) || decide (a.miles > 10000)) || a.src == a.dst) := rfl
abbrev wayRow (ms : List Arc) : Row := setRow (fun a => .agg (wayA a)) ms
theorem way_find (a : Arc) (ms : List Arc) : mfind (keyEq Tryz.prog 173 (.agg (wayA a))) (wayRow ms).es 0 = some (ms.findIdx? (sameArc a)) :=
  mfind_set0 (enc := fun a : Arc => AV.agg (wayA a)) (eqv := sameArc) a (fun b => way_eq a b) ms
theorem way_get (a : Arc) (ms : List Arc) : mget false (boo false) (wayRow ms).es (ms.findIdx? (sameArc a)) = boo (ms.any (sameArc a)) := mget_set (enc := fun a : Arc => AV.agg (wayA a)) ms a
def arcE (n : Network) (a : Arc) (known : Bool) : List Int :=
  opt (badEnds n.places.length a) 11 ++ opt (badArc a) 2 ++ opt known 6 ++ (travelR a.travel).map (fun f => f.err) ++ slowE a.slow
theorem arc_c {H0 : Heap} {K : AV → Heap → Prop} (n : Network) (a : Arc) (ms : List Arc) {mm : Nat} (R : H0 mm = some (wayRow ms)) (ht : a.travel.length ≤ 1048576) (hs : a.slow.length ≤ 1048576)
    (hK : ∀ j H', Keeps H0 H' → H0 j = none → H' j = some (errRow (arcE n a (ms.any (sameArc a)))) → K (.os j) H') :
    FCalls Tryz.prog 91 [.agg (encNetwork n), .agg (encArc a), .om mm] H0 K := by
  refine FCalls.body (c := Tryz.f91.body.getD .skip) (fun t => t == 7) mixed Tryz.func91 rfl (by kernel_rfl) ?_
  unfold Tryz.f91
  simp only [Option.getD_some]
  simp only [go_sem]
  refine anew_i fun j hj => ?_
  simp only [go_sem]
  refine PC.use (nplace_c _ _) ?_
  simp only [go_sem]
  refine ⟨_, fun _ => (nplace_c _ _).q rfl, ?_⟩
  simp only [go_sem]
  have kp0 : Keeps H0 (updH H0 j (some (errRow []))) := (Keeps.refl H0).new hj _
  have hH0 : updH H0 j (some (errRow [])) j = some (errRow []) := updH_same _ _ _
  refine acond_join (fun ρ' H' => ρ' 2 = .om mm ∧ ρ' 4 = .rp (encArc a) 0 ∧ Keeps H0 H' ∧ ∃ j', ρ' 7 = .os j' ∧ H0 j' = none ∧ H' j' = some (errRow ([] ++ opt (badEnds n.places.length a) 11))) ?_ fun K hK => acond_i (fun hb => ?_) (fun hb => ?_)
  rotate_left
  · simp only [go_sem]
    refine wappE_i hH0 ⟨rfl, rfl⟩ (by simp only [go_sem]) (by simp) (fun j' hj' => ?_)
    simp only [go_sem]
    refine hK _ _ ⟨by simp only [go_sem], by simp only [go_sem], kp0.app hj hj' _, j', by simp only [go_sem], kp0.off hj', ?_⟩
    rw [opt_t ((badEnd _ _).trans hb)]
    exact row_appI (l := []) (l' := [11]) rfl
  · simp only [go_sem]
    refine hK _ _ ⟨by simp only [go_sem], by simp only [go_sem], kp0, j, by simp only [go_sem], hj, ?_⟩
    rw [opt_f ((badEnd _ _).trans hb), List.append_nil]; exact hH0
  clear kp0 hH0 hj
  rintro ρ H ⟨h2, h4, kp, j, h7, hj, hH⟩
  generalize hes1 : [] ++ opt (badEnds n.places.length a) (11 : Int) = es1 at hH
  have hl1 : es1.length ≤ 1 := by rw [← hes1, List.nil_append]; exact opt_len _ _
  simp only [go_sem, h2, h4]
  refine acond_join (fun ρ' H' => ρ' 2 = .om mm ∧ ρ' 4 = .rp (encArc a) 0 ∧ Keeps H0 H' ∧ ∃ j', ρ' 7 = .os j' ∧ H0 j' = none ∧ H' j' = some (errRow (es1 ++ opt (badArc a) 2))) ?_ fun K hK => acond_i (fun hb => ?_) (fun hb => ?_)
  rotate_left
  · simp only [go_sem, h7]
    refine wappE_i hH ⟨rfl, rfl⟩ (by simp only [go_sem]) (by simp only [List.length_map, List.length_cons, List.length_nil]; omega) (fun j' hj' => ?_)
    simp only [go_sem]
    refine hK _ _ ⟨by simp only [go_sem, h2], by simp only [go_sem, h4], kp.app hj hj' _, j', by simp only [go_sem], kp.off hj', ?_⟩
    rw [opt_t ((badArc_b _).trans hb)]
    exact row_appI (l' := [2]) rfl
  · simp only [go_sem]
    refine hK _ _ ⟨by simp only [go_sem, h2], by simp only [go_sem, h4], kp, j, by simp only [go_sem, h7], hj, ?_⟩
    rw [opt_f ((badArc_b _).trans hb), List.append_nil, hH]
  clear kp hj hH h2 h4 h7
  rintro ρ H ⟨h2, h4, kp, j, h7, hj, hH⟩
  generalize hes2 : es1 ++ opt (badArc a) (2 : Int) = es2 at hH
  have hl2 : es2.length ≤ 2 := by rw [← hes2, List.length_append]; have := opt_len (badArc a) (2 : Int); omega
  simp only [go_sem, h2, h4]
  refine PC.use (wayOf_c a) ?_
  simp only [go_sem, h2, h4]
  refine alookup_i (z := boo false) (kp _ _ R) ma169 (way_plain a) (way_find a ms) (by kernel_rfl) ?_
  rw [way_get]
  simp only [go_sem]
  refine acond_join (fun ρ' H' => ρ' 4 = .rp (encArc a) 0 ∧ Keeps H0 H' ∧ ∃ j', ρ' 7 = .os j' ∧ H0 j' = none ∧ H' j' = some (errRow (es2 ++ opt (ms.any (sameArc a)) 6))) ?_ fun K hK => acond_i (fun hb => ?_) (fun hb => ?_)
  rotate_left
  · simp only [go_sem, h7]
    refine wappE_i hH ⟨rfl, rfl⟩ (by simp only [go_sem]) (by simp only [List.length_map, List.length_cons, List.length_nil]; omega) (fun j' hj' => ?_)
    simp only [go_sem]
    refine hK _ _ ⟨by simp only [go_sem, h4], kp.app hj hj' _, j', by simp only [go_sem], kp.off hj', ?_⟩
    rw [opt_t hb]
    exact row_appI (l' := [6]) rfl
  · simp only [go_sem]
    refine hK _ _ ⟨by simp only [go_sem, h4], kp, j, by simp only [go_sem, h7], hj, ?_⟩
    rw [opt_f hb, List.append_nil, hH]
  clear kp hj hH h2 h4 h7
  rintro ρ H ⟨h4, kp, j, h7, hj, hH⟩
  generalize hes3 : es2 ++ opt (ms.any (sameArc a)) (6 : Int) = es3 at hH
  have hl3 : es3.length ≤ 3 := by rw [← hes3, List.length_append]; have := opt_len (ms.any (sameArc a)) (6 : Int); omega
  simp only [go_sem, h4]
  refine PC.use (tcheck_c _ ht) ?_
  have htl := travelR_len a.travel
  generalize hT : travelR a.travel = T at htl
  simp only [go_sem, h4, List.length_map]
  refine ⟨fun ρ H => ∃ k : Nat, k ≤ T.length ∧ ρ 4 = .rp (encArc a) 0 ∧ ρ 62 = .sl (T.map encFault) ∧ ρ 63 = int T.length ∧ ρ 64 = int k ∧ Keeps H0 H ∧ ∃ j, ρ 7 = .os j ∧ H0 j = none ∧ H j = some (errRow (es3 ++ (T.take k).map fun f => f.err)), fun ρ _ => T.length - natOf (ρ 64), ⟨0, Nat.zero_le _, by simp only [go_sem, h4], by simp only [go_sem], by simp only [go_sem], by simp only [go_sem]; rfl, kp, j, by simp only [go_sem, h7], hj, by simpa using hH⟩, ?_⟩
  clear kp hj hH h4 h7
  rintro ρ H ⟨k, hk, h4, h62, h63, h64, kp, j, h7, hj, hH⟩
  simp only [go_sem, h4, h62, h63, h64]
  refine acond_i (fun hlt => ?_) (fun hge => ?_)
  · have hlt := le_of_lt_b hlt
    obtain ⟨f, hf⟩ := getIn hlt
    have b1 := inB hlt
    simp only [go_sem, h4, h7, h62, h63, h64, b1, getD_map hf]
    refine anew_i fun i hi => ?_
    simp only [go_sem]
    refine wputE_n (updH_same _ _ _) (by simp [encFault_len]) ?_
    have hji : j ≠ i := ne_new hH hi
    have kp1 := (kp.new hi (some ⟨90, 2, [encFault f]⟩))
    generalize hG : updH (updH H i _) i _ = G
    have hH' : G j = some (errRow (es3 ++ (T.take k).map fun f => f.err)) := by rw [← hG, updH_ne _ _ _ _ hji, updH_ne _ _ _ _ hji, hH]
    have hi' : G i = some ⟨90, 2, [encFault f]⟩ := by rw [← hG, updH_same]; rfl
    have kpG : Keeps H0 G := by rw [← hG]; exact (kp.new hi _).set (kp.off hi) _
    clear hG
    simp only [go_sem, h4, h7, hi']
    refine wappE_i hH' ⟨rfl, rfl⟩ (by simp only [go_sem]) (by simp only [List.length_map, List.length_cons, List.length_nil, List.length_append, List.length_take]; omega) (fun j' hj' => ?_)
    simp only [go_sem, h4, h62, h63, h64, wrapS (show k ≤ 4611686018427387904 by omega)]
    refine ⟨⟨k + 1, hlt, rfl, kpG.app hj hj' _, j', rfl, kpG.off hj', ?_⟩, by simp only [natOf_int]; omega⟩
    rw [show es3 ++ (T.take (k + 1)).map (fun f => f.err) = (es3 ++ (T.take k).map fun f => f.err) ++ [f.err] by rw [List.take_add_one, hf]; simp]
    exact row_appI (l' := [f.err]) rfl
  · have hge := eq_of_ge_b hk hge
    subst hge
    rw [List.take_of_length_le (Nat.le_refl _)] at hH
    simp only [go_sem, h4, h7]
    refine PC.use (slow_c _ hs) ?_
    simp only [go_sem, h4, h7]
    have hsl := slowE_len a.slow
    refine wappE_i hH ⟨rfl, rfl⟩ (allLen_map (f := encInt) (n := 1) (fun _ => rfl) _) (by simp only [List.length_map, List.length_append]; omega) (fun j' hj' => ?_)
    simp only [go_sem]
    refine hK j' _ (kp.app hj hj' _) (kp.off hj') ?_
    rw [show arcE n a (ms.any (sameArc a)) = (es3 ++ T.map fun f => f.err) ++ slowE a.slow by rw [← hes3, ← hes2, ← hes1, ← hT]; rfl]
    exact row_appI (l' := slowE a.slow) rfl
end Go.Proofs.YtmidcjlidploaaaGreatDoor.Nw
end
