/- Texts joined by a program: NwD, NwE. -/
import Derived.Test.YtmidcjlidploaaaGreatDoorSb22

section
set_option linter.unusedSimpArgs false
set_option linter.unusedVariables false
namespace Go.Proofs.YtmidcjlidploaaaGreatDoor.Nw
open Go.Aw Go.Aw.D Go.Proofs Ty
open Go.Proofs.YtmidcjlidploaaaGreatDoor
set_option maxRecDepth 100000
def eqS (a b : ByteArray) : Bool := a.toList == b.toList
theorem eqS_comm (a b : ByteArray) : eqS a b = (b.toList == a.toList) := by
  unfold eqS
  rw [Bool.eq_iff_iff]
  simp only [beq_iff_eq]
  exact eq_comm
theorem str_eq (a b : ByteArray) : keyEq Tryz.prog 9 (str a) (str b) = some (eqS a b) := by
  unfold keyEq
  rw [show kindT Tryz.prog 9 = some 1 by kernel_rfl]
  rfl
theorem str_plain (a : ByteArray) : plainKey Tryz.prog 9 (str a) = true := by
  show (kindT Tryz.prog 9 == some 1) = true
  rw [show kindT Tryz.prog 9 = some 1 by kernel_rfl]
  rfl
abbrev strRow (ms : List ByteArray) : Row := setRow (fun a => str a) ms
theorem str_find (a : ByteArray) (ms : List ByteArray) : mfind (keyEq Tryz.prog 9 (str a)) (strRow ms).es 0 = some (ms.findIdx? (eqS a)) :=
  mfind_set0 (enc := fun a : ByteArray => str a) (eqv := eqS) a (fun b => str_eq a b) ms
theorem str_get (a : ByteArray) (ms : List ByteArray) : mget false (boo false) (strRow ms).es (ms.findIdx? (eqS a)) = boo (ms.any (eqS a)) := mget_set (enc := fun a : ByteArray => str a) ms a
theorem str_put (a : ByteArray) (ms : List ByteArray) : mput (strRow ms).es (ms.findIdx? (eqS a)) (str a) (boo true) = (strRow (putS eqS ms a)).es :=
  mput_set (enc := fun a : ByteArray => str a) (eqv := eqS) (fun a b h => by
    have : a = b := bytes_ext (by simpa [eqS] using h)
    rw [this]) ms a
theorem str_any (a b : ByteArray) (ms : List ByteArray) : (putS eqS ms a).any (eqS b) = (ms.any (eqS b) || eqS b a) := any_put (fun a b c h1 h2 => by
  unfold eqS at *
  simp only [beq_iff_eq] at *
  exact h1.trans h2) ms a b
theorem way_put (a : Arc) (ms : List Arc) : mput (wayRow ms).es (ms.findIdx? (sameArc a)) (.agg (wayA a)) (boo true) = (wayRow (putS sameArc ms a)).es :=
  mput_set (enc := fun a : Arc => AV.agg (wayA a)) (eqv := sameArc) way_enc ms a
theorem way_any (a b : Arc) (ms : List Arc) : (putS sameArc ms a).any (sameArc b) = (ms.any (sameArc b) || sameArc b a) := any_put (fun a b c h1 h2 => by
  unfold sameArc at *
  simp only [Bool.and_eq_true, beq_iff_eq] at *
  exact ⟨⟨h1.1.1.trans h2.1.1, h1.1.2.trans h2.1.2⟩, h1.2.trans h2.2⟩) ms a b
theorem any_take_succ {α : Type} {l : List α} {k : Nat} {a : α} (h : l[k]? = some a) (p : α → Bool) : (l.take (k + 1)).any p = ((l.take k).any p || p a) := by
  rw [List.take_add_one, h]; simp [List.any_append]
theorem arcR_E (n : Network) (k : Nat) (ms : List Arc) (h : ms.any (sameArc (arcAt n.arcs k)) = (n.arcs.take k).any (sameArc (arcAt n.arcs k))) :
    (arcE n (arcAt n.arcs k) (ms.any (sameArc (arcAt n.arcs k)))).map (fun e => (⟨e, arcS k⟩ : Fault)) = arcR n k := by
  have ho : ∀ (b : Bool) (e : Int), (opt b e).map (fun e => (⟨e, arcS k⟩ : Fault)) = opt b ⟨e, arcS k⟩ := fun b e => by cases b <;> rfl
  unfold arcE arcR slowE
  rw [h]
  simp only [List.map_append, ho, List.map_map, List.map_flatMap, List.nil_append, List.append_assoc]
  rfl
theorem ncheck_c (n : Network) (hp : n.places.length ≤ 1048576) (hps : ∀ s ∈ n.places, s.size ≤ 1048576) (hl : n.arcs.length ≤ 1048576) (hs : ∀ a ∈ n.arcs, a.travel.length ≤ 1048576 ∧ a.slow.length ≤ 1048576) :
    PC Tryz.prog 53 [.agg (encNetwork n)] (.sl ((netR n).map encFault)) := by
  have hal : ∀ k, (arcR n k).length ≤ 3145740 := fun k => by
    rcases Nat.lt_or_ge k n.arcs.length with h | h
    · obtain ⟨a, ha⟩ := getIn h
      have hm := hs a (mem_of_get ha)
      exact arcR_len n k (by rw [arcAt_get ha]; exact hm.1) (by rw [arcAt_get ha]; exact hm.2)
    · have : arcAt n.arcs k = ⟨0, 0, 0, 0, [], []⟩ := by simp [arcAt, List.getD, List.getElem?_eq_none h]
      exact arcR_len n k (by rw [this]; simp) (by rw [this]; simp)
  have hpl := placesR_len n.places
  refine PC.body (c := Tryz.f53.body.getD .skip) (fun t => t == 3) mixed Tryz.func53 rfl (by kernel_rfl) ?_
  unfold Tryz.f53
  simp only [Option.getD_some]
  simp only [go_sem]
  refine anew_i fun j hj => ?_
  simp only [go_sem]
  refine acond_join (fun ρ H => ∃ j, ρ 1 = .rp (encNetwork n) 0 ∧ ρ 3 = .os j ∧ H j = some (faultRow (opt (decide ((n.places.length : Int) > 24)) ⟨4, ⟨#[112, 108, 97, 99, 101, 115]⟩⟩))) ?_ fun K hK => acond_i (fun hb => ?_) (fun hb => ?_)
  rotate_left
  · simp only [go_sem]
    refine wappE_i (r := faultRow []) (by simp only [go_sem]; rfl) ⟨rfl, rfl⟩ (by simp only [go_sem]) (by simp) (fun j' hj' => ?_)
    simp only [go_sem]
    refine hK _ _ ⟨j', rfl, rfl, ?_⟩
    rw [opt_t hb]
    exact row_app (l := []) (l' := [⟨4, ⟨#[112, 108, 97, 99, 101, 115]⟩⟩]) rfl
  · simp only [go_sem]
    refine hK _ _ ⟨j, rfl, rfl, ?_⟩
    rw [opt_f hb, updH_same]; rfl
  rintro ρ H ⟨j, h1, h3, hH⟩
  generalize hpre : opt (decide ((n.places.length : Int) > 24)) (⟨4, ⟨#[112, 108, 97, 99, 101, 115]⟩⟩ : Fault) = pre at hH
  have hprl : pre.length ≤ 1 := by rw [← hpre]; exact opt_len _ _
  simp only [go_sem, h1, h3]
  refine anew_i fun mm hmm => ?_
  have hjm : j ≠ mm := ne_new hH hmm
  simp only [go_sem, h1, h3, List.length_map]
  refine ⟨fun ρ H => ∃ (k : Nat) (ms : List ByteArray), k ≤ n.places.length ∧ ρ 1 = .rp (encNetwork n) 0 ∧ ρ 4 = .om mm ∧ ρ 23 = .sl (n.places.map D.encStr) ∧ ρ 24 = int n.places.length ∧ ρ 25 = int k ∧ H mm = some (strRow ms) ∧ (∀ s, ms.any (eqS s) = (n.places.take k).any (eqS s)) ∧ ∃ j, ρ 3 = .os j ∧ j ≠ mm ∧ H j = some (faultRow (pre ++ (List.range k).flatMap (placeFaults n.places))), fun ρ _ => n.places.length - natOf (ρ 25),
    ⟨0, [], Nat.zero_le _, by simp only [go_sem, h1], by simp only [go_sem], by simp only [go_sem], by simp only [go_sem], by simp only [go_sem]; rfl, updH_same _ _ _, by simp, j, by simp only [go_sem, h3], hjm, by rw [updH_ne _ _ _ _ hjm]; simpa using hH⟩, ?_⟩
  clear hH h1 h3 hjm
  rintro ρ H ⟨k, ms, hk, h1, h4, h23, h24, h25, Rm, hms, j, h3, hjm, hH⟩
  generalize hes : pre ++ (List.range k).flatMap (placeFaults n.places) = es at hH
  have hlen : es.length ≤ k + 1 := by
    have := flat_len_le (plf_len n.places) (List.range k)
    rw [← hes, List.length_append]; rw [List.length_range] at this; omega
  simp only [go_sem, h1, h3, h4, h23, h24, h25]
  refine acond_i (fun hlt => ?_) (fun hge => ?_)
  · have hlt := le_of_lt_b hlt
    obtain ⟨s, hsk⟩ := getIn hlt
    have b1 := inB hlt
    have hsz := hps s (mem_of_get hsk)
    simp only [go_sem, h1, h3, h4, h23, h24, h25, b1, getD_map hsk]
    refine PC.use (decimal_c k (by omega)) ?_
    simp only [go_sem, h1, h3, h4, h23, h24, h25]
    have hds := decN_size k
    refine ⟨by show ((6 + (decN k).size : Nat) : Int) ≤ 9223372036854775807; omega, ?_⟩
    refine PC.use (name_c s hsz) ?_
    simp only [go_sem, h1, h3, h4, h23, h24, h25]
    have hpf : pre ++ (List.range (k + 1)).flatMap (placeFaults n.places) = es ++ placeFaults n.places k := by rw [flat_range_succ, ← List.append_assoc, hes]
    have hst : strAt n.places k = s := by simp [strAt, List.getD, hsk]
    have hkn : ms.any (eqS s) = sameBefore n.places k := by
      rw [hms]
      unfold sameBefore
      rw [hst]
      congr 1
      funext b
      exact eqS_comm s b
    refine acond_joinL (fun ρ' H' => ρ' 1 = .rp (encNetwork n) 0 ∧ ρ' 4 = .om mm ∧ ρ' 6 = str s ∧ ρ' 23 = .sl (n.places.map D.encStr) ∧ ρ' 24 = int n.places.length ∧ ρ' 25 = int k ∧ H' mm = some (strRow ms) ∧ ∃ j, ρ' 3 = .os j ∧ j ≠ mm ∧ H' j = some (faultRow (es ++ placeFaults n.places k))) ?_ fun K hK _ _ => acond_i (fun hb => ?_) (fun hb => ?_)
    · clear h1 h3 h4 h23 h24 h25 Rm hjm hH
      rintro ρ H ⟨h1, h4, h6, h23, h24, h25, Rm, j, h3, hjm, hH⟩
      simp only [go_sem, h1, h4, h6, h23, h24, h25]
      refine wmapU_i Rm ma168 (str_plain s) (str_find s ms) ?_
      rw [str_put]
      simp only [go_sem, h1, h3, h4, h6, h23, h24, h25, wrapS (show k ≤ 4611686018427387904 by omega)]
      refine ⟨⟨k + 1, putS eqS ms s, hlt, rfl, rfl, fun b => ?_, j, rfl, hjm, ?_⟩, by simp only [natOf_int]; omega⟩
      · rw [str_any, hms b, any_take_succ hsk]
      · rw [updH_ne _ _ _ _ hjm, hpf]; exact hH
    · simp only [go_sem, h3]
      refine wappE_i hH ⟨rfl, rfl⟩ (by simp only [go_sem]) (by simp only [List.length_map, List.length_cons, List.length_nil]; omega) (fun j' hj' => ?_)
      simp only [go_sem]
      refine hK _ _ ⟨by simp only [go_sem, h1], by simp only [go_sem, h4], by simp only [go_sem], by simp only [go_sem, h23], by simp only [go_sem, h24], by simp only [go_sem, h25], keep_app Rm hjm hj', j', by simp only [go_sem], (ne_new Rm hj').symm, ?_⟩
      have hn : nameR s = false := by simpa using hb
      rw [show placeFaults n.places k = [⟨5, placeS k⟩] by unfold placeFaults; rw [hst, hn]]
      exact row_app (l' := [⟨5, placeS k⟩]) rfl
    · have hn : nameR s = true := by simpa using hb
      simp only [go_sem, h4]
      refine alookup_i (z := boo false) Rm ma168 (str_plain s) (str_find s ms) (by kernel_rfl) ?_
      rw [str_get]
      simp only [go_sem]
      refine acond_i (fun hb => ?_) (fun hb => ?_)
      · simp only [go_sem, h3]
        refine wappE_i hH ⟨rfl, rfl⟩ (by simp only [go_sem]) (by simp only [List.length_map, List.length_cons, List.length_nil]; omega) (fun j' hj' => ?_)
        simp only [go_sem]
        refine hK _ _ ⟨by simp only [go_sem, h1], by simp only [go_sem, h4], by simp only [go_sem], by simp only [go_sem, h23], by simp only [go_sem, h24], by simp only [go_sem, h25], keep_app Rm hjm hj', j', by simp only [go_sem], (ne_new Rm hj').symm, ?_⟩
        rw [show placeFaults n.places k = [⟨6, placeS k⟩] by unfold placeFaults; rw [hst, hn, ← hkn, hb]; rfl]
        exact row_app (l' := [⟨6, placeS k⟩]) rfl
      · simp only [go_sem]
        refine hK _ _ ⟨by simp only [go_sem, h1], by simp only [go_sem, h4], by simp only [go_sem], by simp only [go_sem, h23], by simp only [go_sem, h24], by simp only [go_sem, h25], Rm, j, by simp only [go_sem, h3], hjm, ?_⟩
        rw [show placeFaults n.places k = [] by unfold placeFaults; rw [hst, hn, ← hkn, hb]; rfl, List.append_nil]
        exact hH
  · have hge := eq_of_ge_b hk hge
    subst hge
    have hP : placesR n.places = es := by unfold placesR; rw [hpre, ← hes]
    rw [hP] at hpl
    clear hes hlen hms Rm h23 h24 h25 h4
    simp only [go_sem, h1, h3]
    refine acond_join (fun ρ H => ∃ j, ρ 1 = .rp (encNetwork n) 0 ∧ ρ 3 = .os j ∧ H j = some (faultRow (es ++ opt (decide ((n.arcs.length : Int) > 1024)) ⟨4, ⟨#[97, 114, 99, 115]⟩⟩))) ?_ fun K hK => acond_i (fun hb => ?_) (fun hb => ?_)
    rotate_left
    · simp only [go_sem, h3]
      refine wappE_i hH ⟨rfl, rfl⟩ (by simp only [go_sem]) (by simp only [List.length_map, List.length_cons, List.length_nil]; omega) (fun j' hj' => ?_)
      simp only [go_sem]
      refine hK _ _ ⟨j', by simp only [go_sem, h1], by simp only [go_sem], ?_⟩
      rw [opt_t hb]
      exact row_app (l' := [⟨4, ⟨#[97, 114, 99, 115]⟩⟩]) rfl
    · simp only [go_sem]
      refine hK _ _ ⟨j, by simp only [go_sem, h1], by simp only [go_sem, h3], ?_⟩
      rw [opt_f hb, List.append_nil]; exact hH
    clear h1 h3 hH hjm
    rintro ρ H ⟨j, h1, h3, hH⟩
    generalize hes1 : es ++ opt (decide ((n.arcs.length : Int) > 1024)) (⟨4, ⟨#[97, 114, 99, 115]⟩⟩ : Fault) = es1 at hH
    have hl1 : es1.length ≤ es.length + 1 := by rw [← hes1, List.length_append]; have := opt_len (decide ((n.arcs.length : Int) > 1024)) (⟨4, ⟨#[97, 114, 99, 115]⟩⟩ : Fault); omega
    simp only [go_sem, h1, h3]
    refine anew_i fun m2 hm2 => ?_
    have hjm : j ≠ m2 := ne_new hH hm2
    simp only [go_sem, h1, h3, List.length_map]
    refine ⟨fun ρ H => ∃ (k : Nat) (ms : List Arc), k ≤ n.arcs.length ∧ ρ 1 = .rp (encNetwork n) 0 ∧ ρ 8 = .om m2 ∧ ρ 64 = .sl (n.arcs.map encArc) ∧ ρ 65 = int n.arcs.length ∧ ρ 66 = int k ∧ H m2 = some (wayRow ms) ∧ (∀ a, ms.any (sameArc a) = (n.arcs.take k).any (sameArc a)) ∧ ∃ j, ρ 3 = .os j ∧ j ≠ m2 ∧ H j = some (faultRow (es1 ++ (List.range k).flatMap (arcR n))), fun ρ _ => n.arcs.length - natOf (ρ 66),
      ⟨0, [], Nat.zero_le _, by simp only [go_sem, h1], by simp only [go_sem], by simp only [go_sem], by simp only [go_sem], by simp only [go_sem]; rfl, updH_same _ _ _, by simp, j, by simp only [go_sem, h3], hjm, by rw [updH_ne _ _ _ _ hjm]; simpa using hH⟩, ?_⟩
    clear hH h1 h3 hjm
    rintro ρ H ⟨k, ms, hk, h1, h8, h64, h65, h66, Rm, hms, j, h3, hjm, hH⟩
    generalize hes : es1 ++ (List.range k).flatMap (arcR n) = es2 at hH
    have hlen : es2.length ≤ es1.length + 3145740 * k := by
      have := flat_len_le hal (List.range k)
      rw [← hes, List.length_append]; rw [List.length_range] at this; omega
    simp only [go_sem, h1, h3, h8, h64, h65, h66]
    refine acond_i (fun hlt => ?_) (fun hge => ?_)
    · have hlt := le_of_lt_b hlt
      obtain ⟨a, hak⟩ := getIn hlt
      have b1 := inB hlt
      have hsz := hs a (mem_of_get hak)
      simp only [go_sem, h1, h3, h8, h64, h65, h66, b1, getD_map hak]
      refine anew_i fun i hi => ?_
      simp only [go_sem]
      refine wputE_n (updH_same _ _ _) (by simp [encArc_len]) ?_
      generalize hG : updH (updH H i _) i _ = G
      have kp : Keeps H G := by rw [← hG]; exact ((Keeps.refl H).new hi _).set hi _
      have Ri : G i = some ⟨98, 6, [encArc a]⟩ := by rw [← hG, updH_same]; rfl
      have hji : j ≠ i := ne_new hH hi
      have hmi : m2 ≠ i := ne_new Rm hi
      replace hH := kp _ _ hH
      replace Rm := kp _ _ Rm
      clear hG kp hi
      simp only [go_sem, h1, h3, h8, h64, h65, h66, Ri]
      refine arc_c n a ms Rm hsz.1 hsz.2 fun p H' kp hp Rp => ?_
      have hjp : j ≠ p := fun e => by subst e; rw [hH] at hp; cases hp
      have hmp : m2 ≠ p := fun e => by subst e; rw [Rm] at hp; cases hp
      have hip : i ≠ p := fun e => by subst e; rw [Ri] at hp; cases hp
      replace hH := kp _ _ hH
      replace Rm := kp _ _ Rm
      replace Ri := kp _ _ Ri
      have hat : arcAt n.arcs k = a := arcAt_get hak
      have hR := arcR_E n k ms (hms _)
      have hlR := hal k
      rw [hat] at hR
      generalize arcE n a (ms.any (sameArc a)) = er at hR Rp
      have hle : er.length ≤ 3145740 := by rw [← hR, List.length_map] at hlR; exact hlR
      clear kp hp
      simp only [go_sem, h1, h3, h8, h64, h65, h66, Rp, List.length_map]
      refine ⟨fun ρ H => ∃ q : Nat, q ≤ er.length ∧ ρ 1 = .rp (encNetwork n) 0 ∧ ρ 8 = .om m2 ∧ ρ 9 = int k ∧ ρ 10 = .op i 0 0 ∧ ρ 64 = .sl (n.arcs.map encArc) ∧ ρ 65 = int n.arcs.length ∧ ρ 66 = int k ∧ ρ 74 = .os p ∧ ρ 75 = int er.length ∧ ρ 76 = int q ∧ H m2 = some (wayRow ms) ∧ H i = some ⟨98, 6, [encArc a]⟩ ∧ H p = some (errRow er) ∧ ∃ j, ρ 3 = .os j ∧ j ≠ m2 ∧ j ≠ i ∧ j ≠ p ∧ H j = some (faultRow (es2 ++ (er.take q).map fun e => ⟨e, arcS k⟩)), fun ρ _ => er.length - natOf (ρ 76),
        ⟨0, Nat.zero_le _, by simp only [go_sem, h1], by simp only [go_sem, h8], by simp only [go_sem], by simp only [go_sem], by simp only [go_sem, h64], by simp only [go_sem, h65], by simp only [go_sem, h66], by simp only [go_sem], by simp only [go_sem], by simp only [go_sem]; rfl, Rm, Ri, Rp, j, by simp only [go_sem, h3], hjm, hji, hjp, by simpa using hH⟩, ?_⟩
      clear hH h1 h3 h8 h64 h65 h66 Rm Ri Rp hjm hji hjp
      rintro ρ H ⟨q, hq, h1, h8, h9, h10, h64, h65, h66, h74, h75, h76, Rm, Ri, Rp, j, h3, hjm, hji, hjp, hH⟩
      simp only [go_sem, h1, h3, h8, h9, h10, h64, h65, h66, h74, h75, h76]
      refine acond_i (fun hlq => ?_) (fun hgq => ?_)
      · have hlq := le_of_lt_b hlq
        obtain ⟨e, he⟩ := getIn hlq
        have b2 := inB hlq
        simp only [go_sem, h1, h3, h8, h9, h10, h64, h65, h66, h74, h75, h76, Rp, b2, getD_map he, List.length_map]
        refine ⟨hlq, ?_⟩
        refine PC.use (decimal_c k (by omega)) ?_
        simp only [go_sem, h1, h3, h8, h9, h10, h64, h65, h66, h74, h75, h76]
        have hds := decN_size k
        refine ⟨by show ((4 + (decN k).size : Nat) : Int) ≤ 9223372036854775807; omega, ?_⟩
        refine wappE_i hH ⟨rfl, rfl⟩ (by simp only [go_sem]) (by simp only [List.length_map, List.length_cons, List.length_nil, List.length_append, List.length_take]; omega) (fun j' hj' => ?_)
        simp only [go_sem, h1, h3, h8, h9, h10, h64, h65, h66, h74, h75, h76, wrapS (show q ≤ 4611686018427387904 by omega)]
        refine ⟨⟨q + 1, hlq, rfl, keep_app Rm hjm hj', keep_app Ri hji hj', keep_app Rp hjp hj', j', rfl, (ne_new Rm hj').symm, (ne_new Ri hj').symm, (ne_new Rp hj').symm, ?_⟩, by simp only [natOf_int]; omega⟩
        rw [show es2 ++ (er.take (q + 1)).map (fun e => (⟨e, arcS k⟩ : Fault)) = (es2 ++ (er.take q).map fun e => ⟨e, arcS k⟩) ++ [⟨e, arcS k⟩] by rw [List.take_add_one, he]; simp]
        exact row_app (l' := [⟨e, arcS k⟩]) rfl
      · have hge := eq_of_ge_b hq hgq
        subst hge
        rw [List.take_of_length_le (Nat.le_refl _), hR] at hH
        simp only [go_sem, h1, h3, h8, h9, h10, h64, h65, h66, Ri]
        refine PC.use (wayOf_c a) ?_
        simp only [go_sem, h1, h3, h8, h9, h10, h64, h65, h66]
        refine wmapU_i Rm ma169 (way_plain a) (way_find a ms) ?_
        rw [way_put]
        simp only [go_sem, h1, h3, h8, h9, h10, h64, h65, h66, wrapS (show k ≤ 4611686018427387904 by omega)]
        refine ⟨⟨k + 1, putS sameArc ms a, hlt, rfl, rfl, fun b => ?_, j, rfl, hjm, ?_⟩, by simp only [natOf_int]; omega⟩
        · rw [way_any, hms b, any_take_succ hak]
        · rw [updH_ne _ _ _ _ hjm, flat_range_succ, ← List.append_assoc, hes]; exact hH
    · have hge := eq_of_ge_b hk hge
      subst hge
      simp only [go_sem, h3]
      refine .row _ _ _ (by rw [hH, ← hes, ← hes1, ← hP]) ?_
      exact ConvE.refl _
end Go.Proofs.YtmidcjlidploaaaGreatDoor.Nw
end

section
set_option linter.unusedSimpArgs false
set_option linter.unusedVariables false
namespace Go.Proofs.YtmidcjlidploaaaGreatDoor.Nw
open Go.Aw Go.Aw.D Go.Proofs Ty
open Go.Proofs.YtmidcjlidploaaaGreatDoor
set_option maxRecDepth 100000
def idxF {α : Type} (p : α → Bool) : List α → Int → Int
  | [], _ => -1
  | x :: r, n => if p x = true then n else idxF p r (n + 1)
theorem idxF_hit {α : Type} {p : α → Bool} {l : List α} {k : Nat} {x : α} (h : ∀ y ∈ l.take k, p y = false) (hk : l[k]? = some x) (hx : p x = true) : ∀ n, idxF p l n = n + k := by
  induction l generalizing k with
  | nil => simp at hk
  | cons a r ih =>
    intro n
    cases k with
    | zero => simp at hk; subst hk; simp only [idxF]; rw [if_pos hx]; simp
    | succ k =>
      have h0 := h a (by simp)
      simp only [idxF]
      rw [if_neg (by rw [h0]; simp), ih (k := k) (fun y hy => h y (by simp [hy])) (by simpa using hk)]
      omega
theorem idxF_miss {α : Type} {p : α → Bool} {l : List α} (h : ∀ y ∈ l, p y = false) : ∀ n, idxF p l n = -1 := by
  induction l with
  | nil => intro n; rfl
  | cons a r ih => intro n; simp only [idxF]; rw [if_neg (by rw [h a (by simp)]; simp)]; exact ih (fun y hy => h y (by simp [hy])) _
theorem idxF_any {α : Type} {p : α → Bool} : ∀ (l : List α) (n : Int), 0 ≤ n → decide (idxF p l n ≥ 0) = l.any p
  | [], n, _ => rfl
  | a :: r, n, hn => by
    have ih := idxF_any (p := p) r (n + 1) (by omega)
    rw [Bool.eq_iff_iff] at ih ⊢
    simp only [decide_eq_true_eq] at ih ⊢
    rw [List.any_cons, Bool.or_eq_true, ← ih]
    by_cases h : p a = true
    · rw [show idxF p (a :: r) n = n from if_pos h]; exact ⟨fun _ => .inl h, fun _ => hn⟩
    · rw [show idxF p (a :: r) n = idxF p r (n + 1) from if_neg h]; exact ⟨fun x => .inr x, fun x => x.resolve_left h⟩
theorem idxT_c {g : Nat} {cap : List AV} {p : VType → Bool} (l : List VType) (hl : l.length ≤ 4000000000000000000) (hok : callOk Tryz.prog g = true) (hg : ∀ v ∈ l, PC Tryz.prog g ((.agg (encVType v)) :: cap) (boo (p v))) :
    PC Tryz.prog 181 [.sl (l.map encVType), .fn g cap] (int (idxF p l 0)) := by
  refine PC.body (c := Tryz.f181.body.getD .skip) (fun _ => false) mixed Tryz.func181 rfl (by kernel_rfl) ?_
  unfold Tryz.f181
  simp only [Option.getD_some]
  simp only [go_sem]
  refine ⟨fun ρ _ => ∃ k : Nat, k ≤ l.length ∧ ρ 0 = .sl (l.map encVType) ∧ ρ 1 = .fn g cap ∧ ρ 7 = int l.length ∧ ρ 8 = int k ∧ ∀ u ∈ l.take k, p u = false, fun ρ _ => l.length - natOf (ρ 8), ⟨0, Nat.zero_le _, rfl, rfl, rfl, rfl, by simp⟩, ?_⟩
  rintro ρ H ⟨k, hk, h0, h1, h7, h8, hz⟩
  simp only [go_sem, h0, h1, h7, h8]
  refine acond_i (fun hlt => ?_) (fun hge => ?_)
  · have hlt := le_of_lt_b hlt
    obtain ⟨u, hu⟩ := getIn hlt
    have b1 := inB hlt
    simp only [go_sem, h0, h1, h7, h8, getD_map hu, b1, hok]
    refine PC.use (hg u (List.mem_of_getElem? hu)) ?_
    simp only [go_sem, h0, h1, h7, h8]
    refine acond_i (fun hb => ?_) (fun hb => ?_)
    · simp only [go_sem, h8]
      exact cI (by rw [idxF_hit hz hu hb]; omega)
    · simp only [go_sem, h0, h1, h7, h8, wrapS (show k ≤ 4611686018427387904 by omega)]
      exact ⟨⟨k + 1, hlt, rfl, take_allP (p := fun u => p u = false) hu hb hz⟩, by simp only [natOf_int]; omega⟩
  · have hge := eq_of_ge_b hk hge
    subst hge
    rw [List.take_length] at hz
    simp only [go_sem]
    exact cI (by rw [idxF_miss hz])
theorem anyT_c {g : Nat} {cap : List AV} {p : VType → Bool} (l : List VType) (hl : l.length ≤ 4000000000000000000) (hok : callOk Tryz.prog g = true) (hg : ∀ v ∈ l, PC Tryz.prog g ((.agg (encVType v)) :: cap) (boo (p v))) :
    PC Tryz.prog 135 [.sl (l.map encVType), .fn g cap] (boo (l.any p)) := by
  refine PC.body (c := Tryz.f135.body.getD .skip) (fun _ => false) mixed Tryz.func135 rfl (by kernel_rfl) ?_
  unfold Tryz.f135
  simp only [Option.getD_some]
  simp only [go_sem]
  refine PC.use (idxT_c l hl hok hg) ?_
  simp only [go_sem]
  exact cB (idxF_any l 0 (Int.le_refl _))
theorem idxO_c {g : Nat} {cap : List AV} {p : Order → Bool} (l : List Order) (hl : l.length ≤ 4000000000000000000) (hok : callOk Tryz.prog g = true) (hg : ∀ v ∈ l, PC Tryz.prog g ((.agg (encOrder v)) :: cap) (boo (p v))) :
    PC Tryz.prog 184 [.sl (l.map encOrder), .fn g cap] (int (idxF p l 0)) := by
  refine PC.body (c := Tryz.f184.body.getD .skip) (fun _ => false) mixed Tryz.func184 rfl (by kernel_rfl) ?_
  unfold Tryz.f184
  simp only [Option.getD_some]
  simp only [go_sem]
  refine ⟨fun ρ _ => ∃ k : Nat, k ≤ l.length ∧ ρ 0 = .sl (l.map encOrder) ∧ ρ 1 = .fn g cap ∧ ρ 7 = int l.length ∧ ρ 8 = int k ∧ ∀ u ∈ l.take k, p u = false, fun ρ _ => l.length - natOf (ρ 8), ⟨0, Nat.zero_le _, rfl, rfl, rfl, rfl, by simp⟩, ?_⟩
  rintro ρ H ⟨k, hk, h0, h1, h7, h8, hz⟩
  simp only [go_sem, h0, h1, h7, h8]
  refine acond_i (fun hlt => ?_) (fun hge => ?_)
  · have hlt := le_of_lt_b hlt
    obtain ⟨u, hu⟩ := getIn hlt
    have b1 := inB hlt
    simp only [go_sem, h0, h1, h7, h8, getD_map hu, b1, hok]
    refine PC.use (hg u (List.mem_of_getElem? hu)) ?_
    simp only [go_sem, h0, h1, h7, h8]
    refine acond_i (fun hb => ?_) (fun hb => ?_)
    · simp only [go_sem, h8]
      exact cI (by rw [idxF_hit hz hu hb]; omega)
    · simp only [go_sem, h0, h1, h7, h8, wrapS (show k ≤ 4611686018427387904 by omega)]
      exact ⟨⟨k + 1, hlt, rfl, take_allP (p := fun u => p u = false) hu hb hz⟩, by simp only [natOf_int]; omega⟩
  · have hge := eq_of_ge_b hk hge
    subst hge
    rw [List.take_length] at hz
    simp only [go_sem]
    exact cI (by rw [idxF_miss hz])
theorem anyO_c {g : Nat} {cap : List AV} {p : Order → Bool} (l : List Order) (hl : l.length ≤ 4000000000000000000) (hok : callOk Tryz.prog g = true) (hg : ∀ v ∈ l, PC Tryz.prog g ((.agg (encOrder v)) :: cap) (boo (p v))) :
    PC Tryz.prog 139 [.sl (l.map encOrder), .fn g cap] (boo (l.any p)) := by
  refine PC.body (c := Tryz.f139.body.getD .skip) (fun _ => false) mixed Tryz.func139 rfl (by kernel_rfl) ?_
  unfold Tryz.f139
  simp only [Option.getD_some]
  simp only [go_sem]
  refine PC.use (idxO_c l hl hok hg) ?_
  simp only [go_sem]
  exact cB (idxF_any l 0 (Int.le_refl _))
theorem idxI_c {g : Nat} {p : Int → Bool} (l : List Int) (hl : l.length ≤ 4000000000000000000) (hok : callOk Tryz.prog g = true) (hg : ∀ v ∈ l, PC Tryz.prog g [int v] (boo (p v))) :
    PC Tryz.prog 228 [.sl (l.map encInt), .v (.func (.func g) #[] #[])] (int (idxF p l 0)) := by
  refine PC.body (c := Tryz.f228.body.getD .skip) (fun _ => false) mixed Tryz.func228 rfl (by kernel_rfl) ?_
  unfold Tryz.f228
  simp only [Option.getD_some]
  simp only [go_sem]
  refine ⟨fun ρ _ => ∃ k : Nat, k ≤ l.length ∧ ρ 0 = .sl (l.map encInt) ∧ ρ 1 = .v (.func (.func g) #[] #[]) ∧ ρ 7 = int l.length ∧ ρ 8 = int k ∧ ∀ u ∈ l.take k, p u = false, fun ρ _ => l.length - natOf (ρ 8), ⟨0, Nat.zero_le _, rfl, rfl, rfl, rfl, by simp⟩, ?_⟩
  rintro ρ H ⟨k, hk, h0, h1, h7, h8, hz⟩
  simp only [go_sem, h0, h1, h7, h8]
  refine acond_i (fun hlt => ?_) (fun hge => ?_)
  · have hlt := le_of_lt_b hlt
    obtain ⟨u, hu⟩ := getIn hlt
    have b1 := inB hlt
    simp only [go_sem, h0, h1, h7, h8, getD_map hu, b1, hok]
    refine PC.use (hg u (List.mem_of_getElem? hu)) ?_
    simp only [go_sem, h0, h1, h7, h8]
    refine acond_i (fun hb => ?_) (fun hb => ?_)
    · simp only [go_sem, h8]
      exact cI (by rw [idxF_hit hz hu hb]; omega)
    · simp only [go_sem, h0, h1, h7, h8, wrapS (show k ≤ 4611686018427387904 by omega)]
      exact ⟨⟨k + 1, hlt, rfl, take_allP (p := fun u => p u = false) hu hb hz⟩, by simp only [natOf_int]; omega⟩
  · have hge := eq_of_ge_b hk hge
    subst hge
    rw [List.take_length] at hz
    simp only [go_sem]
    exact cI (by rw [idxF_miss hz])
theorem anyI_c {g : Nat} {p : Int → Bool} (l : List Int) (hl : l.length ≤ 4000000000000000000) (hok : callOk Tryz.prog g = true) (hg : ∀ v ∈ l, PC Tryz.prog g [int v] (boo (p v))) :
    PC Tryz.prog 182 [.sl (l.map encInt), .v (.func (.func g) #[] #[])] (boo (l.any p)) := by
  refine PC.body (c := Tryz.f182.body.getD .skip) (fun _ => false) mixed Tryz.func182 rfl (by kernel_rfl) ?_
  unfold Tryz.f182
  simp only [Option.getD_some]
  simp only [go_sem]
  refine PC.use (idxI_c l hl hok hg) ?_
  simp only [go_sem]
  exact cB (idxF_any l 0 (Int.le_refl _))
theorem fcap1_c (n : Int) : PC Tryz.prog 183 [int n] (boo (!inR n 0 1000)) := by
  refine PC.body (c := Tryz.f183.body.getD .skip) (fun _ => false) mixed Tryz.func183 rfl (by kernel_rfl) ?_
  unfold Tryz.f183
  simp only [Option.getD_some]
  simp only [go_sem]
  refine PC.use (fwithin_c _ _ _) ?_
  simp only [go_sem]
  exact .refl _
theorem fcapacity_c (l : List Int) (m : List Int) (hl : l.length ≤ 1048576) : PC Tryz.prog 137 [.sl (l.map encInt), .sl (m.map encInt)] (boo (capR l m.length)) := by
  refine PC.body (c := Tryz.f137.body.getD .skip) (fun _ => false) mixed Tryz.func137 rfl (by kernel_rfl) ?_
  unfold Tryz.f137
  simp only [Option.getD_some]
  simp only [go_sem]
  refine PC.use (fwithin_c _ _ _) ?_
  simp only [go_sem, List.length_map]
  refine acond_i (fun hb => ?_) (fun hb => ?_)
  · simp only [go_sem]
    refine cB ?_
    unfold capR
    rw [if_pos (by simpa using hb)]
  · simp only [go_sem]
    refine PC.use (anyI_c (p := fun n => !inR n 0 1000) l (by omega) (by kernel_rfl) fun v _ => fcap1_c v) ?_
    simp only [go_sem]
    refine cB ?_
    unfold capR
    rw [if_neg (by simpa using hb), Bool.eq_iff_iff]
    simp
abbrev boxRow (j : Nat) : Row := ⟨170, 1, [[.os j]]⟩
def Same2 (H H' : Heap) (i j : Nat) : Prop := ∀ k row, k ≠ i → k ≠ j → H k = some row → H' k = some row
theorem fadd_c {H0 : Heap} {K : AV → Heap → Prop} {i j : Nat} {es : List Int} (b : Bool) (e : Int) (Ri : H0 i = some (boxRow j)) (Rj : H0 j = some (errRow es)) (hl : es.length ≤ 1048576)
    (hK : ∀ r j' H', Same2 H0 H' i j → (j' = j ∨ H0 j' = none) → H' i = some (boxRow j') → H' j' = some (errRow (es ++ opt (!b) e)) → K r H') : FCalls Tryz.prog 134 [boo b, int e, .op i 0 0] H0 K := by
  have hij : i ≠ j := fun h => by subst h; rw [Ri] at Rj; cases congrArg (fun o => o.map (fun r => r.e)) Rj
  refine FCalls.body (c := Tryz.f134.body.getD .skip) (fun _ => false) mixed Tryz.func134 rfl (by kernel_rfl) ?_
  unfold Tryz.f134
  simp only [Option.getD_some]
  simp only [go_sem]
  refine acond_i (fun hb => ?_) (fun hb => ?_)
  · simp only [go_sem, Ri]
    refine wappE_i Rj ⟨rfl, rfl⟩ (by simp only [go_sem]) (by simp only [List.length_map, List.length_cons, List.length_nil]; omega) (fun j' hj' => ?_)
    simp only [go_sem]
    have hij' : i ≠ j' := ne_new Ri hj'
    refine wputE_1 so170 (keep_app Ri hij.symm hj') ⟨Nat.zero_lt_one, rfl, Nat.le_refl _⟩ ?_
    simp only [go_sem]
    refine hK _ j' _ (fun k row h1 h2 hk => ?_) (.inr hj') (updH_same _ _ _) ?_
    · rw [updH_ne _ _ _ _ h1, updH_ne _ _ _ _ (ne_new hk hj'), updH_ne _ _ _ _ h2]; exact hk
    · rw [updH_ne _ _ _ _ hij'.symm, opt_t hb]
      exact row_appI (l' := [e]) rfl
  · simp only [go_sem]
    refine hK _ j H0 (fun _ _ _ _ h => h) (.inl rfl) Ri ?_
    rw [opt_f hb, List.append_nil]; exact Rj
theorem off8 {H : Heap} {i8 j j' : Nat} {r : Row} (d : j' = j ∨ H j' = none) (h : i8 ≠ j) (R : H i8 = some r) : i8 ≠ j' := by
  rcases d with rfl | d
  · exact h
  · exact ne_new R d
theorem same_name_c (t u : VType) : PC Tryz.prog 136 [.agg (encVType u), .rp (encVType t) 0] (boo (u.name.toList == t.name.toList)) := by
  refine PC.body (c := Tryz.f136.body.getD .skip) (fun _ => false) mixed Tryz.func136 rfl (by kernel_rfl) ?_
  unfold Tryz.f136
  simp only [Option.getD_some]
  simp only [go_sem]
  exact .refl _
theorem ferrors_c (n : Network) (l : List VType) (k : Nat) (t : VType) (ht : l[k]? = some t) (hl : l.length ≤ 1048576) (hs : ∀ t ∈ l, t.name.size ≤ 1048576 ∧ t.cap.length ≤ 1048576) (hp : n.places.length ≤ 1048576) :
    NC Tryz.prog 94 [.agg (encNetwork n), .sl (l.map encVType), int k] (errRow (typeErrs n l k t)) .os := by
  have hk : k < l.length := (List.getElem?_eq_some_iff.1 ht).1
  have b1 := inB hk
  have hst := hs t (mem_of_get ht)
  refine NC.body (c := Tryz.f94.body.getD .skip) (fun t => t == 7) mixed Tryz.func94 rfl (by kernel_rfl) ?_
  unfold Tryz.f94
  simp only [Option.getD_some]
  simp only [go_sem]
  refine anew_i fun j hj => ?_
  refine anew_i fun i hi => ?_
  have hij : i ≠ j := (ne_new (updH_same _ _ _) hi).symm
  generalize hG : updH (updH noRows j _) i _ = G
  have Ri : G i = some (boxRow j) := by rw [← hG, updH_same]
  have Rj : G j = some (errRow []) := by rw [← hG, updH_ne _ _ _ _ hij.symm, updH_same]; rfl
  clear hG hi hj hij
  simp only [go_sem, b1, getD_map ht]
  refine anew_i fun i8 h8 => ?_
  simp only [go_sem]
  refine wputE_n (updH_same _ _ _) (by simp [encVType_len]) ?_
  have h8i : i8 ≠ i := (ne_new Ri h8).symm
  have h80 : i8 ≠ j := (ne_new Rj h8).symm
  generalize hG : updH (updH G i8 _) i8 _ = G1
  have Ri0 : G1 i = some (boxRow j) := by rw [← hG, updH_ne _ _ _ _ h8i.symm, updH_ne _ _ _ _ h8i.symm]; exact Ri
  have Rj0 : G1 j = some (errRow []) := by rw [← hG, updH_ne _ _ _ _ h80.symm, updH_ne _ _ _ _ h80.symm]; exact Rj
  have R80 : G1 i8 = some (typeRow t) := by rw [← hG, updH_same]; rfl
  clear hG h8 Ri Rj
  have hpn := wrapQ (show n.places.length ≤ 4611686018427387904 by omega)
  simp only [go_sem, R80, List.length_map, hpn]
  refine PC.use (name_c _ hst.1) ?_
  simp only [go_sem, R80]
  refine fadd_c _ _ Ri0 Rj0 (by first | omega | simp) fun _ j1 H1 s1 d1 Ri1 Rj1 => ?_
  have R81 := s1 _ _ h8i h80 R80
  have h81 : i8 ≠ j1 := off8 d1 h80 R80
  clear Ri0 Rj0 R80 h80 s1 d1
  have hl1 := opt_len (!nameR t.name) (5 : Int)
  generalize hes1 : ([] : List Int) ++ opt (!nameR t.name) (5 : Int) = es1 at Rj1
  replace hl1 : es1.length ≤ 1 := by rw [← hes1, List.length_append]; simp only [List.length_nil]; omega
  simp only [go_sem, R81, hpn, b1]
  rw [← List.map_take]
  refine ⟨by omega, ?_⟩
  refine QFlat.use ⟨[.sl ((l.take k).map encVType), .fn 136 [.rp (encVType t) 0]], .cons _ _ _ _ (.refl _) (.cons _ _ _ _ (.fn _ _ _ (.cons _ _ _ _ (.ptr i8 0 0 _ _ R81 (by simp) (ConvL.refl _)) .nil)) .nil), anyT_c (p := fun u => u.name.toList == t.name.toList) (l.take k) (by rw [List.length_take]; omega) (by kernel_rfl) (fun u _ => same_name_c t u), rfl⟩ ?_
  simp only [go_sem, R81]
  refine fadd_c _ _ Ri1 Rj1 (by first | omega | simp) fun _ j2 H2 s2 d2 Ri2 Rj2 => ?_
  have R82 := s2 _ _ h8i h81 R81
  have h82 : i8 ≠ j2 := off8 d2 h81 R81
  clear Ri1 Rj1 R81 h81 s2 d2
  have hl2 := opt_len (!!(l.take k).any fun u => u.name.toList == t.name.toList) (6 : Int)
  generalize hes2 : es1 ++ opt (!!(l.take k).any fun u => u.name.toList == t.name.toList) (6 : Int) = es2 at Rj2
  replace hl2 : es2.length ≤ 2 := by rw [← hes2, List.length_append]; omega
  simp only [go_sem, R82, hpn, b1]
  refine PC.use (fwithin_c _ _ _) ?_
  simp only [go_sem, R82, hpn, b1]
  refine fadd_c _ _ Ri2 Rj2 (by first | omega | simp) fun _ j3 H3 s3 d3 Ri3 Rj3 => ?_
  have R83 := s3 _ _ h8i h82 R82
  have h83 : i8 ≠ j3 := off8 d3 h82 R82
  clear Ri2 Rj2 R82 h82 s3 d3
  have hl3 := opt_len (!inR t.count 0 10) (22 : Int)
  generalize hes3 : es2 ++ opt (!inR t.count 0 10) (22 : Int) = es3 at Rj3
  replace hl3 : es3.length ≤ 3 := by rw [← hes3, List.length_append]; omega
  simp only [go_sem, R83, hpn, b1]
  refine PC.use (fwithin_c _ _ _) ?_
  simp only [go_sem, R83, hpn, b1]
  refine ⟨_, fun _ => (fwithin_c _ _ _).q rfl, ?_⟩
  simp only [go_sem, R83, hpn, b1]
  refine fadd_c _ _ Ri3 Rj3 (by first | omega | simp) fun _ j4 H4 s4 d4 Ri4 Rj4 => ?_
  have R84 := s4 _ _ h8i h83 R83
  have h84 : i8 ≠ j4 := off8 d4 h83 R83
  clear Ri3 Rj3 R83 h83 s4 d4
  have hl4 := opt_len (!(inR t.src 0 (n.places.length - 1) && inR t.dst 0 (n.places.length - 1))) (11 : Int)
  generalize hes4 : es3 ++ opt (!(inR t.src 0 (n.places.length - 1) && inR t.dst 0 (n.places.length - 1))) (11 : Int) = es4 at Rj4
  replace hl4 : es4.length ≤ 4 := by rw [← hes4, List.length_append]; omega
  simp only [go_sem, R84, hpn, b1]
  obtain ⟨t0, ht0⟩ := getIn (show 0 < l.length by omega)
  have b0 := inB (show 0 < l.length by omega)
  refine adraw_p [i8] [(0, true), (1, true), (2, true), (3, true), (4, true), (5, true), (6, true), (7, true), (8, false)] (by simp [R84]) (by kernel_rfl) fun Hp Hr hp hr _ hr0 => ?_
  have P_R84 := (hp i8 (by simp)).trans R84
  have Q_Ri4 := (hr i (by simp [h8i.symm])).trans Ri4
  have Q_Rj4 := (hr j4 (by simp [h84.symm])).trans Rj4
  simp only [go_sem, hpn, b0, getD_map ht0, P_R84, Q_Ri4, Q_Rj4]
  refine ⟨⟨Int.le_refl _, by omega⟩, _, (fcapacity_c t.cap t0.cap hst.2).q rfl, ?_⟩
  simp only [go_sem]
  refine fadd_c _ _ Q_Ri4 Q_Rj4 (by omega) fun _ j5 H5 s5 d5 Ri5 Rj5 => ?_
  simp only [go_sem]
  refine pinEnd_i fun h0 Hm hm1 hm2 => ?_
  have h85 : i8 ≠ j5 := fun e => by have := h0 i8 (by simp); rw [e, Rj5] at this; cases this
  replace Ri5 := (hm2 i (by simp [h8i.symm])).trans Ri5
  replace Rj5 := (hm2 j5 (by simp [h85.symm])).trans Rj5
  have R85 := (hm1 i8 (by simp)).trans R84
  clear hp hr hr0 hm1 hm2 h0 s5 d5 P_R84 Q_Ri4 Q_Rj4 Ri4 Rj4 R84 h84
  have hcap : capR t.cap (t0.cap.length : Int) = capR t.cap (dimsR l) := by
    have : dimsR l = (t0.cap.length : Int) := by
      cases l with
      | nil => cases ht0
      | cons u r =>
        simp at ht0
        subst ht0
        rfl
    rw [this]
  rw [hcap] at Rj5
  have hl5 := opt_len (!capR t.cap (dimsR l)) (17 : Int)
  generalize hes5 : es4 ++ opt (!capR t.cap (dimsR l)) (17 : Int) = es5 at Rj5
  replace hl5 : es5.length ≤ 5 := by rw [← hes5, List.length_append]; omega
  simp only [go_sem, R85, hpn, b1]
  refine PC.use (fwithin_c _ _ _) ?_
  simp only [go_sem, R85, hpn, b1]
  refine fadd_c _ _ Ri5 Rj5 (by first | omega | simp) fun _ j6 H6 s6 d6 Ri6 Rj6 => ?_
  have R86 := s6 _ _ h8i h85 R85
  have h86 : i8 ≠ j6 := off8 d6 h85 R85
  clear Ri5 Rj5 R85 h85 s6 d6
  have hl6 := opt_len (!inR t.skills 0 1073741823) (18 : Int)
  generalize hes6 : es5 ++ opt (!inR t.skills 0 1073741823) (18 : Int) = es6 at Rj6
  replace hl6 : es6.length ≤ 6 := by rw [← hes6, List.length_append]; omega
  simp only [go_sem, R86, hpn, b1]
  refine PC.use (fwithin_c _ _ _) ?_
  simp only [go_sem, R86, hpn, b1]
  refine fadd_c _ _ Ri6 Rj6 (by first | omega | simp) fun _ j7 H7 s7 d7 Ri7 Rj7 => ?_
  have R87 := s7 _ _ h8i h86 R86
  have h87 : i8 ≠ j7 := off8 d7 h86 R86
  clear Ri6 Rj6 R86 h86 s7 d7
  have hl7 := opt_len (!(inR t.start 0 t.close && decide (t.close ≤ 4096))) (15 : Int)
  generalize hes7 : es6 ++ opt (!(inR t.start 0 t.close && decide (t.close ≤ 4096))) (15 : Int) = es7 at Rj7
  replace hl7 : es7.length ≤ 7 := by rw [← hes7, List.length_append]; omega
  simp only [go_sem, R87, hpn, b1]
  refine PC.use (fwithin_c _ _ _) ?_
  simp only [go_sem, R87, hpn, b1]
  refine ⟨_, fun _ => (fwithin_c _ _ _).q rfl, ?_⟩
  simp only [go_sem, R87, hpn, b1]
  refine fadd_c _ _ Ri7 Rj7 (by first | omega | simp) fun _ j8 H8 s8 d8 Ri8 Rj8 => ?_
  have R88 := s8 _ _ h8i h87 R87
  have h88 : i8 ≠ j8 := off8 d8 h87 R87
  clear Ri7 Rj7 R87 h87 s8 d8
  have hl8 := opt_len (!(inR t.drive 1 4096 && inR t.rest 0 4096)) (16 : Int)
  generalize hes8 : es7 ++ opt (!(inR t.drive 1 4096 && inR t.rest 0 4096)) (16 : Int) = es8 at Rj8
  replace hl8 : es8.length ≤ 8 := by rw [← hes8, List.length_append]; omega
  simp only [go_sem, R88, hpn, b1]
  refine PC.use (fwithin_c _ _ _) ?_
  simp only [go_sem, R88, hpn, b1]
  refine ⟨_, fun _ => (fwithin_c _ _ _).q rfl, ?_⟩
  simp only [go_sem, R88, hpn, b1]
  refine ⟨_, fun _ => (fwithin_c _ _ _).q rfl, ?_⟩
  simp only [go_sem, R88, hpn, b1]
  refine ⟨_, fun _ => (fwithin_c _ _ _).q rfl, ?_⟩
  simp only [go_sem, R88, hpn, b1]
  refine fadd_c _ _ Ri8 Rj8 (by first | omega | simp) fun _ j9 H9 s9 d9 Ri9 Rj9 => ?_
  have R89 := s9 _ _ h8i h88 R88
  have h89 : i8 ≠ j9 := off8 d9 h88 R88
  clear Ri8 Rj8 R88 h88 s9 d9
  have hl9 := opt_len (!(((inR t.profile 0 7 && inR t.fixed 0 100000) && inR t.perMile 0 100) && inR t.perTick 0 100)) (2 : Int)
  generalize hes9 : es8 ++ opt (!(((inR t.profile 0 7 && inR t.fixed 0 100000) && inR t.perMile 0 100) && inR t.perTick 0 100)) (2 : Int) = es9 at Rj9
  replace hl9 : es9.length ≤ 9 := by rw [← hes9, List.length_append]; omega
  simp only [go_sem, R89, hpn, b1]
  simp only [go_sem, Ri9]
  refine ⟨_, rfl, ?_⟩
  rw [Rj9, ← hes9, ← hes8, ← hes7, ← hes6, ← hes5, ← hes4, ← hes3, ← hes2, ← hes1]
  have e15 : (!(inR t.start 0 t.close && decide (t.close ≤ 4096))) = (!inR t.start 0 t.close || decide (t.close > 4096)) := by
    rw [Bool.not_and]
    congr 1
    rw [Bool.eq_iff_iff]
    simp only [Bool.not_eq_true', decide_eq_false_iff_not, decide_eq_true_eq]
    omega
  unfold typeErrs knownR
  simp only [e15, Bool.not_not, Bool.not_and]
end Go.Proofs.YtmidcjlidploaaaGreatDoor.Nw
end
