/- Texts joined by a program: NwF, NwG, NwH, NwI, DiL, DiM. -/
import Derived.Shelf.Spec.SlicesGrow
import Derived.Test.YtmidcjlidploaaaGreatDoorSb16
import Derived.Test.YtmidcjlidploaaaGreatDoorSb17
import Derived.Test.YtmidcjlidploaaaGreatDoorSb23

section
set_option linter.unusedSimpArgs false
set_option linter.unusedVariables false
namespace Go.Proofs.YtmidcjlidploaaaGreatDoor.Nw
open Go.Aw Go.Aw.D Go.Proofs Ty
open Go.Proofs.YtmidcjlidploaaaGreatDoor
set_option maxRecDepth 100000
theorem typeErrs_len (n : Network) (l : List VType) (k : Nat) (t : VType) : (typeErrs n l k t).length ≤ 9 := by
  have h1 := opt_len (!nameR t.name) (5 : Int)
  have h2 := opt_len (knownR l k t.name) (6 : Int)
  have h3 := opt_len (!inR t.count 0 10) (22 : Int)
  have h4 := opt_len (!inR t.src 0 (n.places.length - 1) || !inR t.dst 0 (n.places.length - 1)) (11 : Int)
  have h5 := opt_len (!capR t.cap (dimsR l)) (17 : Int)
  have h6 := opt_len (!inR t.skills 0 1073741823) (18 : Int)
  have h7 := opt_len (!inR t.start 0 t.close || decide (t.close > 4096)) (15 : Int)
  have h8 := opt_len (!inR t.drive 1 4096 || !inR t.rest 0 4096) (16 : Int)
  have h9 := opt_len (!inR t.profile 0 7 || !inR t.fixed 0 100000 || !inR t.perMile 0 100 || !inR t.perTick 0 100) (2 : Int)
  unfold typeErrs
  simp only [List.length_append, List.length_nil]
  omega
theorem fcheck_c (n : Network) (l : List VType) (hl : l.length ≤ 1048576) (hs : ∀ t ∈ l, t.name.size ≤ 1048576 ∧ t.cap.length ≤ 1048576) (hp : n.places.length ≤ 1048576) :
    PC Tryz.prog 54 [.agg (encNetwork n), .sl (l.map encVType)] (.sl ((typesR n l).map encFault)) := by
  refine PC.body (c := Tryz.f54.body.getD .skip) (fun t => t == 5) mixed Tryz.func54 rfl (by kernel_rfl) ?_
  unfold Tryz.f54
  simp only [Option.getD_some]
  simp only [go_sem]
  refine anew_i fun j hj => ?_
  simp only [go_sem]
  refine PC.use (fwithin_c _ _ _) ?_
  simp only [go_sem, List.length_map]
  refine acond_join (fun ρ H => ∃ j, ρ 1 = .sl (l.map encVType) ∧ ρ 2 = .rp (encNetwork n) 0 ∧ ρ 5 = .os j ∧ H j = some (faultRow (opt (!inR l.length 1 6) ⟨4, ByteArray.empty⟩))) ?_ fun K hK => acond_i (fun hb => ?_) (fun hb => ?_)
  rotate_left
  · simp only [go_sem]
    refine wappE_i (r := faultRow []) (by simp only [go_sem]; rfl) ⟨rfl, rfl⟩ (by simp only [go_sem]) (by simp) (fun j' hj' => ?_)
    simp only [go_sem]
    refine hK _ _ ⟨j', rfl, rfl, rfl, ?_⟩
    rw [opt_t hb]
    exact row_app (l := []) (l' := [⟨4, ByteArray.empty⟩]) rfl
  · simp only [go_sem]
    refine hK _ _ ⟨j, rfl, rfl, rfl, ?_⟩
    rw [opt_f hb, updH_same]; rfl
  rintro ρ H ⟨j, h1, h2, h5, hH⟩
  generalize hpre : opt (!inR l.length 1 6) (⟨4, ByteArray.empty⟩ : Fault) = pre at hH
  have hprl : pre.length ≤ 1 := by rw [← hpre]; exact opt_len _ _
  simp only [go_sem, h1, h2, h5, List.length_map]
  refine ⟨fun ρ H => ∃ k : Nat, k ≤ l.length ∧ ρ 1 = .sl (l.map encVType) ∧ ρ 2 = .rp (encNetwork n) 0 ∧ ρ 18 = int l.length ∧ ρ 19 = int k ∧ ∃ j, ρ 5 = .os j ∧ H j = some (faultRow (pre ++ (List.range k).flatMap (typeFaults n l))), fun ρ _ => l.length - natOf (ρ 19),
    ⟨0, Nat.zero_le _, by simp only [go_sem, h1], by simp only [go_sem, h2], by simp only [go_sem], by simp only [go_sem]; rfl, j, by simp only [go_sem, h5], by simpa using hH⟩, ?_⟩
  clear hH h1 h2 h5
  rintro ρ H ⟨k, hk, h1, h2, h18, h19, j, h5, hH⟩
  generalize hes : pre ++ (List.range k).flatMap (typeFaults n l) = es at hH
  have hlen : es.length ≤ 9 * k + 1 := by
    have := flat_len_le (f := typeFaults n l) (c := 9) (fun x => by unfold typeFaults; rw [List.length_map]; exact typeErrs_len _ _ _ _) (List.range k)
    rw [← hes, List.length_append]; rw [List.length_range] at this; omega
  simp only [go_sem, h1, h2, h5, h18, h19]
  refine acond_i (fun hlt => ?_) (fun hge => ?_)
  · have hlt := le_of_lt_b hlt
    obtain ⟨t, ht⟩ := getIn hlt
    simp only [go_sem, h1, h2, h5, h18, h19]
    refine NC.use (ferrors_c n l k t ht hl hs hp) fun p hp => ?_
    have hjp : j ≠ p := ne_new hH hp
    generalize hG : updH H p _ = G
    have Rp : G p = some (errRow (typeErrs n l k t)) := by rw [← hG, updH_same]
    have hH' : G j = some (faultRow es) := by rw [← hG, updH_ne _ _ _ _ hjp]; exact hH
    clear hG hH hp
    have hel := typeErrs_len n l k t
    have hR : (typeErrs n l k t).map (fun e => (⟨e, decN k⟩ : Fault)) = typeFaults n l k := by unfold typeFaults; rw [vtAt_get ht]
    generalize typeErrs n l k t = er at hel hR Rp
    simp only [go_sem, h1, h2, h5, h18, h19, Rp, List.length_map]
    refine ⟨fun ρ H => ∃ q : Nat, q ≤ er.length ∧ ρ 1 = .sl (l.map encVType) ∧ ρ 2 = .rp (encNetwork n) 0 ∧ ρ 6 = int k ∧ ρ 18 = int l.length ∧ ρ 19 = int k ∧ ρ 25 = .os p ∧ ρ 26 = int er.length ∧ ρ 27 = int q ∧ H p = some (errRow er) ∧ ∃ j, ρ 5 = .os j ∧ j ≠ p ∧ H j = some (faultRow (es ++ (er.take q).map fun e => ⟨e, decN k⟩)), fun ρ _ => er.length - natOf (ρ 27),
      ⟨0, Nat.zero_le _, by simp only [go_sem, h1], by simp only [go_sem, h2], by simp only [go_sem], by simp only [go_sem, h18], by simp only [go_sem, h19], by simp only [go_sem], by simp only [go_sem], by simp only [go_sem]; rfl, Rp, j, by simp only [go_sem, h5], hjp, by simpa using hH'⟩, ?_⟩
    clear hH' h1 h2 h5 h18 h19 Rp hjp
    rintro ρ H ⟨q, hq, h1, h2, h6, h18, h19, h25, h26, h27, Rp, j, h5, hjp, hH⟩
    simp only [go_sem, h1, h2, h5, h6, h18, h19, h25, h26, h27]
    refine acond_i (fun hlq => ?_) (fun hgq => ?_)
    · have hlq := le_of_lt_b hlq
      obtain ⟨e, he⟩ := getIn hlq
      have b2 := inB hlq
      simp only [go_sem, h1, h2, h5, h6, h18, h19, h25, h26, h27, Rp, b2, getD_map he, List.length_map]
      refine ⟨hlq, ?_⟩
      refine PC.use (decimal_c k (by omega)) ?_
      simp only [go_sem, h1, h2, h5, h6, h18, h19, h25, h26, h27]
      refine wappE_i hH ⟨rfl, rfl⟩ (by simp only [go_sem]) (by simp only [List.length_map, List.length_cons, List.length_nil, List.length_append, List.length_take]; omega) (fun j' hj' => ?_)
      simp only [go_sem, h1, h2, h5, h6, h18, h19, h25, h26, h27, wrapS (show q ≤ 4611686018427387904 by omega)]
      refine ⟨⟨q + 1, hlq, rfl, keep_app Rp hjp hj', j', rfl, (ne_new Rp hj').symm, ?_⟩, by simp only [natOf_int]; omega⟩
      rw [show es ++ (er.take (q + 1)).map (fun e => (⟨e, decN k⟩ : Fault)) = (es ++ (er.take q).map fun e => ⟨e, decN k⟩) ++ [⟨e, decN k⟩] by rw [List.take_add_one, he]; simp]
      exact row_app (l' := [⟨e, decN k⟩]) rfl
    · have hge := eq_of_ge_b hq hgq
      subst hge
      rw [List.take_of_length_le (Nat.le_refl _), hR] at hH
      simp only [go_sem, h1, h2, h5, h18, h19, wrapS (show k ≤ 4611686018427387904 by omega)]
      refine ⟨⟨k + 1, hlt, rfl, j, rfl, ?_⟩, by simp only [natOf_int]; omega⟩
      rw [flat_range_succ, ← List.append_assoc, hes]; exact hH
  · have hge := eq_of_ge_b hk hge
    subst hge
    simp only [go_sem, h5]
    refine .row _ _ _ (by rw [hH, ← hes, ← hpre]) ?_
    exact ConvE.refl _
end Go.Proofs.YtmidcjlidploaaaGreatDoor.Nw
end

section
set_option linter.unusedSimpArgs false
set_option linter.unusedVariables false
namespace Go.Proofs.YtmidcjlidploaaaGreatDoor.Nw
open Go.Aw Go.Aw.D Go.Proofs Ty
open Go.Proofs.YtmidcjlidploaaaGreatDoor
set_option maxRecDepth 100000
theorem oadd_c {H0 : Heap} {K : AV → Heap → Prop} {i j : Nat} {es : List Int} (b : Bool) (e : Int) (Ri : H0 i = some (boxRow j)) (Rj : H0 j = some (errRow es)) (hl : es.length ≤ 1048576)
    (hK : ∀ r j' H', Same2 H0 H' i j → (j' = j ∨ H0 j' = none) → H' i = some (boxRow j') → H' j' = some (errRow (es ++ opt (!b) e)) → K r H') : FCalls Tryz.prog 138 [boo b, int e, .op i 0 0] H0 K := by
  have hij : i ≠ j := fun h => by subst h; rw [Ri] at Rj; cases congrArg (fun o => o.map (fun r => r.e)) Rj
  refine FCalls.body (c := Tryz.f138.body.getD .skip) (fun _ => false) mixed Tryz.func138 rfl (by kernel_rfl) ?_
  unfold Tryz.f138
  simp only [Option.getD_some]
  simp only [go_sem]
  refine acond_i (fun hb => ?_) (fun hb => ?_)
  · simp only [go_sem, Ri]
    refine wappE_i Rj ⟨rfl, rfl⟩ (by simp only [go_sem]) (by simp only [List.length_map, List.length_cons, List.length_nil]; omega) (fun j' hj' => ?_)
    simp only [go_sem]
    have hij' : i ≠ j' := ne_new Ri hj'
    refine wputE_1 so170 (keep_app Ri hij.symm hj') ⟨Nat.zero_lt_one, rfl, Nat.le_refl _⟩ ?_
    simp only [go_sem]
    refine hK _ j' _ (fun k row h1 h2 hk => ?_) (.inr hj') (updH_same _ _ _) ?_
    · rw [updH_ne _ _ _ _ h1, updH_ne _ _ _ _ (ne_new hk hj'), updH_ne _ _ _ _ h2]; exact hk
    · rw [updH_ne _ _ _ _ hij'.symm, opt_t hb]
      exact row_appI (l' := [e]) rfl
  · simp only [go_sem]
    refine hK _ j H0 (fun _ _ _ _ h => h) (.inl rfl) Ri ?_
    rw [opt_f hb, List.append_nil]; exact Rj
theorem osame_c (t u : Order) : PC Tryz.prog 140 [.agg (encOrder u), .rp (encOrder t) 0] (boo (u.name.toList == t.name.toList)) := by
  refine PC.body (c := Tryz.f140.body.getD .skip) (fun _ => false) mixed Tryz.func140 rfl (by kernel_rfl) ?_
  unfold Tryz.f140
  simp only [Option.getD_some]
  simp only [go_sem]
  exact .refl _
theorem oerrors_c (n : Network) (d T : Int) (l : List Order) (k : Nat) (t : Order) (ht : l[k]? = some t) (hl : l.length ≤ 1048576) (hs : ∀ t ∈ l, t.name.size ≤ 1048576 ∧ t.load.length ≤ 1048576) (hp : n.places.length ≤ 1048576) :
    NC Tryz.prog 95 [.agg (encNetwork n), int d, int T, .sl (l.map encOrder), int k] (errRow (orderErrs n.places.length d T l k t)) .os := by
  have hk : k < l.length := (List.getElem?_eq_some_iff.1 ht).1
  have b1 := inB hk
  have hst := hs t (mem_of_get ht)
  refine NC.body (c := Tryz.f95.body.getD .skip) (fun t => t == 11) mixed Tryz.func95 rfl (by kernel_rfl) ?_
  unfold Tryz.f95
  simp only [Option.getD_some]
  simp only [go_sem]
  refine anew_i fun j hj => ?_
  refine anew_i fun i hi => ?_
  have hij : i ≠ j := (ne_new (updH_same _ _ _) hi).symm
  generalize hG : updH (updH noRows j _) i _ = G
  have Ri : G i = some (boxRow j) := by rw [← hG, updH_same]
  have Rj : G j = some (errRow []) := by rw [← hG, updH_ne _ _ _ _ hij.symm, updH_same]; rfl
  clear hG hi hj hij
  simp only [go_sem, b1, getD_map ht]
  refine anew_i fun i8 h8 => ?_
  simp only [go_sem]
  refine wputE_n (updH_same _ _ _) (by simp [encOrder_len]) ?_
  have h8i : i8 ≠ i := (ne_new Ri h8).symm
  have h80 : i8 ≠ j := (ne_new Rj h8).symm
  generalize hG : updH (updH G i8 _) i8 _ = G1
  have Ri0 : G1 i = some (boxRow j) := by rw [← hG, updH_ne _ _ _ _ h8i.symm, updH_ne _ _ _ _ h8i.symm]; exact Ri
  have Rj0 : G1 j = some (errRow []) := by rw [← hG, updH_ne _ _ _ _ h80.symm, updH_ne _ _ _ _ h80.symm]; exact Rj
  have R80 : G1 i8 = some (orderRow t) := by rw [← hG, updH_same]; rfl
  clear hG h8 Ri Rj
  have hpn := wrapQ (show n.places.length ≤ 4611686018427387904 by omega)
  simp only [go_sem, R80, List.length_map, hpn]
  refine PC.use (name_c _ hst.1) ?_
  simp only [go_sem, R80]
  refine oadd_c _ _ Ri0 Rj0 (by first | omega | simp) fun _ j1 H1 s1 d1 Ri1 Rj1 => ?_
  have R81 := s1 _ _ h8i h80 R80
  have h81 : i8 ≠ j1 := off8 d1 h80 R80
  clear Ri0 Rj0 R80 h80 s1 d1
  have hl1 := opt_len (!nameR t.name) (5 : Int)
  generalize hes1 : ([] : List Int) ++ opt (!nameR t.name) (5 : Int) = es1 at Rj1
  replace hl1 : es1.length ≤ 1 := by rw [← hes1, List.length_append]; simp only [List.length_nil]; omega
  simp only [go_sem, R81, hpn, b1]
  rw [← List.map_take]
  refine ⟨by omega, ?_⟩
  refine QFlat.use ⟨[.sl ((l.take k).map encOrder), .fn 140 [.rp (encOrder t) 0]], .cons _ _ _ _ (.refl _) (.cons _ _ _ _ (.fn _ _ _ (.cons _ _ _ _ (.ptr i8 0 0 _ _ R81 (by simp) (ConvL.refl _)) .nil)) .nil), anyO_c (p := fun u => u.name.toList == t.name.toList) (l.take k) (by rw [List.length_take]; omega) (by kernel_rfl) (fun u _ => osame_c t u), rfl⟩ ?_
  simp only [go_sem, R81]
  refine oadd_c _ _ Ri1 Rj1 (by first | omega | simp) fun _ j2 H2 s2 d2 Ri2 Rj2 => ?_
  have R82 := s2 _ _ h8i h81 R81
  have h82 : i8 ≠ j2 := off8 d2 h81 R81
  clear Ri1 Rj1 R81 h81 s2 d2
  have hl2 := opt_len (!!(l.take k).any fun u => u.name.toList == t.name.toList) (6 : Int)
  generalize hes2 : es1 ++ opt (!!(l.take k).any fun u => u.name.toList == t.name.toList) (6 : Int) = es2 at Rj2
  replace hl2 : es2.length ≤ 2 := by rw [← hes2, List.length_append]; omega
  simp only [go_sem, R82, hpn, b1]
  refine PC.use (lright_c _ _ hst.2) ?_
  simp only [go_sem, R82, hpn, b1]
  refine oadd_c _ _ Ri2 Rj2 (by first | omega | simp) fun _ j3 H3 s3 d3 Ri3 Rj3 => ?_
  have R83 := s3 _ _ h8i h82 R82
  have h83 : i8 ≠ j3 := off8 d3 h82 R82
  clear Ri2 Rj2 R82 h82 s3 d3
  have hl3 := opt_len (!rightL t.load d) (17 : Int)
  generalize hes3 : es2 ++ opt (!rightL t.load d) (17 : Int) = es3 at Rj3
  replace hl3 : es3.length ≤ 3 := by rw [← hes3, List.length_append]; omega
  simp only [go_sem, R83, hpn, b1]
  refine PC.use (owithin_c _ _ _) ?_
  simp only [go_sem, R83, hpn, b1]
  refine ⟨_, fun _ => (owithin_c _ _ _).q rfl, ?_⟩
  simp only [go_sem, R83, hpn, b1]
  refine oadd_c _ _ Ri3 Rj3 (by first | omega | simp) fun _ j4 H4 s4 d4 Ri4 Rj4 => ?_
  have R84 := s4 _ _ h8i h83 R83
  have h84 : i8 ≠ j4 := off8 d4 h83 R83
  clear Ri3 Rj3 R83 h83 s4 d4
  have hl4 := opt_len (!(inR t.pick.place (-1) (n.places.length - 1) && inR t.drop.place (-1) (n.places.length - 1))) (11 : Int)
  generalize hes4 : es3 ++ opt (!(inR t.pick.place (-1) (n.places.length - 1) && inR t.drop.place (-1) (n.places.length - 1))) (11 : Int) = es4 at Rj4
  replace hl4 : es4.length ≤ 4 := by rw [← hes4, List.length_append]; omega
  simp only [go_sem, R84, hpn, b1]
  refine oadd_c _ _ Ri4 Rj4 (by first | omega | simp) fun _ j5 H5 s5 d5 Ri5 Rj5 => ?_
  have R85 := s5 _ _ h8i h84 R84
  have h85 : i8 ≠ j5 := off8 d5 h84 R84
  clear Ri4 Rj4 R84 h84 s5 d5
  have hl5 := opt_len (!(t.pick.place != -1 || t.drop.place != -1)) (19 : Int)
  generalize hes5 : es4 ++ opt (!(t.pick.place != -1 || t.drop.place != -1)) (19 : Int) = es5 at Rj5
  replace hl5 : es5.length ≤ 5 := by rw [← hes5, List.length_append]; omega
  simp only [go_sem, R85, hpn, b1]
  refine PC.use (wcheck_c _) ?_
  simp only [go_sem, R85, hpn, b1]
  refine ⟨_, fun _ => (wcheck_c _).q rfl, ?_⟩
  simp only [go_sem, R85, hpn, b1]
  refine oadd_c _ _ Ri5 Rj5 (by first | omega | simp) fun _ j6 H6 s6 d6 Ri6 Rj6 => ?_
  have R86 := s6 _ _ h8i h85 R85
  have h86 : i8 ≠ j6 := off8 d6 h85 R85
  clear Ri5 Rj5 R85 h85 s6 d6
  have hl6 := opt_len (!(windowR t.pick == 0 && windowR t.drop == 0)) (14 : Int)
  generalize hes6 : es5 ++ opt (!(windowR t.pick == 0 && windowR t.drop == 0)) (14 : Int) = es6 at Rj6
  replace hl6 : es6.length ≤ 6 := by rw [← hes6, List.length_append]; omega
  simp only [go_sem, R86, hpn, b1]
  refine PC.use (owithin_c _ _ _) ?_
  simp only [go_sem, R86, hpn, b1]
  refine oadd_c _ _ Ri6 Rj6 (by first | omega | simp) fun _ j7 H7 s7 d7 Ri7 Rj7 => ?_
  have R87 := s7 _ _ h8i h86 R86
  have h87 : i8 ≠ j7 := off8 d7 h86 R86
  clear Ri6 Rj6 R86 h86 s7 d7
  have hl7 := opt_len (!inR t.skills 0 1073741823) (18 : Int)
  generalize hes7 : es6 ++ opt (!inR t.skills 0 1073741823) (18 : Int) = es7 at Rj7
  replace hl7 : es7.length ≤ 7 := by rw [← hes7, List.length_append]; omega
  simp only [go_sem, R87, hpn, b1]
  refine PC.use (onumbers_c _ _) ?_
  simp only [go_sem, R87, hpn, b1]
  refine oadd_c _ _ Ri7 Rj7 (by first | omega | simp) fun _ j8 H8 s8 d8 Ri8 Rj8 => ?_
  have R88 := s8 _ _ h8i h87 R87
  have h88 : i8 ≠ j8 := off8 d8 h87 R87
  clear Ri7 Rj7 R87 h87 s8 d8
  have hl8 := opt_len (!numB t T) (2 : Int)
  generalize hes8 : es7 ++ opt (!numB t T) (2 : Int) = es8 at Rj8
  replace hl8 : es8.length ≤ 8 := by rw [← hes8, List.length_append]; omega
  simp only [go_sem, R88, hpn, b1]
  simp only [go_sem, Ri8]
  refine ⟨_, rfl, ?_⟩
  rw [Rj8, ← hes8, ← hes7, ← hes6, ← hes5, ← hes4, ← hes3, ← hes2, ← hes1, numB_ref]
  unfold orderErrs knownO
  simp only [Bool.not_not, Bool.not_and, Bool.not_or, bne]
end Go.Proofs.YtmidcjlidploaaaGreatDoor.Nw
end

section
set_option linter.unusedSimpArgs false
set_option linter.unusedVariables false
namespace Go.Proofs.YtmidcjlidploaaaGreatDoor.Nw
open Go.Aw Go.Aw.D Go.Proofs Ty
open Go.Proofs.YtmidcjlidploaaaGreatDoor
set_option maxRecDepth 100000
theorem orderErrs_len (P : Nat) (d T : Int) (l : List Order) (k : Nat) (o : Order) : (orderErrs P d T l k o).length ≤ 9 := by
  have hx : ∀ (b : Bool) (e : Int), (opt b e).length ≤ 1 := fun b e => opt_len _ _
  unfold orderErrs
  simp only [List.length_append, List.length_nil]
  have a1 := hx (!nameR o.name) 5
  have a2 := hx (knownO l k o.name) 6
  have a3 := hx (!rightL o.load d) 17
  have a4 := hx (!inR o.pick.place (-1) ((P : Int) - 1) || !inR o.drop.place (-1) ((P : Int) - 1)) 11
  have a5 := hx (o.pick.place == -1 && o.drop.place == -1) 19
  have a6 := hx (windowR o.pick != 0 || windowR o.drop != 0) 14
  have a7 := hx (!inR o.skills 0 1073741823) 18
  have a8 := hx (!inR o.penalty (-1) 1000000 || !inR o.split 1 4 || decide (o.split > 1) && (o.pick.place != -1 && o.drop.place != -1) || decide (o.last < -1) || decide (o.last ≥ T) || decide (o.now < -1) || decide (o.now ≥ T)) 2
  omega
theorem ocheck_c (n : Network) (d T : Int) (l : List Order) (hl : l.length ≤ 1048576) (hs : ∀ t ∈ l, t.name.size ≤ 1048576 ∧ t.load.length ≤ 1048576) (hp : n.places.length ≤ 1048576) :
    PC Tryz.prog 55 [.agg (encNetwork n), int d, int T, .sl (l.map encOrder)] (.sl ((ordersR n d T l).map encFault)) := by
  refine PC.body (c := Tryz.f55.body.getD .skip) (fun t => t == 9) mixed Tryz.func55 rfl (by kernel_rfl) ?_
  unfold Tryz.f55
  simp only [Option.getD_some]
  simp only [go_sem]
  refine anew_i fun j hj => ?_
  simp only [go_sem]
  refine acond_join (fun ρ H => ∃ j, ρ 1 = int d ∧ ρ 2 = int T ∧ ρ 3 = .sl (l.map encOrder) ∧ ρ 4 = .rp (encNetwork n) 0 ∧ ρ 9 = .os j ∧ H j = some (faultRow (opt (decide ((l.length : Int) > 10)) ⟨4, ByteArray.empty⟩))) ?_ fun K hK => acond_i (fun hb => ?_) (fun hb => ?_)
  rotate_left
  · simp only [go_sem]
    refine wappE_i (r := faultRow []) (by simp only [go_sem]; rfl) ⟨rfl, rfl⟩ (by simp only [go_sem]) (by simp) (fun j' hj' => ?_)
    simp only [go_sem]
    refine hK _ _ ⟨j', rfl, rfl, rfl, rfl, rfl, ?_⟩
    rw [opt_t hb]
    exact row_app (l := []) (l' := [⟨4, ByteArray.empty⟩]) rfl
  · simp only [go_sem]
    refine hK _ _ ⟨j, rfl, rfl, rfl, rfl, rfl, ?_⟩
    rw [opt_f hb, updH_same]; rfl
  rintro ρ H ⟨j, h1, h2, h3, h4, h9, hH⟩
  generalize hpre : opt (decide ((l.length : Int) > 10)) (⟨4, ByteArray.empty⟩ : Fault) = pre at hH
  have hprl : pre.length ≤ 1 := by rw [← hpre]; exact opt_len _ _
  simp only [go_sem, h1, h2, h3, h4, h9, List.length_map]
  refine ⟨fun ρ H => ∃ k : Nat, k ≤ l.length ∧ ρ 1 = int d ∧ ρ 2 = int T ∧ ρ 3 = .sl (l.map encOrder) ∧ ρ 4 = .rp (encNetwork n) 0 ∧ ρ 21 = int l.length ∧ ρ 22 = int k ∧ ∃ j, ρ 9 = .os j ∧ H j = some (faultRow (pre ++ (List.range k).flatMap (orderFaults n d T l))), fun ρ _ => l.length - natOf (ρ 22),
    ⟨0, Nat.zero_le _, by simp only [go_sem, h1], by simp only [go_sem, h2], by simp only [go_sem, h3], by simp only [go_sem, h4], by simp only [go_sem], by simp only [go_sem]; rfl, j, by simp only [go_sem, h9], by simpa using hH⟩, ?_⟩
  clear hH h1 h2 h3 h4 h9
  rintro ρ H ⟨k, hk, h1, h2, h3, h4, h21, h22, j, h9, hH⟩
  generalize hes : pre ++ (List.range k).flatMap (orderFaults n d T l) = es at hH
  have hlen : es.length ≤ 9 * k + 1 := by
    have := flat_len_le (f := orderFaults n d T l) (c := 9) (fun x => by unfold orderFaults; rw [List.length_map]; exact orderErrs_len _ _ _ _ _ _) (List.range k)
    rw [← hes, List.length_append]; rw [List.length_range] at this; omega
  simp only [go_sem, h1, h2, h3, h4, h9, h21, h22]
  refine acond_i (fun hlt => ?_) (fun hge => ?_)
  · have hlt := le_of_lt_b hlt
    obtain ⟨t, ht⟩ := getIn hlt
    simp only [go_sem, h1, h2, h3, h4, h9, h21, h22]
    refine NC.use (oerrors_c n d T l k t ht hl hs hp) fun p hp => ?_
    have hjp : j ≠ p := ne_new hH hp
    generalize hG : updH H p _ = G
    have Rp : G p = some (errRow (orderErrs n.places.length d T l k t)) := by rw [← hG, updH_same]
    have hH' : G j = some (faultRow es) := by rw [← hG, updH_ne _ _ _ _ hjp]; exact hH
    clear hG hH hp
    have hel := orderErrs_len n.places.length d T l k t
    have hR : (orderErrs n.places.length d T l k t).map (fun e => (⟨e, decN k⟩ : Fault)) = orderFaults n d T l k := by unfold orderFaults; rw [orAt_get ht]
    generalize orderErrs n.places.length d T l k t = er at hel hR Rp
    simp only [go_sem, h1, h2, h3, h4, h9, h21, h22, Rp, List.length_map]
    refine ⟨fun ρ H => ∃ q : Nat, q ≤ er.length ∧ ρ 1 = int d ∧ ρ 2 = int T ∧ ρ 3 = .sl (l.map encOrder) ∧ ρ 4 = .rp (encNetwork n) 0 ∧ ρ 10 = int k ∧ ρ 21 = int l.length ∧ ρ 22 = int k ∧ ρ 30 = .os p ∧ ρ 31 = int er.length ∧ ρ 32 = int q ∧ H p = some (errRow er) ∧ ∃ j, ρ 9 = .os j ∧ j ≠ p ∧ H j = some (faultRow (es ++ (er.take q).map fun e => ⟨e, decN k⟩)), fun ρ _ => er.length - natOf (ρ 32),
      ⟨0, Nat.zero_le _, by simp only [go_sem, h1], by simp only [go_sem, h2], by simp only [go_sem, h3], by simp only [go_sem, h4], by simp only [go_sem], by simp only [go_sem, h21], by simp only [go_sem, h22], by simp only [go_sem], by simp only [go_sem], by simp only [go_sem]; rfl, Rp, j, by simp only [go_sem, h9], hjp, by simpa using hH'⟩, ?_⟩
    clear hH' h1 h2 h3 h4 h9 h21 h22 Rp hjp
    rintro ρ H ⟨q, hq, h1, h2, h3, h4, h10, h21, h22, h30, h31, h32, Rp, j, h9, hjp, hH⟩
    simp only [go_sem, h1, h2, h3, h4, h9, h10, h21, h22, h30, h31, h32]
    refine acond_i (fun hlq => ?_) (fun hgq => ?_)
    · have hlq := le_of_lt_b hlq
      obtain ⟨e, he⟩ := getIn hlq
      have b2 := inB hlq
      simp only [go_sem, h1, h2, h3, h4, h9, h10, h21, h22, h30, h31, h32, Rp, b2, getD_map he, List.length_map]
      refine ⟨hlq, ?_⟩
      refine PC.use (decimal_c k (by omega)) ?_
      simp only [go_sem, h1, h2, h3, h4, h9, h10, h21, h22, h30, h31, h32]
      refine wappE_i hH ⟨rfl, rfl⟩ (by simp only [go_sem]) (by simp only [List.length_map, List.length_cons, List.length_nil, List.length_append, List.length_take]; omega) (fun j' hj' => ?_)
      simp only [go_sem, h1, h2, h3, h4, h9, h10, h21, h22, h30, h31, h32, wrapS (show q ≤ 4611686018427387904 by omega)]
      refine ⟨⟨q + 1, hlq, rfl, keep_app Rp hjp hj', j', rfl, (ne_new Rp hj').symm, ?_⟩, by simp only [natOf_int]; omega⟩
      rw [show es ++ (er.take (q + 1)).map (fun e => (⟨e, decN k⟩ : Fault)) = (es ++ (er.take q).map fun e => ⟨e, decN k⟩) ++ [⟨e, decN k⟩] by rw [List.take_add_one, he]; simp]
      exact row_app (l' := [⟨e, decN k⟩]) rfl
    · have hge := eq_of_ge_b hq hgq
      subst hge
      rw [List.take_of_length_le (Nat.le_refl _), hR] at hH
      simp only [go_sem, h1, h2, h3, h4, h9, h21, h22, wrapS (show k ≤ 4611686018427387904 by omega)]
      refine ⟨⟨k + 1, hlt, rfl, j, rfl, ?_⟩, by simp only [natOf_int]; omega⟩
      rw [flat_range_succ, ← List.append_assoc, hes]; exact hH
  · have hge := eq_of_ge_b hk hge
    subst hge
    simp only [go_sem, h9]
    refine .row _ _ _ (by rw [hH, ← hes, ← hpre]) ?_
    exact ConvE.refl _
end Go.Proofs.YtmidcjlidploaaaGreatDoor.Nw
end

section
set_option linter.unusedSimpArgs false
set_option linter.unusedVariables false
namespace Go.Proofs.YtmidcjlidploaaaGreatDoor.Nw
open Go.Aw Go.Aw.D Go.Proofs Ty
open Go.Proofs.YtmidcjlidploaaaGreatDoor
set_option maxRecDepth 100000
theorem noInt : intT Tryz.prog 9 = none := by kernel_rfl
theorem eqP (p q : Pair) : eqCells [0, 0] (encPair p) (encPair q) = some (p.a == q.a && p.b == q.b) := by simp [encPair, eqCells, eqCell, andO]
theorem rdecimal_c : ∀ n : Nat, n ≤ 1048576 → PC Tryz.prog 146 [int n] (str (decN n)) := by
  intro n
  induction n using Nat.strongRecOn with
  | ind n ih =>
    intro hn
    have hm : ((n : Int).tmod 10) = ((n % 10 : Nat) : Int) := by rw [Int.tmod_eq_emod_of_nonneg (by omega)]; omega
    have hq : ((n : Int).tdiv 10) = ((n / 10 : Nat) : Int) := by rw [Int.tdiv_eq_ediv_of_nonneg (by omega)]; omega
    have hlt : n % 10 < 10 := Nat.mod_lt _ (by omega)
    have hw : IntKind.i64.wrap (48 + ((n % 10 : Nat) : Int)) = 48 + ((n % 10 : Nat) : Int) := wrap_in (by omega)
    have hw2 : IntKind.i32.wrap (48 + ((n % 10 : Nat) : Int)) = 48 + ((n % 10 : Nat) : Int) := by
      have : n % 10 = 0 ∨ n % 10 = 1 ∨ n % 10 = 2 ∨ n % 10 = 3 ∨ n % 10 = 4 ∨ n % 10 = 5 ∨ n % 10 = 6 ∨ n % 10 = 7 ∨ n % 10 = 8 ∨ n % 10 = 9 := by omega
      rcases this with h | h | h | h | h | h | h | h | h | h <;> rw [h] <;> decide
    have hS : strOfNums [48 + ((n % 10 : Nat) : Int)] = digitS ((n % 10 : Nat) : Int) := by
      unfold digitS
      rw [hw]
      have : n % 10 = 0 ∨ n % 10 = 1 ∨ n % 10 = 2 ∨ n % 10 = 3 ∨ n % 10 = 4 ∨ n % 10 = 5 ∨ n % 10 = 6 ∨ n % 10 = 7 ∨ n % 10 = 8 ∨ n % 10 = 9 := by omega
      rcases this with h | h | h | h | h | h | h | h | h | h <;> rw [h] <;> decide
    refine PC.body (c := Tryz.f146.body.getD .skip) (fun _ => false) mixed Tryz.func146 rfl (by kernel_rfl) ?_
    unfold Tryz.f146
    simp only [Option.getD_some]
    simp only [go_sem]
    refine ⟨by decide, ?_⟩
    rw [noInt]
    simp only [go_sem, hm, hw, hw2]
    refine ⟨by omega, ?_⟩
    have hdec := decN_size (n / 10)
    rw [hS, decN]
    have hds : (digitS ((n % 10 : Nat) : Int)).size = 1 := strOf1 _
    refine acond_i (fun hb => ?_) (fun hb => ?_)
    · simp only [go_sem]
      have h10 : n < 10 := by simp at hb; omega
      rw [if_pos h10, Nat.mod_eq_of_lt h10]
      exact .refl _
    · have h10 : ¬ n < 10 := by simp at hb; omega
      have hwq : IntKind.i64.wrap ((n / 10 : Nat) : Int) = ((n / 10 : Nat) : Int) := wrap_in (by omega)
      simp only [go_sem, hq, hwq]
      refine ⟨by decide, ?_⟩
      refine PC.use (ih (n / 10) (by omega) (by omega)) ?_
      simp only [go_sem]
      refine ⟨by show (((decN (n / 10)).size + (digitS ((n % 10 : Nat) : Int)).size : Nat) : Int) ≤ 9223372036854775807; omega, ?_⟩
      rw [if_neg h10]
      exact .refl _
theorem exact_c (p q : Pair) : PC Tryz.prog 98 [.agg (encPair p), .agg (encPair q)] (boo (samePair false p q)) := by
  refine PC.body (c := Tryz.f98.body.getD .skip) (fun _ => false) mixed Tryz.func98 rfl (by kernel_rfl) ?_
  unfold Tryz.f98
  simp only [Option.getD_some]
  simp only [go_sem]
  rw [eqP]
  simp only [go_sem]
  refine cB ?_
  unfold samePair
  rw [Bool.eq_iff_iff]
  simp only [Bool.and_eq_true, beq_iff_eq, Bool.or_eq_true, Bool.false_eq_true, false_and, or_false]
  omega
theorem loose_c (p q : Pair) : PC Tryz.prog 97 [.agg (encPair p), .agg (encPair q)] (boo (samePair true p q)) := by
  refine PC.body (c := Tryz.f97.body.getD .skip) (fun _ => false) mixed Tryz.func97 rfl (by kernel_rfl) ?_
  unfold Tryz.f97
  simp only [Option.getD_some]
  simp only [go_sem]
  rw [eqP]
  simp only [go_sem]
  refine ⟨fun _ => by decide, fun _ => by decide, fun _ => by decide, fun _ => by decide, ?_⟩
  refine cB ?_
  unfold samePair
  rw [Bool.eq_iff_iff]
  simp only [Bool.and_eq_true, beq_iff_eq, Bool.or_eq_true, Bool.true_and]
  omega
theorem pright_c (n N : Int) : PC Tryz.prog 145 [int n, .rp [int N] 0] (boo (decide (n ≥ 0) && decide (n < N))) := by
  refine PC.body (c := Tryz.f145.body.getD .skip) (fun _ => false) mixed Tryz.func145 rfl (by kernel_rfl) ?_
  unfold Tryz.f145
  simp only [Option.getD_some]
  simp only [go_sem]
  exact .refl _
theorem badP (N : Int) (p : Pair) : badPair N p = ((!(decide (p.a ≥ 0) && decide (p.a < N)) || !(decide (p.b ≥ 0) && decide (p.b < N))) || p.a == p.b) := by
  unfold badPair
  rw [Bool.eq_iff_iff]
  simp only [Bool.or_eq_true, decide_eq_true_eq, Bool.not_eq_true', Bool.and_eq_false_iff, decide_eq_false_iff_not, beq_iff_eq]
  omega
theorem pairs_c (N : Int) (l : List Pair) (w : ByteArray) (b : Bool) (g : FuncId) (hl : l.length ≤ 1048576) (hw : w.size ≤ 1048576) (hok : callOk Tryz.prog g = true) (hg : ∀ p q, PC Tryz.prog g [.agg (encPair p), .agg (encPair q)] (boo (samePair b p q))) :
    NC Tryz.prog 96 [int N, str w, .sl (l.map encPair), .v (.func (.func g) #[] #[])] (faultRow (pairsR N l w b)) .os := by
  refine NC.body (c := Tryz.f96.body.getD .skip) (fun t => t == 9) mixed Tryz.func96 rfl (by kernel_rfl) ?_
  unfold Tryz.f96
  simp only [Option.getD_some]
  simp only [go_sem]
  refine anew_i fun j hj => ?_
  simp only [go_sem]
  refine acond_join (fun ρ H => ∃ j, ρ 1 = str w ∧ ρ 2 = .sl (l.map encPair) ∧ ρ 3 = .v (.func (.func g) #[] #[]) ∧ ρ 4 = .rp [int N] 0 ∧ ρ 9 = .os j ∧ H j = some (faultRow (opt (decide ((l.length : Int) > 16)) ⟨4, w⟩))) ?_ fun K hK => acond_i (fun hb => ?_) (fun hb => ?_)
  rotate_left
  · simp only [go_sem]
    refine wappE_i (r := faultRow []) (by simp only [go_sem]; rfl) ⟨rfl, rfl⟩ (by simp only [go_sem]) (by simp) (fun j' hj' => ?_)
    simp only [go_sem]
    refine hK _ _ ⟨j', rfl, rfl, rfl, rfl, rfl, ?_⟩
    rw [opt_t hb]
    exact row_app (l := []) (l' := [⟨4, w⟩]) rfl
  · simp only [go_sem]
    refine hK _ _ ⟨j, rfl, rfl, rfl, rfl, rfl, ?_⟩
    rw [opt_f hb, updH_same]; rfl
  rintro ρ H ⟨j, h1, h2, h3, h4, h9, hH⟩
  generalize hpre : opt (decide ((l.length : Int) > 16)) (⟨4, w⟩ : Fault) = pre at hH
  have hprl : pre.length ≤ 1 := by rw [← hpre]; exact opt_len _ _
  simp only [go_sem, h1, h2, h3, h4, h9, List.length_map]
  refine ⟨fun ρ H => ∃ k : Nat, k ≤ l.length ∧ ρ 1 = str w ∧ ρ 2 = .sl (l.map encPair) ∧ ρ 3 = .v (.func (.func g) #[] #[]) ∧ ρ 10 = .fn 145 [.rp [int N] 0] ∧ ρ 25 = .sl (l.map encPair) ∧ ρ 26 = int l.length ∧ ρ 27 = int k ∧ ∃ j, ρ 9 = .os j ∧ H j = some (faultRow (pre ++ (List.range k).flatMap (pairFaults N l w b))), fun ρ _ => l.length - natOf (ρ 27),
    ⟨0, Nat.zero_le _, by simp only [go_sem, h1], by simp only [go_sem, h2], by simp only [go_sem, h3], by simp only [go_sem, h4], by simp only [go_sem], by simp only [go_sem], by simp only [go_sem]; rfl, j, by simp only [go_sem, h9], by simpa using hH⟩, ?_⟩
  clear hH h1 h2 h3 h4 h9
  rintro ρ H ⟨k, hk, h1, h2, h3, h10, h25, h26, h27, j, h9, hH⟩
  generalize hes : pre ++ (List.range k).flatMap (pairFaults N l w b) = es at hH
  have hlen : es.length ≤ k + 1 := by
    have := flat_len_le (pairFaults_len N l w b) (List.range k)
    rw [← hes, List.length_append]; rw [List.length_range] at this; omega
  simp only [go_sem, h1, h2, h3, h9, h10, h25, h26, h27]
  refine acond_i (fun hlt => ?_) (fun hge => ?_)
  · have hlt := le_of_lt_b hlt
    obtain ⟨p, hp⟩ := getIn hlt
    have b1 := inB hlt
    have hds := decN_size k
    have h32 : (#[32] : Array UInt8).size = 1 := rfl
    simp only [go_sem, h1, h2, h3, h9, h10, h25, h26, h27, b1, getD_map hp]
    refine anew_i fun i hi => ?_
    simp only [go_sem]
    refine wputE_n (updH_same _ _ _) (by simp [encPair_len]) ?_
    have hji : j ≠ i := ne_new hH hi
    generalize hG : updH (updH H i _) i _ = G
    have Rj : G j = some (faultRow es) := by rw [← hG, updH_ne _ _ _ _ hji, updH_ne _ _ _ _ hji, hH]
    have Ri : G i = some ⟨104, 2, [encPair p]⟩ := by rw [← hG, updH_same]; rfl
    clear hG hH hi
    simp only [go_sem, h1, h2, h3, h9, h10, h25, h26, h27]
    refine ⟨by show ((w.size + 1 : Nat) : Int) ≤ 9223372036854775807; omega, ?_⟩
    refine PC.use (rdecimal_c k (by omega)) ?_
    simp only [go_sem, h1, h2, h3, h9, h10, h25, h26, h27, Ri]
    refine ⟨by show ((w.size + 1 + (decN k).size : Nat) : Int) ≤ 9223372036854775807; omega, by decide, ?_⟩
    refine PC.use (pright_c _ _) ?_
    simp only [go_sem, h1, h2, h3, h9, h10, h25, h26, h27, Ri]
    refine ⟨fun _ => by decide, _, fun _ => (pright_c _ _).q rfl, ?_⟩
    simp only [go_sem, h1, h2, h3, h9, h10, h25, h26, h27, Ri]
    refine ⟨fun _ => by decide, fun _ => by decide, ?_⟩
    have hfl : pre ++ (List.range (k + 1)).flatMap (pairFaults N l w b) = es ++ pairFaults N l w b k := by rw [flat_range_succ, ← List.append_assoc, hes]
    have hkk : k ≤ 4611686018427387904 := by omega
    refine acond_i (fun hb => ?_) (fun hb => ?_)
    · simp only [go_sem, h1, h2, h3, h9, h10, h25, h26, h27]
      refine wappE_i Rj ⟨rfl, rfl⟩ (by simp only [go_sem]) (by simp only [List.length_map, List.length_cons, List.length_nil]; omega) (fun j' hj' => ?_)
      simp only [go_sem, h1, h2, h3, h9, h10, h25, h26, h27, wrapS hkk]
      refine ⟨⟨k + 1, hlt, rfl, j', rfl, ?_⟩, by simp only [natOf_int]; omega⟩
      have hn : badPair N (pAt l k) = true := by rw [pAt_get hp, badP]; exact hb
      rw [hfl, pairFaults, hn]
      exact row_app (l' := [⟨2, pairS w k⟩]) rfl
    · have hn : badPair N (pAt l k) = false := by rw [pAt_get hp, badP]; exact hb
      simp only [go_sem, h1, h2, h3, h9, h10, h25, h26, h27]
      refine ⟨⟨by omega, by omega⟩, ?_⟩
      rw [← List.map_take]
      have hLl : (l.take k).length = k := by rw [List.length_take]; omega
      generalize hL : l.take k = L at hLl
      have hpf : pairFaults N l w b k = opt (L.any (samePair b p)) ⟨6, pairS w k⟩ := by rw [pairFaults, hn, pAt_get hp, hL]
      simp only [go_sem, List.length_map, hLl]
      refine aloop_join (fun ρ' H' => ρ' 1 = str w ∧ ρ' 2 = .sl (l.map encPair) ∧ ρ' 3 = .v (.func (.func g) #[] #[]) ∧ ρ' 10 = .fn 145 [.rp [int N] 0] ∧ ρ' 25 = .sl (l.map encPair) ∧ ρ' 26 = int l.length ∧ ρ' 27 = int k ∧ ∃ j, ρ' 9 = .os j ∧ H' j = some (faultRow (es ++ pairFaults N l w b k))) ?_ fun Q hQ hR => ?_
      · rintro ρ H ⟨h1, h2, h3, h10, h25, h26, h27, j, h9, hH⟩
        simp only [go_sem, h1, h2, h3, h9, h10, h25, h26, h27, wrapS hkk]
        exact ⟨⟨k + 1, hlt, rfl, j, rfl, by rw [hfl]; exact hH⟩, by simp only [natOf_int]; omega⟩
      refine ⟨fun ρ H => ∃ m : Nat, m ≤ L.length ∧ ρ 1 = str w ∧ ρ 2 = .sl (l.map encPair) ∧ ρ 3 = .v (.func (.func g) #[] #[]) ∧ ρ 10 = .fn 145 [.rp [int N] 0] ∧ ρ 12 = .op i 0 0 ∧ ρ 13 = str (pairS w k) ∧ ρ 25 = .sl (l.map encPair) ∧ ρ 26 = int l.length ∧ ρ 27 = int k ∧ ρ 63 = .sl (L.map encPair) ∧ ρ 64 = int L.length ∧ ρ 65 = int m ∧ H i = some ⟨104, 2, [encPair p]⟩ ∧ (∀ u ∈ L.take m, samePair b p u = false) ∧ ∃ j, ρ 9 = .os j ∧ j ≠ i ∧ H j = some (faultRow es), fun ρ _ => L.length - natOf (ρ 65),
        ⟨0, Nat.zero_le _, by simp only [go_sem, h1], by simp only [go_sem, h2], by simp only [go_sem, h3], by simp only [go_sem, h10], by simp only [go_sem], by simp only [go_sem]; rfl, by simp only [go_sem, h25], by simp only [go_sem, h26], by simp only [go_sem, h27], by simp only [go_sem], by simp only [go_sem, hLl], by simp only [go_sem]; rfl, Ri, by simp, j, by simp only [go_sem, h9], hji, Rj⟩, ?_⟩
      clear h1 h2 h3 h9 h10 h25 h26 h27 Ri Rj hji
      rintro ρ H ⟨m, hm, h1, h2, h3, h10, h12, h13, h25, h26, h27, h63, h64, h65, Ri, hz, j, h9, hji, Rj⟩
      simp only [go_sem, h1, h2, h3, h9, h10, h12, h13, h25, h26, h27, h63, h64, h65]
      refine acond_i (fun hlm => ?_) (fun hgm => ?_)
      · have hlm := le_of_lt_b hlm
        obtain ⟨q, hq⟩ := getIn hlm
        have b2 := inB hlm
        simp only [go_sem, h1, h2, h3, h9, h10, h12, h13, h25, h26, h27, h63, h64, h65, b2, getD_map hq]
        refine anew_i fun i2 hi2 => ?_
        simp only [go_sem]
        refine wputE_n (updH_same _ _ _) (by simp [encPair_len]) ?_
        have hi2i : i ≠ i2 := ne_new Ri hi2
        have hji2 : j ≠ i2 := ne_new Rj hi2
        generalize hG : updH (updH H i2 _) i2 _ = G2
        have Rj2 : G2 j = some (faultRow es) := by rw [← hG, updH_ne _ _ _ _ hji2, updH_ne _ _ _ _ hji2, Rj]
        have Ri2 : G2 i = some ⟨104, 2, [encPair p]⟩ := by rw [← hG, updH_ne _ _ _ _ hi2i, updH_ne _ _ _ _ hi2i, Ri]
        have Rq : G2 i2 = some ⟨104, 2, [encPair q]⟩ := by rw [← hG, updH_same]; rfl
        clear hG hi2 Ri Rj
        simp only [go_sem, h1, h2, h3, h9, h10, h12, h13, h25, h26, h27, h63, h64, h65, Ri2, Rq, hok]
        refine PC.use (hg p q) ?_
        simp only [go_sem, h1, h2, h3, h9, h10, h12, h13, h25, h26, h27, h63, h64, h65]
        refine acond_i (fun hb2 => ?_) (fun hb2 => ?_)
        · simp only [go_sem, h1, h2, h3, h9, h10, h12, h13, h25, h26, h27, h63, h64, h65]
          refine wappE_i Rj2 ⟨rfl, rfl⟩ (by simp only [go_sem]) (by simp only [List.length_map, List.length_cons, List.length_nil]; omega) (fun j' hj' => ?_)
          simp only [go_sem]
          refine hQ _ _ ⟨by simp only [go_sem, h1], by simp only [go_sem, h2], by simp only [go_sem, h3], by simp only [go_sem, h10], by simp only [go_sem, h25], by simp only [go_sem, h26], by simp only [go_sem, h27], j', by simp only [go_sem], ?_⟩
          rw [hpf, opt_t (List.any_eq_true.2 ⟨q, mem_of_get hq, hb2⟩)]
          exact row_app (l' := [⟨6, pairS w k⟩]) rfl
        · simp only [go_sem, h1, h2, h3, h9, h10, h12, h13, h25, h26, h27, h63, h64, h65, wrapS (show m ≤ 4611686018427387904 by omega)]
          exact ⟨⟨m + 1, hlm, rfl, Ri2, take_allP (p := fun u => samePair b p u = false) hq hb2 hz, j, rfl, hji, Rj2⟩, by simp only [natOf_int]; omega⟩
      · have hge := eq_of_ge_b hm hgm
        subst hge
        rw [List.take_of_length_le (Nat.le_refl _)] at hz
        simp only [go_sem]
        refine hQ _ _ ⟨by simp only [go_sem, h1], by simp only [go_sem, h2], by simp only [go_sem, h3], by simp only [go_sem, h10], by simp only [go_sem, h25], by simp only [go_sem, h26], by simp only [go_sem, h27], j, by simp only [go_sem, h9], ?_⟩
        rw [hpf, opt_f (List.any_eq_false.2 fun u hu => by rw [hz u hu]; simp), List.append_nil]
        exact Rj
  · have hge := eq_of_ge_b hk hge
    subst hge
    simp only [go_sem, h9]
    exact ⟨_, rfl, by rw [hH, ← hes, ← hpre]; rfl⟩
theorem pairsR_le (N : Int) (l : List Pair) (w : ByteArray) (b : Bool) : (pairsR N l w b).length ≤ l.length + 1 := by
  have h1 := flat_len_le (pairFaults_len N l w b) (List.range l.length)
  have h2 := opt_len (decide ((l.length : Int) > 16)) (⟨4, w⟩ : Fault)
  rw [pairsR, List.length_append]
  rw [List.length_range] at h1
  omega
theorem rcheck_c (x : Instance) (ha : x.apart.length ≤ 1048576) (hb : x.before.length ≤ 1048576) :
    PC Tryz.prog 57 [int x.orders.length, .sl (x.apart.map encPair), .sl (x.before.map encPair)] (.sl ((rulesR x).map encFault)) := by
  have l1 := pairsR_le x.orders.length x.apart ⟨#[97, 112, 97, 114, 116]⟩ true
  have l2 := pairsR_le x.orders.length x.before ⟨#[98, 101, 102, 111, 114, 101]⟩ false
  refine PC.body (c := Tryz.f57.body.getD .skip) (fun _ => false) mixed Tryz.func57 rfl (by kernel_rfl) ?_
  unfold Tryz.f57
  simp only [Option.getD_some]
  simp only [go_sem]
  refine NC.use (pairs_c _ x.apart ⟨#[97, 112, 97, 114, 116]⟩ true 97 ha (by decide) (by kernel_rfl) loose_c) fun j hj => ?_
  simp only [go_sem]
  refine NC.use (pairs_c _ x.before ⟨#[98, 101, 102, 111, 114, 101]⟩ false 98 hb (by decide) (by kernel_rfl) exact_c) fun i hi => ?_
  simp only [go_sem]
  refine wappE_o (keep_new (updH_same _ _ _) hi) (updH_same _ _ _) ⟨rfl, rfl⟩ (faults_all _) (by simp only [List.length_map]; omega) (fun j' hj' => ?_)
  simp only [go_sem]
  unfold rulesR
  exact .row _ _ _ (row_app rfl) (ConvE.refl _)
end Go.Proofs.YtmidcjlidploaaaGreatDoor.Nw
end

section
set_option linter.unusedSimpArgs false
set_option linter.unusedVariables false
namespace Go.Proofs.YtmidcjlidploaaaGreatDoor.Di
open Go.Aw Go.Aw.D Go.Proofs Go.RowKit Ty
set_option maxRecDepth 100000
def growRen : Go.Shelf.Ren := ⟨fun | 4 => 90 | n => n, fun | 22 => 86 | 25 => 90 | n => n, fun | n => n⟩
theorem growLays : Lays8.n4 Tryz.prog growRen := {
  mixed := by kernel_rfl
  f4 := ⟨"slices.Grow[[]lorry/api.Fault,lorry/api.Fault]", by decide, Tryz.func90.trans (congrArg some (by kernel_rfl))⟩
  t0 := Tryz.underlying0
  a0 := Tryz.isAgg0
  z0 := Tryz.sizeOf0
  v0 := Tryz.zeroValue0
  t3 := Tryz.underlying3
  a3 := Tryz.isAgg3
  z3 := Tryz.sizeOf3
  v3 := Tryz.zeroValue3
  t4 := Tryz.underlying4
  a4 := Tryz.isAgg4
  z4 := Tryz.sizeOf4
  v4 := Tryz.zeroValue4
  t9 := Tryz.underlying9
  a9 := Tryz.isAgg9
  z9 := Tryz.sizeOf9
  v9 := Tryz.zeroValue9
  t20 := Tryz.underlying20
  a20 := Tryz.isAgg20
  z20 := Tryz.sizeOf20
  v20 := Tryz.zeroValue20
  t22 := Tryz.underlying86
  a22 := Tryz.isAgg86
  z22 := Tryz.sizeOf86
  v22 := Tryz.zeroValue86 }
theorem args2 {S : Sg} {w : World} {a b : Value} {vals : List Value} (h : repL S w [.v a, .v b] vals) : vals = [a, b] := by
  simp only [repL, rep] at h
  obtain ⟨_, _, rfl, rfl, _, _, rfl, rfl, rfl⟩ := h
  rfl
theorem grow0_c {H0 : Heap} {K : AV → Heap → Prop} (hK : K (.v (.slice none 0 0)) H0) : FCalls Tryz.prog 90 [.v (.slice none 0 0), int 0] H0 K := fun S w vals hS hr => by
  obtain rfl := args2 hr
  refine (Any8.slices_Grow_room growLays none 0 0 0 w (by decide) (by decide) (by decide) (by decide)).mono ?_
  rintro e w' ⟨rfl, rfl⟩
  exact ⟨_, _, H0, S, rfl, hK, hS, by simp only [rep], Grow.refl S w', NewK.refl _ _⟩
end Go.Proofs.YtmidcjlidploaaaGreatDoor.Di
end

section
set_option linter.unusedSimpArgs false
set_option linter.unusedVariables false
namespace Go.Proofs.YtmidcjlidploaaaGreatDoor.Di
open Go.Aw Go.Aw.D Go.Proofs Ty
set_option maxRecDepth 100000
theorem nil_sl {P : Program} {f : FuncId} {args : List AV} (h : PC P f args (.v (.slice none 0 0))) : PC P f args (.sl []) := fun S w vals h1 h2 h3 => (h S w vals h1 h2 h3).mono fun e w' q => by
  obtain ⟨v, r, H', S', e1, hr, q1, q2, q3, q4⟩ := q
  subst hr
  refine ⟨v, .sl [], H', S', e1, rfl, q1, ?_, q3, q4⟩
  simp only [rep] at q2 ⊢
  subst q2
  exact ⟨none, 0, 0, rfl, rfl, Nat.le_refl _, Nat.zero_le _, .inl trivial⟩
end Go.Proofs.YtmidcjlidploaaaGreatDoor.Di
end
