/- Texts joined by a program: NwJ, NwK. -/
import Derived.Test.YtmidcjlidploaaaGreatDoorSb24

section
set_option linter.unusedSimpArgs false
set_option linter.unusedVariables false
namespace Go.Proofs.YtmidcjlidploaaaGreatDoor.Nw
open Go.Aw Go.Aw.D Go.Proofs Go.RowKit Ty
open Go.Proofs.YtmidcjlidploaaaGreatDoor
open Go.Proofs.YtmidcjlidploaaaGreatDoor.Di (growLays growRen args2 grow0_c)
set_option maxRecDepth 100000
theorem growN_c {H0 : Heap} {K : AV → Heap → Prop} (m : Nat) (hm : 1 ≤ m) (hb : m ≤ 4000000000000) (hK : ∀ k, H0 k = none → K (.os k) (updH H0 k (some ⟨90, 2, []⟩))) : FCalls Tryz.prog 90 [.v (.slice none 0 0), int m] H0 K := fun S w vals hS hr => by
  obtain rfl := args2 hr
  obtain ⟨inf, z, hut, hi, hsz, hby, hpos, hbpos, hz, hzs⟩ := elemT_spec el86
  have h24 : inf.bytes ≤ 32 := by omega
  have hbig : (0 + m) * inf.bytes ≤ 140737488355328 := Nat.le_trans (Nat.mul_le_mul (show 0 + m ≤ 4000000000000 by omega) h24) (by decide)
  refine (Any8.slices_Grow_grow growLays inf z hi hz (by omega) none 0 0 m [] w (Nat.le_refl 0) (by omega) hbig (by omega) (by simp) (fun _ => rfl) (by simp)).mono ?_
  rintro e w' ⟨rfl, rfl⟩
  have hcap := grownCap_le_maxLen w (0 + m) 0 (growRen.t 25) (by show 0 + m ≤ _; unfold maxLen; omega)
  have hge := grownCap_ge w (0 + m) 0 (growRen.t 25)
  generalize grownCap w (0 + m) 0 (growRen.t 25) = cap at *
  obtain ⟨q1, q2⟩ := hS.newRow (e := 90) (sz := 2) (es := []) (xs := []) (cap := cap) (cur := ([] : List Value).toArray ++ Builtin.zeroCells z.cells (0 + m - 0) ++ Builtin.zeroCells z.cells (cap - (0 + m))) (w' := w.drew.alloc (.cells (([] : List Value).toArray ++ Builtin.zeroCells z.cells (0 + m - 0) ++ Builtin.zeroCells z.cells (cap - (0 + m))) 90)) (by decide) (by simp) (by simp [repL]) (by simp) (Nat.zero_le _) hcap (by simp only [Array.size_append, size_zeroCells, hzs]; simp; omega) (by simp) rfl rfl rfl rfl
  refine ⟨_, .os S.N, _, _, rfl, hK S.N hS.fresh, q1, ?_, q2, fun j hj h0 => ?_⟩
  · simp only [rep, Sg.addRow, if_true]
    exact ⟨Nat.lt_succ_self _, rfl, _, _, _, rfl⟩
  · rw [updH_ne _ _ _ _ (Nat.ne_of_lt hj)]
    exact h0
theorem under_c (s : ByteArray) (l : List Fault) (hs : s.size ≤ 1048576) (hl : l.length ≤ 4000000000000) (hf : small l) : PC Tryz.prog 52 [str s, .sl (l.map encFault)] (.sl ((l.map (underF s)).map encFault)) := by
  refine PC.body (c := Tryz.f52.body.getD .skip) (fun _ => false) mixed Tryz.func52 rfl (by kernel_rfl) ?_
  unfold Tryz.f52
  simp only [Option.getD_some]
  simp only [go_sem]
  refine ⟨by omega, ?_⟩
  refine anew_i fun j hj => ?_
  simp only [go_sem, List.length_map]
  refine ⟨fun ρ H => ∃ k : Nat, k ≤ l.length ∧ ρ 0 = str s ∧ ρ 12 = .sl (l.map encFault) ∧ ρ 13 = int l.length ∧ ρ 14 = int k ∧ ∃ j, ρ 5 = .os j ∧ H j = some (faultRow ((l.take k).map (underF s))), fun ρ _ => l.length - natOf (ρ 14),
    ⟨0, Nat.zero_le _, by simp only [go_sem], by simp only [go_sem], by simp only [go_sem], by simp only [go_sem]; rfl, j, by simp only [go_sem], updH_same _ _ _⟩, ?_⟩
  rintro ρ H ⟨k, hk, h0, h12, h13, h14, j, h5, hH⟩
  simp only [go_sem, h0, h5, h12, h13, h14]
  refine acond_i (fun hlt => ?_) (fun hge => ?_)
  · have hlt := le_of_lt_b hlt
    obtain ⟨f, hf1⟩ := getIn hlt
    have b1 := inB hlt
    have hsz := hf f (mem_of_get hf1)
    simp only [go_sem, h0, h5, h12, h13, h14, b1, getD_map hf1]
    refine anew_i fun i hi => ?_
    simp only [go_sem]
    refine wputE_n (updH_same _ _ _) (by simp [encFault_len]) ?_
    have hji : j ≠ i := ne_new hH hi
    generalize hG : updH (updH H i _) i _ = G
    have Rj : G j = some (faultRow ((l.take k).map (underF s))) := by rw [← hG, updH_ne _ _ _ _ hji, updH_ne _ _ _ _ hji, hH]
    have Ri : G i = some ⟨90, 2, [encFault f]⟩ := by rw [← hG, updH_same]; rfl
    clear hG hH hi
    simp only [go_sem, h0, h5, h12, h13, h14, Ri]
    have hst : (l.take (k + 1)).map (underF s) = (l.take k).map (underF s) ++ [underF s f] := by rw [List.take_add_one, hf1]; simp
    have happ : ∀ t : ByteArray, underF s f = ⟨f.err, t⟩ → ∀ (j' : Nat) (G' : Heap), updH G' j' (some ⟨90, 2, ((l.take k).map (underF s)).map encFault ++ [[int f.err, str t]]⟩) j' = some (faultRow ((l.take (k + 1)).map (underF s))) := fun t ht j' G' => by
      rw [hst, ht]
      exact row_app (l' := [⟨f.err, t⟩]) rfl
    refine acond_i (fun hb => ?_) (fun hb => ?_)
    · have he : (f.at_.toList == (⟨#[]⟩ : ByteArray).toList) = false := by simpa using hb
      simp only [go_sem, h0, h5, h12, h13, h14, Ri]
      refine ⟨by show ((1 + f.at_.size : Nat) : Int) ≤ 9223372036854775807; omega, by show ((s.size + (1 + f.at_.size) : Nat) : Int) ≤ 9223372036854775807; omega, ?_⟩
      refine wappE_i Rj ⟨rfl, rfl⟩ (by simp only [go_sem]) (by simp only [List.length_map, List.length_cons, List.length_nil, List.length_take]; omega) (fun j' hj' => ?_)
      simp only [go_sem, h0, h5, h12, h13, h14, wrapS (show k ≤ 4611686018427387904 by omega)]
      exact ⟨⟨k + 1, hlt, rfl, j', rfl, happ _ (by unfold underF; rw [he, ByteArray.append_assoc]) _ _⟩, by simp only [natOf_int]; omega⟩
    · have he : (f.at_.toList == (⟨#[]⟩ : ByteArray).toList) = true := by simpa using hb
      simp only [go_sem, h0, h5, h12, h13, h14, Ri]
      refine wappE_i Rj ⟨rfl, rfl⟩ (by simp only [go_sem]) (by simp only [List.length_map, List.length_cons, List.length_nil, List.length_take]; omega) (fun j' hj' => ?_)
      simp only [go_sem, h0, h5, h12, h13, h14, wrapS (show k ≤ 4611686018427387904 by omega)]
      exact ⟨⟨k + 1, hlt, rfl, j', rfl, happ _ (by unfold underF; rw [he]) _ _⟩, by simp only [natOf_int]; omega⟩
  · have hge := eq_of_ge_b hk hge
    subst hge
    rw [List.take_of_length_le (Nat.le_refl _)] at hH
    simp only [go_sem, h5]
    exact .row _ _ _ hH (ConvE.refl _)
abbrev encFL (l : List Fault) : List AV := [.sl (l.map encFault)]
theorem flat_take {L : List (List Fault)} {k : Nat} {l : List Fault} (h : L[k]? = some l) : (L.take (k + 1)).flatten = (L.take k).flatten ++ l := by
  rw [List.take_add_one, h]; simp
theorem flat_len (L : List (List Fault)) (k : Nat) : (L.take k).flatten.length ≤ L.flatten.length := by
  have h : L.flatten = (L.take k).flatten ++ (L.drop k).flatten := by rw [← List.flatten_append, List.take_append_drop]
  rw [h, List.length_append]; omega
theorem concat_c (L : List (List Fault)) (hL : L.length ≤ 1048576) (hm : L.flatten.length ≤ 4000000000000) :
    PC Tryz.prog 51 [.sl (L.map encFL)] (.sl (L.flatten.map encFault)) := by
  by_cases h0 : L.flatten = []
  · rw [h0]
    refine Di.nil_sl ?_
    have hall : ∀ l ∈ L, l = [] := fun l hl => List.flatten_eq_nil_iff.1 h0 l hl
    refine PC.body (c := Tryz.f51.body.getD .skip) (fun t => t == 24) mixed Tryz.func51 rfl (by kernel_rfl) ?_
    unfold Tryz.f51
    simp only [Option.getD_some]
    simp only [go_sem]
    refine ⟨fun ρ H => ∃ (k : Nat), k ≤ L.length ∧ ρ 0 = .sl (L.map encFL) ∧ ρ 3 = int 0 ∧ ρ 9 = .sl (L.map encFL) ∧ ρ 10 = int (L.length : Nat) ∧ ρ 11 = int k, fun ρ _ => L.length - natOf (ρ 11), ⟨0, Nat.zero_le _, by simp only [go_sem], by simp only [go_sem], by simp only [go_sem], by simp only [go_sem, List.length_map], (by simp only [go_sem]; rfl)⟩, ?_⟩
    rintro ρ H ⟨k, hk, e0, e3, e9, e10, e11⟩
    simp only [go_sem, e0, e3, e9, e10, e11]
    refine acond_i (fun hlt => ?_) (fun hge => ?_)
    · have hlt := ltB (by simpa using hlt)
      obtain ⟨l, hl⟩ := getIn hlt
      have b1 := inB hlt
      have hn := hall l (mem_of_get hl)
      subst hn
      simp only [go_sem, e0, e3, e9, e10, e11, getD_map hl, b1, List.map_nil, List.length_nil]
      refine acond_i (fun hb => absurd hb (by decide)) (fun hb => ?_)
      simp only [go_sem, e0, e3, e9, e10, e11, wrapS (show k ≤ 4611686018427387904 by omega)]
      exact ⟨⟨k + 1, hlt, rfl, rfl⟩, by simp only [natOf_int]; omega⟩
    · simp only [go_sem, e0, e3, e9, e10, e11]
      refine grow0_c ?_
      simp only [go_sem, e0, e3, e9, e10, e11, List.length_map]
      refine ⟨fun ρ H => ∃ (k : Nat), k ≤ L.length ∧ ρ 6 = .v (.slice none 0 0) ∧ ρ 25 = .sl (L.map encFL) ∧ ρ 26 = int (L.length : Nat) ∧ ρ 27 = int k, fun ρ _ => L.length - natOf (ρ 27), ⟨0, Nat.zero_le _, by simp only [go_sem, e0, e3, e9, e10, e11], by simp only [go_sem, e0, e3, e9, e10, e11], by simp only [go_sem, List.length_map, e0, e3, e9, e10, e11], (by simp only [go_sem, e0, e3, e9, e10, e11]; rfl)⟩, ?_⟩
      rintro ρ H ⟨k, hk, e6, e25, e26, e27⟩
      simp only [go_sem, e6, e25, e26, e27]
      refine acond_i (fun hlt => ?_) (fun hge => ?_)
      · have hlt := ltB (by simpa using hlt)
        obtain ⟨l, hl⟩ := getIn hlt
        have b1 := inB hlt
        have hn := hall l (mem_of_get hl)
        subst hn
        simp only [go_sem, e6, e25, e26, e27, getD_map hl, b1, List.map_nil]
        refine wapp_none rfl (.inl rfl) (.inl rfl) ?_
        simp only [go_sem, e6, e25, e26, e27, wrapS (show k ≤ 4611686018427387904 by omega)]
        exact ⟨⟨k + 1, hlt, rfl⟩, by simp only [natOf_int]; omega⟩
      · simp only [go_sem, e6, e25, e26, e27]
        exact .refl _
  · have hpos : 1 ≤ L.flatten.length := List.length_pos_iff.2 h0
    refine PC.body (c := Tryz.f51.body.getD .skip) (fun t => t == 24) mixed Tryz.func51 rfl (by kernel_rfl) ?_
    unfold Tryz.f51
    simp only [Option.getD_some]
    simp only [go_sem]
    refine ⟨fun ρ H => ∃ (k : Nat), k ≤ L.length ∧ ρ 0 = .sl (L.map encFL) ∧ ρ 9 = .sl (L.map encFL) ∧ ρ 10 = int (L.length : Nat) ∧ ρ 11 = int k ∧ ρ 3 = int ((L.take k).flatten.length : Nat), fun ρ _ => L.length - natOf (ρ 11), ⟨0, Nat.zero_le _, by simp only [go_sem], by simp only [go_sem], by simp only [go_sem, List.length_map], (by simp only [go_sem]; rfl), by simp only [go_sem]; rfl⟩, ?_⟩
    rintro ρ H ⟨k, hk, e0, e9, e10, e11, e3⟩
    simp only [go_sem, e0, e9, e10, e11, e3]
    refine acond_i (fun hlt => ?_) (fun hge => ?_)
    · have hlt := ltB (by simpa using hlt)
      obtain ⟨l, hl⟩ := getIn hlt
      have b1 := inB hlt
      have ft := flat_take hl
      have fl := flat_len L (k + 1)
      rw [ft, List.length_append] at fl
      have hw : IntKind.i64.wrap (((L.take k).flatten.length : Nat) + (l.length : Nat) : Int) = (((L.take k).flatten.length + l.length : Nat) : Int) := by rw [wrap_in (by omega)]; omega
      simp only [go_sem, e0, e9, e10, e11, e3, getD_map hl, b1, List.length_map, hw]
      refine acond_i (fun hb => absurd hb (by simp; omega)) (fun hb => ?_)
      simp only [go_sem, e0, e9, e10, e11, e3, wrapS (show k ≤ 4611686018427387904 by omega)]
      exact ⟨⟨k + 1, hlt, rfl, by rw [ft, List.length_append]⟩, by simp only [natOf_int]; omega⟩
    · have hge := geB hk (by simpa using hge)
      subst hge
      rw [List.take_of_length_le (Nat.le_refl _)] at e3
      simp only [go_sem, e0, e9, e10, e11, e3]
      refine growN_c _ hpos hm fun j hj => ?_
      have Rj : updH H j (some ⟨90, 2, []⟩) j = some (faultRow []) := updH_same _ _ _
      generalize updH H j (some ⟨90, 2, []⟩) = G at *
      simp only [go_sem, e0, e9, e10, e11, e3, List.length_map]
      refine ⟨fun ρ H => ∃ (k : Nat) (j : Nat), k ≤ L.length ∧ ρ 25 = .sl (L.map encFL) ∧ ρ 26 = int (L.length : Nat) ∧ ρ 27 = int k ∧ ρ 6 = .os j ∧ H j = some (faultRow (L.take k).flatten), fun ρ _ => L.length - natOf (ρ 27), ⟨0, j, Nat.zero_le _, by simp only [go_sem, e0, e9, e10, e11, e3], by simp only [go_sem, List.length_map, e0, e9, e10, e11, e3], (by simp only [go_sem, e0, e9, e10, e11, e3]; rfl), by simp only [go_sem], Rj⟩, ?_⟩
      rintro ρ H ⟨k, j, hk, e25, e26, e27, e6, R⟩
      simp only [go_sem, e25, e26, e27, e6]
      refine acond_i (fun hlt => ?_) (fun hge => ?_)
      · have hlt := ltB (by simpa using hlt)
        obtain ⟨l, hl⟩ := getIn hlt
        have b1 := inB hlt
        have ft := flat_take hl
        have fl := flat_len L (k + 1)
        rw [ft, List.length_append] at fl
        simp only [go_sem, e25, e26, e27, e6, getD_map hl, b1]
        refine wappE_i R ⟨rfl, rfl⟩ (faults_all _) (by simp only [List.length_map]; omega) (fun j' hj' => ?_)
        simp only [go_sem, e25, e26, e27, e6, wrapS (show k ≤ 4611686018427387904 by omega)]
        refine ⟨⟨k + 1, j', hlt, rfl, rfl, ?_⟩, by simp only [natOf_int]; omega⟩
        rw [ft]
        exact row_app rfl
      · have hge := geB hk (by simpa using hge)
        subst hge
        rw [List.take_of_length_le (Nat.le_refl _)] at R
        simp only [go_sem, e25, e26, e27, e6]
        exact .row _ _ _ R (ConvE.refl _)
end Go.Proofs.YtmidcjlidploaaaGreatDoor.Nw
end

section
set_option linter.unusedSimpArgs false
set_option linter.unusedVariables false
namespace Go.Proofs.YtmidcjlidploaaaGreatDoor.Nw
open Go.Aw Go.Aw.D Go.Proofs Ty
open Go.Proofs.YtmidcjlidploaaaGreatDoor
set_option maxRecDepth 100000
theorem fdims_c (l : List VType) (hl : l.length ≤ 1048576) : PC Tryz.prog 56 [.sl (l.map encVType)] (int (dimsR l)) := by
  refine PC.body (c := Tryz.f56.body.getD .skip) (fun _ => false) mixed Tryz.func56 rfl (by kernel_rfl) ?_
  unfold Tryz.f56
  simp only [Option.getD_some]
  simp only [go_sem]
  cases l with
  | nil =>
    refine acond_i (fun _ => ?_) (fun h => absurd h (by decide))
    simp only [go_sem]
    exact .refl _
  | cons t r =>
    refine acond_i (fun h => ?_) (fun h => ?_)
    · simp at h
      omega
    · simp only [go_sem]
      exact ⟨⟨Int.le_refl _, by omega⟩, .refl _⟩
theorem icheck_c (x : Instance) (h : InB x) : PC Tryz.prog 26 [.agg (encInstance x)] (.sl ((checkR x).map encFault)) := by
  have l1 := netR_len x h
  have l2 := typesR_len x.net x.types
  have l3 := ordersR_len x.net (dimsR x.types) x.types.length x.orders
  have l4 : (rulesR x).length ≤ 2097154 := by
    have a1 := pairsR_len x.orders.length x.apart ⟨#[97, 112, 97, 114, 116]⟩ true
    have a2 := pairsR_len x.orders.length x.before ⟨#[98, 101, 102, 111, 114, 101]⟩ false
    have := h.apart; have := h.before
    rw [rulesR, List.length_append]; omega
  have s1 := small_net x.net h.places h.arcs
  have s2 := small_types x.net x.types h.types
  have s3 := small_orders x.net (dimsR x.types) x.types.length x.orders h.orders
  have s4 : small (rulesR x) := small_app (small_pairs _ _ _ _ h.apart (by decide)) (small_pairs _ _ _ _ h.before (by decide))
  have ht := h.types
  have ho := h.orders
  refine PC.body (c := Tryz.f26.body.getD .skip) (fun _ => false) mixed Tryz.func26 rfl (by kernel_rfl) ?_
  unfold Tryz.f26
  simp only [Option.getD_some]
  simp only [go_sem]
  refine adraw_m [(0, true), (1, true), (4, true), (5, true), (6, true), (7, true), (10, true), (11, true), (12, true), (13, true), (15, true), (16, true), (17, true), (18, true), (19, true), (22, true), (23, true), (24, true), (25, true), (26, true), (27, true), (28, true), (2, false), (3, false), (8, false), (9, false), (14, false), (20, false), (21, false), (29, false), (30, false), (31, false), (32, false), (33, true)] (by kernel_rfl) ?_
  simp only [go_sem, List.length_map]
  refine PC.use (ncheck_c x.net h.places h.place h.arcs h.arc) ?_
  simp only [go_sem]
  refine PC.use (under_c ⟨#[110, 101, 116]⟩ _ (by decide) (by omega) s1) ?_
  simp only [go_sem]
  refine PC.use (fcheck_c x.net x.types h.types h.type h.places) ?_
  simp only [go_sem]
  refine PC.use (under_c ⟨#[116, 121, 112, 101, 115]⟩ _ (by decide) (by omega) s2) ?_
  simp only [go_sem]
  refine PC.use (fdims_c x.types h.types) ?_
  simp only [go_sem]
  refine PC.use (ocheck_c x.net _ _ x.orders h.orders h.order h.places) ?_
  simp only [go_sem]
  refine PC.use (under_c ⟨#[111, 114, 100, 101, 114, 115]⟩ _ (by decide) (by omega) s3) ?_
  simp only [go_sem]
  refine PC.use (rcheck_c x h.apart h.before) ?_
  simp only [go_sem]
  refine PC.use (under_c ⟨#[114, 117, 108, 101, 115]⟩ _ (by decide) (by omega) s4) ?_
  simp only [go_sem]
  refine PC.use (concat_c [(netR x.net).map (underF ⟨#[110, 101, 116]⟩), (typesR x.net x.types).map (underF ⟨#[116, 121, 112, 101, 115]⟩), (ordersR x.net (dimsR x.types) x.types.length x.orders).map (underF ⟨#[111, 114, 100, 101, 114, 115]⟩), (rulesR x).map (underF ⟨#[114, 117, 108, 101, 115]⟩)] (by simp) (by simp only [List.flatten_cons, List.flatten_nil, List.length_append, List.length_map, List.length_nil]; omega)) ?_
  simp only [go_sem]
  rw [show [(netR x.net).map (underF ⟨#[110, 101, 116]⟩), (typesR x.net x.types).map (underF ⟨#[116, 121, 112, 101, 115]⟩), (ordersR x.net (dimsR x.types) x.types.length x.orders).map (underF ⟨#[111, 114, 100, 101, 114, 115]⟩), (rulesR x).map (underF ⟨#[114, 117, 108, 101, 115]⟩)].flatten = checkR x by unfold checkR; simp only [List.flatten_cons, List.flatten_nil, List.append_nil, List.append_assoc]]
  exact .refl _
end Go.Proofs.YtmidcjlidploaaaGreatDoor.Nw
end
