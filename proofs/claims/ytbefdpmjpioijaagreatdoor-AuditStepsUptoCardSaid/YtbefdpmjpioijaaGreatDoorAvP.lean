/- lorryref44.Prefixes -/
import Derived.Test.YtbefdpmjpioijaaGreatDoorAuZ
set_option linter.unusedSimpArgs false
set_option linter.unusedVariables false
namespace Go.Proofs.YtbefdpmjpioijaaGreatDoor.Sq
open Go.Aw Go.Aw.D Go.Proofs Ty
open Mv (convI convB convA NC.pc take_allP)
set_option maxRecDepth 100000

theorem rprefixes_c (x : Instance) (p : Plan) (now : Int) (h : Acc x) (hp : p.routes.length ≤ 1048576) (hr : ∀ r ∈ p.routes, r.visits.length ≤ 1048575) :
    PC Tryz.prog 40 [.agg (encInstance x), .agg (encPlan p), int now] (.tup [.sl ((prefP x p now).1.map encRoute), int (prefP x p now).2]) := by
  have etick : (decide (now < 0) || decide (now > 4096)) = !tickB now := by
    unfold tickB
    rw [Bool.eq_iff_iff]
    simp
  refine PC.body (c := Tryz.f40.body.getD .skip) (fun t => t == 8 || t == 67 || t == 84) mixed Tryz.func40 rfl (by kernel_rfl) ?_
  unfold Tryz.f40
  simp only [Option.getD_some]
  simp only [go_sem]
  rw [etick]
  refine acond_i (fun hb => ?_) (fun hb => ?_)
  · simp only [go_sem]
    have e : prefP x p now = ([], 2) := by unfold prefP; rw [if_pos hb]
    rw [e]
    exact .refl _
  simp only [go_sem]
  refine anew_i fun j8 hj8 => ?_
  simp only [go_sem]
  refine ⟨fun ρ H => ∃ (k j : Nat), k ≤ p.routes.length ∧ ρ 2 = int now ∧ ρ 3 = .rp (encInstance x) 0 ∧ ρ 4 = .rp (encPlan p) 0 ∧ ρ 9 = int k ∧ ρ 8 = .os j ∧ H j = some (routesRow ((p.routes.take k).flatMap (preR x now))) ∧ ∀ r ∈ p.routes.take k, badE x r = false, fun ρ _ => p.routes.length - natOf (ρ 9),
    ⟨0, j8, Nat.zero_le _, by simp only [go_sem], by simp only [go_sem], by simp only [go_sem], by simp only [go_sem]; rfl, by simp only [go_sem], updH_same _ _ _, by simp⟩, ?_⟩
  clear hj8
  rintro ρ H ⟨k, j, hk, h2, h3, h4, h9, h8, R, hz⟩
  simp only [go_sem, h2, h3, h4, h9, h8]
  refine acond_i (fun hlt => ?_) (fun hge => ?_)
  · have hlt := le_of_lt_b hlt
    obtain ⟨r, hrk⟩ := getIn hlt
    have b1 := inB hlt
    have hv := hr r (List.mem_of_getElem? hrk)
    have hlen := pre_len x now (p.routes.take k)
    have hlen2 : (p.routes.take k).length ≤ k := by simp; omega
    simp only [go_sem, h2, h3, h4, h9, h8, getD_map hrk, b1]
    refine anew_i fun i10 hi100 => ?_
    have ne_j_i10 : j ≠ i10 := ne_new R hi100
    simp only [go_sem, h2, h3, h4, h9, h8, R]
    refine wputE_n (updH_same _ _ _) (by simp [encRoute_len]) ?_
    generalize hGi10 : updH (updH _ i10 _) i10 _ = HGi10
    replace R := (congrFun hGi10.symm j).trans ((updH_ne _ _ _ _ ne_j_i10).trans ((updH_ne _ _ _ _ ne_j_i10).trans R))
    have R10 : HGi10 i10 = some (routeRow (encRoute r)) := by rw [← hGi10, updH_same]; rfl
    clear hGi10 hi100
    simp only [go_sem, h2, h3, h4, h9, h8, R10, R]
    refine PC.use (eval21_c x r h.insB (by omega)) ?_
    simp only [go_sem, h2, h3, h4, h9, h8]
    refine anew_i fun i11 hi110 => ?_
    have ne_j_i11 : j ≠ i11 := ne_new R hi110
    have ne_i10_i11 : i10 ≠ i11 := ne_new R10 hi110
    generalize hGi11 : updH _ i11 _ = HGi11
    replace R := (congrFun hGi11.symm j).trans ((updH_ne _ _ _ _ ne_j_i11).trans R)
    replace R10 := (congrFun hGi11.symm i10).trans ((updH_ne _ _ _ _ ne_i10_i11).trans R10)
    have R11 : HGi11 i11 = some (sheetRow (encSheet zeroSheet)) := by rw [← hGi11, updH_same]; rfl
    clear hGi11 hi110
    simp only [go_sem, h2, h3, h4, h9, h8, R11, R, R10]
    refine anew_i fun i12 hi120 => ?_
    have ne_j_i12 : j ≠ i12 := ne_new R hi120
    have ne_i10_i12 : i10 ≠ i12 := ne_new R10 hi120
    have ne_i11_i12 : i11 ≠ i12 := ne_new R11 hi120
    generalize hGi12 : updH _ i12 _ = HGi12
    replace R := (congrFun hGi12.symm j).trans ((updH_ne _ _ _ _ ne_j_i12).trans R)
    replace R10 := (congrFun hGi12.symm i10).trans ((updH_ne _ _ _ _ ne_i10_i12).trans R10)
    replace R11 := (congrFun hGi12.symm i11).trans ((updH_ne _ _ _ _ ne_i11_i12).trans R11)
    have R12 : HGi12 i12 = some (scRow zeroScore) := by rw [← hGi12, updH_same]; rfl
    clear hGi12 hi120
    simp only [go_sem, h2, h3, h4, h9, h8, R12, R, R10, R11]
    refine wputE_n R11 (by simp [encSheet_len]) ?_
    generalize hP : updH _ i11 _ = HP
    replace R := (congrFun hP.symm j).trans ((updH_ne _ _ _ _ (by first | exact ne_j_i11 | exact ne_i11_j.symm)).trans R)
    replace R10 := (congrFun hP.symm i10).trans ((updH_ne _ _ _ _ (by first | exact ne_i10_i11 | exact ne_i11_i10.symm)).trans R10)
    replace R12 := (congrFun hP.symm i12).trans ((updH_ne _ _ _ _ (by first | exact ne_i12_i11 | exact ne_i11_i12.symm)).trans R12)
    replace R11 : HP i11 = some (sheetRow (encSheet (eval21 x r).1)) := by rw [← hP, updH_same]; rfl
    clear hP
    simp only [go_sem, h2, h3, h4, h9, h8, R11, R, R10, R12]
    refine wputE_n R12 (by simp [encScore_len]) ?_
    generalize hP : updH _ i12 _ = HP
    replace R := (congrFun hP.symm j).trans ((updH_ne _ _ _ _ (by first | exact ne_j_i12 | exact ne_i12_j.symm)).trans R)
    replace R10 := (congrFun hP.symm i10).trans ((updH_ne _ _ _ _ (by first | exact ne_i10_i12 | exact ne_i12_i10.symm)).trans R10)
    replace R11 := (congrFun hP.symm i11).trans ((updH_ne _ _ _ _ (by first | exact ne_i11_i12 | exact ne_i12_i11.symm)).trans R11)
    replace R12 : HP i12 = some (scRow (eval21 x r).2.1) := by rw [← hP, updH_same]; rfl
    clear hP
    simp only [go_sem, h2, h3, h4, h9, h8, R12, R, R10, R11]
    refine acond_i (fun hb2 => ?_) (fun hb2 => ?_)
    · simp only [go_sem]
      have hE : badE x r = true := hb2
      have e : prefP x p now = ([], (eval21 x r).2.2) := by unfold prefP; rw [if_neg (by rw [hb]; simp), find_hit hz hrk hE]
      rw [e]
      exact .refl _
    have hE : badE x r = false := hb2
    obtain ⟨hty, hin, htl, hst⟩ := eval_facts h (show (eval21 x r).2.2 = 0 by simpa [badE] using hE)
    obtain ⟨t, ht⟩ := getIn (show r.type.toNat < x.types.length by omega)
    have ep : progR x r now = progT x t r (eval21 x r).1 now := by unfold progR; rw [ht]
    have hpl := progR_le x r now
    simp only [go_sem, h2, h3, h4, h9, h8, R10, R11]
    refine PC.use (fixed_c x r (eval21 x r).1 now t hty ht hin htl hst (by omega)) ?_
    rw [← ep]
    simp only [go_sem, h2, h3, h4, h9, h8]
    refine acond_i (fun hb3 => ?_) (fun hb3 => ?_)
    · simp only [go_sem, h2, h3, h4, h9, h8, wrapS (show k ≤ 4611686018427387904 by omega)]
      refine ⟨⟨k + 1, j, hlt, rfl, rfl, ?_, take_allP (p := fun r => badE x r = false) hrk hE hz⟩, by simp only [natOf_int]; omega⟩
      have hb3 : ((progR x r now).1 : Int) = 0 := by simpa using hb3
      rw [pre_succ hrk, show preR x now r = [] from if_neg (by simp; omega), List.append_nil]
      exact R
    simp only [go_sem, h2, h3, h4, h9, h8, R11]
    refine PC.use (rests_c (eval21 x r).1 (by omega)) ?_
    simp only [go_sem, h2, h3, h4, h9, h8]
    generalize hn : (progR x r now).1 = n at *
    generalize hd : (progR x r now).2 = d at *
    generalize hsh : (eval21 x r).1 = s at *
    rename_i HC
    refine acond_joinL (fun ρ' H' => ρ' 2 = int now ∧ ρ' 3 = .rp (encInstance x) 0 ∧ ρ' 4 = .rp (encPlan p) 0 ∧ ρ' 8 = .os j ∧ ρ' 9 = int k ∧ ρ' 10 = .op i10 0 0 ∧ ρ' 14 = int n ∧ ρ' 16 = .sl ((restsS s).map encBool) ∧ ρ' 17 = int (if d = true then n + 1 else n : Nat) ∧ H' j = some (routesRow ((p.routes.take k).flatMap (preR x now))) ∧ H' i10 = some (routeRow (encRoute r))) ?_ fun K hK _ _ => acond_i (fun hb4 => ?_) (fun hb4 => ?_)
    rotate_left
    · simp only [go_sem, h2, h3, h4, h8, h9, wrapS (show n ≤ 4611686018427387904 by omega)]
      exact hK _ _ ⟨by simp only [go_sem, h2], by simp only [go_sem, h3], by simp only [go_sem, h4], by simp only [go_sem, h8], by simp only [go_sem, h9], by simp only [go_sem], by simp only [go_sem], by simp only [go_sem], by simp only [go_sem]; rw [if_pos hb4], R, R10⟩
    · simp only [go_sem]
      exact hK _ _ ⟨by simp only [go_sem, h2], by simp only [go_sem, h3], by simp only [go_sem, h4], by simp only [go_sem, h8], by simp only [go_sem, h9], by simp only [go_sem], by simp only [go_sem], by simp only [go_sem], by simp only [go_sem]; rw [if_neg (by rw [hb4]; simp)], R, R10⟩
    clear h2 h3 h4 h8 h9 R R10 R11 R12
    rintro ρ H ⟨h2, h3, h4, h8, h9, h10, h14, h16, h17, R, R10⟩
    simp only [go_sem, h2, h3, h4, h8, h9, h10, h14, h16, h17, R10]
    refine anew_i fun ja hja => ?_
    have ne_j_ja := ne_new R hja
    have ne_i10_ja := ne_new R10 hja
    generalize hG : updH H ja _ = HA
    replace R := (congrFun hG.symm j).trans ((updH_ne _ _ _ _ ne_j_ja).trans R)
    replace R10 := (congrFun hG.symm i10).trans ((updH_ne _ _ _ _ ne_i10_ja).trans R10)
    have Ra : HA ja = some (boolRow []) := by rw [← hG, updH_same]; rfl
    clear hG hja
    refine anew_i fun jb hjb => ?_
    have ne_j_jb := ne_new R hjb
    have ne_i10_jb := ne_new R10 hjb
    have ne_ja_jb := ne_new Ra hjb
    generalize hG : updH HA jb _ = HB
    replace R := (congrFun hG.symm j).trans ((updH_ne _ _ _ _ ne_j_jb).trans R)
    replace R10 := (congrFun hG.symm i10).trans ((updH_ne _ _ _ _ ne_i10_jb).trans R10)
    replace Ra := (congrFun hG.symm ja).trans ((updH_ne _ _ _ _ ne_ja_jb).trans Ra)
    have Rb : HB jb = some (visRow []) := by rw [← hG, updH_same]; rfl
    clear hG hjb
    refine anew_i fun i18 hi180 => ?_
    have ne_j_i18 : j ≠ i18 := ne_new R hi180
    have ne_i10_i18 : i10 ≠ i18 := ne_new R10 hi180
    have ne_ja_i18 : ja ≠ i18 := ne_new Ra hi180
    have ne_jb_i18 : jb ≠ i18 := ne_new Rb hi180
    generalize hGi18 : updH _ i18 _ = HGi18
    replace R := (congrFun hGi18.symm j).trans ((updH_ne _ _ _ _ ne_j_i18).trans R)
    replace R10 := (congrFun hGi18.symm i10).trans ((updH_ne _ _ _ _ ne_i10_i18).trans R10)
    replace Ra := (congrFun hGi18.symm ja).trans ((updH_ne _ _ _ _ ne_ja_i18).trans Ra)
    replace Rb := (congrFun hGi18.symm jb).trans ((updH_ne _ _ _ _ ne_jb_i18).trans Rb)
    have R18 : HGi18 i18 = some (routeRow (encRoute ⟨0, 0, [], []⟩)) := by rw [← hGi18, updH_same]; rfl
    clear hGi18 hi180
    simp only [go_sem, h2, h3, h4, h8, h9, h10, h14, h16, h17, R18, R, R10, Ra, Rb]
    refine wputE_n R18 (by simp [encRoute_len]) ?_
    generalize hP : updH _ i18 _ = HP
    replace R := (congrFun hP.symm j).trans ((updH_ne _ _ _ _ (by first | exact ne_j_i18 | exact ne_i18_j.symm)).trans R)
    replace R10 := (congrFun hP.symm i10).trans ((updH_ne _ _ _ _ (by first | exact ne_i10_i18 | exact ne_i18_i10.symm)).trans R10)
    replace Ra := (congrFun hP.symm ja).trans ((updH_ne _ _ _ _ (by first | exact ne_ja_i18 | exact ne_i18_ja.symm)).trans Ra)
    replace Rb := (congrFun hP.symm jb).trans ((updH_ne _ _ _ _ (by first | exact ne_jb_i18 | exact ne_i18_jb.symm)).trans Rb)
    replace R18 : HP i18 = some (routeRow [int r.type, int r.start, .os ja, .os jb]) := by rw [← hP, updH_same]; rfl
    clear hP
    simp only [go_sem, h2, h3, h4, h8, h9, h10, h14, h16, h17, R18, R, R10, Ra, Rb]
    refine adraw_m [(0, true), (2, true), (3, true), (4, true), (1, false), (5, false), (6, false), (7, false)] (by kernel_rfl) ?_
    simp only [go_sem, h2, h3, h4, h8, h9, h10, h14, h16, h17, R18]
    have hrl : (restsS s).length = r.visits.length + 1 := by simp [restsS, htl]
    have hml : (if d = true then n + 1 else n) ≤ (restsS s).length := by split <;> omega
    refine ⟨by omega, ?_⟩
    refine wappE_i Ra ⟨rfl, rfl⟩ (by rw [← List.map_take]; exact bool_all _) (by simp only [List.length_map, List.length_nil, List.length_take]; omega) (fun ja' hja'0 => ?_)
    have ne_i18_ja : i18 ≠ ja := ne_ja_i18.symm
    have ne_j_ja' : j ≠ ja' := ne_new R hja'0
    have ne_i10_ja' : i10 ≠ ja' := ne_new R10 hja'0
    have ne_i18_ja' : i18 ≠ ja' := ne_new R18 hja'0
    have ne_jb_ja' : jb ≠ ja' := ne_new Rb hja'0
    generalize hP : updH (updH _ ja none) ja' _ = HP
    replace R := (congrFun hP.symm j).trans ((updH_ne _ _ _ _ ne_j_ja').trans ((updH_ne _ _ _ _ (by first | exact ne_j_ja | exact ne_ja_j.symm)).trans R))
    replace R10 := (congrFun hP.symm i10).trans ((updH_ne _ _ _ _ ne_i10_ja').trans ((updH_ne _ _ _ _ (by first | exact ne_i10_ja | exact ne_ja_i10.symm)).trans R10))
    replace R18 := (congrFun hP.symm i18).trans ((updH_ne _ _ _ _ ne_i18_ja').trans ((updH_ne _ _ _ _ (by first | exact ne_i18_ja | exact ne_ja_i18.symm)).trans R18))
    replace Rb := (congrFun hP.symm jb).trans ((updH_ne _ _ _ _ ne_jb_ja').trans ((updH_ne _ _ _ _ (by first | exact ne_jb_ja | exact ne_ja_jb.symm)).trans Rb))
    have Ra' : HP ja' = some (boolRow ((restsS s).take (if d = true then n + 1 else n))) := by rw [← hP, updH_same]; simp only [boolRow, List.map_nil, List.nil_append, List.map_take]
    clear hP hja'0
    simp only [go_sem, h2, h3, h4, h8, h9, h10, h14, h16, h17, Ra', R, R10, R18, Rb]
    refine wputE_1 so53 R18 ⟨by simp, rfl, by simp⟩ ?_
    generalize hP : updH _ i18 _ = HP
    replace R := (congrFun hP.symm j).trans ((updH_ne _ _ _ _ (by first | exact ne_j_i18 | exact ne_i18_j.symm)).trans R)
    replace R10 := (congrFun hP.symm i10).trans ((updH_ne _ _ _ _ (by first | exact ne_i10_i18 | exact ne_i18_i10.symm)).trans R10)
    replace Ra' := (congrFun hP.symm ja').trans ((updH_ne _ _ _ _ (by first | exact ne_ja'_i18 | exact ne_i18_ja'.symm)).trans Ra')
    replace Rb := (congrFun hP.symm jb).trans ((updH_ne _ _ _ _ (by first | exact ne_jb_i18 | exact ne_i18_jb.symm)).trans Rb)
    replace R18 : HP i18 = some (routeRow [int r.type, int r.start, .os ja', .os jb]) := by rw [← hP, updH_same]; rfl
    clear hP
    simp only [go_sem, h2, h3, h4, h8, h9, h10, h14, h16, h17, R18, R, R10, Ra', Rb]
    refine adraw_p [i10] [(0, true), (2, true), (3, true), (4, true), (5, true), (1, false), (6, false), (7, false), (8, false)] (by simp [R10]) (by kernel_rfl) fun Hp Hr hpp hqq _ _ => ?_
    have P10 := (hpp i10 (by simp)).trans R10
    replace R := (hqq j (by simp; exact ne_j_i10)).trans R
    replace R18 := (hqq i18 (by simp; exact ne_i10_i18.symm)).trans R18
    replace Ra' := (hqq ja' (by simp; exact ne_i10_ja'.symm)).trans Ra'
    replace Rb := (hqq jb (by simp; exact ne_i10_jb.symm)).trans Rb
    simp only [go_sem, h2, h3, h4, h8, h9, h10, h14, h16, h17, P10, R18]
    have hnl : n ≤ r.visits.length := hpl
    refine ⟨by omega, ?_⟩
    refine wappE_i Rb ⟨rfl, rfl⟩ (by rw [← List.map_take]; exact vis_all _) (by simp only [List.length_map, List.length_nil, List.length_take]; omega) (fun jb' hjb'0 => ?_)
    have ne_i18_jb : i18 ≠ jb := ne_jb_i18.symm
    have ne_j_jb' : j ≠ jb' := ne_new R hjb'0
    have ne_i18_jb' : i18 ≠ jb' := ne_new R18 hjb'0
    have ne_ja'_jb' : ja' ≠ jb' := ne_new Ra' hjb'0
    generalize hP : updH (updH _ jb none) jb' _ = HP
    replace R := (congrFun hP.symm j).trans ((updH_ne _ _ _ _ ne_j_jb').trans ((updH_ne _ _ _ _ (by first | exact ne_j_jb | exact ne_jb_j.symm)).trans R))
    replace R18 := (congrFun hP.symm i18).trans ((updH_ne _ _ _ _ ne_i18_jb').trans ((updH_ne _ _ _ _ (by first | exact ne_i18_jb | exact ne_jb_i18.symm)).trans R18))
    replace Ra' := (congrFun hP.symm ja').trans ((updH_ne _ _ _ _ ne_ja'_jb').trans ((updH_ne _ _ _ _ (by first | exact ne_ja'_jb | exact ne_jb_ja'.symm)).trans Ra'))
    have Rb' : HP jb' = some (visRow (r.visits.take n)) := by rw [← hP, updH_same]; simp only [visRow, List.map_nil, List.nil_append, List.map_take]
    clear hP hjb'0
    simp only [go_sem, h2, h3, h4, h8, h9, h10, h14, h16, h17, Rb', R, R18, Ra']
    refine wputE_1 so54 R18 ⟨by simp, rfl, by simp⟩ ?_
    generalize hP : updH _ i18 _ = HP
    replace R := (congrFun hP.symm j).trans ((updH_ne _ _ _ _ (by first | exact ne_j_i18 | exact ne_i18_j.symm)).trans R)
    replace Ra' := (congrFun hP.symm ja').trans ((updH_ne _ _ _ _ (by first | exact ne_ja'_i18 | exact ne_i18_ja'.symm)).trans Ra')
    replace Rb' := (congrFun hP.symm jb').trans ((updH_ne _ _ _ _ (by first | exact ne_jb'_i18 | exact ne_i18_jb'.symm)).trans Rb')
    replace R18 : HP i18 = some (routeRow [int r.type, int r.start, .os ja', .os jb']) := by rw [← hP, updH_same]; rfl
    clear hP
    simp only [go_sem, h2, h3, h4, h8, h9, h10, h14, h16, h17, R18, R, Ra', Rb']
    refine pinEnd_i fun hnone Hm hm1 hm2 => ?_
    have nb10 : jb' ≠ i10 := fun e => by rw [e, hnone i10 (by simp)] at Rb'; cases Rb'
    replace R := (hm2 j (by simp; exact ne_j_i10)).trans R
    replace R18 := (hm2 i18 (by simp; exact ne_i10_i18.symm)).trans R18
    replace Ra' := (hm2 ja' (by simp; exact ne_i10_ja'.symm)).trans Ra'
    replace Rb' := (hm2 jb' (by simp; exact nb10)).trans Rb'
    simp only [go_sem, h2, h3, h4, h8, h9, h10, h14, h16, h17, R18]
    refine athaw_i [ja', jb'] (encRoute (begunP r n d s)) ⟨.inl rfl, .inl rfl, .inr ⟨ja', _, by simp, rfl, Ra', rfl⟩, .inr ⟨jb', _, by simp, rfl, Rb', rfl⟩, trivial⟩ fun Hq _ hq1 => ?_
    have nja : j ≠ ja' := row_ne R Ra' (by rfl)
    have njb : j ≠ jb' := row_ne R Rb' (by rfl)
    replace R := (hq1 j (by simp; exact ⟨nja, njb⟩)).trans R
    simp only [go_sem, h2, h3, h4, h8, h9]
    refine wappE_i R ⟨rfl, rfl⟩ ⟨encRoute_len _, trivial⟩ (by simp only [List.length_map, List.length_cons, List.length_nil]; omega) (fun j' hj' => ?_)
    simp only [go_sem, h2, h3, h4, h8, h9, wrapS (show k ≤ 4611686018427387904 by omega)]
    refine ⟨⟨k + 1, j', hlt, rfl, rfl, ?_, take_allP (p := fun r => badE x r = false) hrk hE hz⟩, by simp only [natOf_int]; omega⟩
    have hpos : decide ((((progR x r now).1 : Nat) : Int) > 0) = true := by
      rw [hn]
      have : ((n : Int) == 0) = false := by simpa using hb3
      simp at this ⊢; omega
    rw [pre_succ hrk, show preR x now r = [begunP r n d s] by unfold preR; rw [if_pos hpos, hn, hd, hsh]]
    exact row_appG (l' := [begunP r n d s]) rfl
  · have hge := eq_of_ge_b hk hge
    subst hge
    rw [List.take_length] at R hz
    simp only [go_sem, h8]
    have e : prefP x p now = (p.routes.flatMap (preR x now), 0) := by unfold prefP; rw [if_neg (by rw [hb]; simp), find_miss hz]
    rw [e]
    exact .tup _ _ (.cons _ _ _ _ (.row _ _ _ R (ConvE.refl _)) (ConvL.refl _))
end Go.Proofs.YtbefdpmjpioijaaGreatDoor.Sq
