/- Texts joined by a program: RxH. -/
import Derived.Test.YtdlijlecpopadaaGreatDoorZx30

set_option linter.unusedSimpArgs false
set_option linter.unusedVariables false
namespace Go.Proofs.YtdlijlecpopadaaGreatDoor.Rx
open Go.Aw Go.Aw.D Go.Proofs Ty Go.Nu
open Sq (W go09 ableP addP subP fits06 visP stopV hasR NetOk idxF idxF_hit idxF_miss idxF_any)
open Nu (rAdd_c rSub_c rof_c ltB geB rCompare_c right1_c)
open Mv (convI convB convA NC.pc take_allP)
set_option maxRecDepth 100000
theorem idxPrt_c {g : Nat} {cap : List AV} {p : Part → Bool} (l : List Part) (hl : l.length ≤ 4000000000000000000) (hok : callOk Tryz.prog g = true) (hg : ∀ v ∈ l, PC Tryz.prog g ((.agg (encPart v)) :: cap) (boo (p v))) :
    PC Tryz.prog 95 [.sl (l.map encPart), .fn g cap] (int (idxF p l 0)) := by
  refine PC.body (c := Tryz.f95.body.getD .skip) (fun _ => false) mixed Tryz.func95 rfl (by kernel_rfl) ?_
  unfold Tryz.f95
  simp only [Option.getD_some]
  simp only [go_sem]
  refine ⟨fun ρ _ => ∃ k : Nat, k ≤ l.length ∧ ρ 0 = .sl (l.map encPart) ∧ ρ 1 = .fn g cap ∧ ρ 7 = int l.length ∧ ρ 8 = int k ∧ ∀ u ∈ l.take k, p u = false, fun ρ _ => l.length - natOf (ρ 8), ⟨0, Nat.zero_le _, rfl, rfl, rfl, rfl, by simp⟩, ?_⟩
  rintro ρ H ⟨k, hk, h0, h1, h7, h8, hz⟩
  simp only [go_sem, h0, h1, h7, h8]
  refine acond_i (fun hlt => ?_) (fun hge => ?_)
  · have hlt := le_of_lt_b hlt
    obtain ⟨u, hu⟩ := getIn hlt
    have b1 := inB hlt
    simp only [go_sem, h0, h1, h7, h8, getD_map hu, b1, hok]
    refine PC.use (hg u (List.mem_of_getElem? hu)) ?_
    simp only [go_sem, h0, h1, h7, h8]
    refine acond_i (fun hb => ?_) (fun hb => ?_)
    · simp only [go_sem, h8]
      exact convI (by rw [idxF_hit hz hu hb]; omega)
    · simp only [go_sem, h0, h1, h7, h8, wrapS (show k ≤ 4611686018427387904 by omega)]
      exact ⟨⟨k + 1, hlt, rfl, take_allP (p := fun u => p u = false) hu hb hz⟩, by simp only [natOf_int]; omega⟩
  · have hge := eq_of_ge_b hk hge
    subst hge
    rw [List.take_length] at hz
    simp only [go_sem]
    exact convI (by rw [idxF_miss hz])
theorem anyPrt_c {g : Nat} {cap : List AV} {p : Part → Bool} (l : List Part) (hl : l.length ≤ 4000000000000000000) (hok : callOk Tryz.prog g = true) (hg : ∀ v ∈ l, PC Tryz.prog g ((.agg (encPart v)) :: cap) (boo (p v))) :
    PC Tryz.prog 48 [.sl (l.map encPart), .fn g cap] (boo (l.any p)) := by
  refine PC.body (c := Tryz.f48.body.getD .skip) (fun _ => false) mixed Tryz.func48 rfl (by kernel_rfl) ?_
  unfold Tryz.f48
  simp only [Option.getD_some]
  simp only [go_sem]
  refine PC.use (idxPrt_c l hl hok hg) ?_
  simp only [go_sem]
  exact convB (idxF_any l 0 (Int.le_refl _))
abbrev partsRow (l : List Part) : Row := ⟨94, 7, l.map encPart⟩
theorem parts_app (l : List Part) (q : Part) : (⟨94, 7, l.map encPart ++ [encPart q]⟩ : Row) = partsRow (l ++ [q]) := by
  show _ = (⟨94, 7, (l ++ [q]).map encPart⟩ : Row)
  rw [List.map_append]; rfl
structure BH (H : Heap) (w : Wk) (jw jk jm jf : Nat) (known more fresh : List Part) : Prop where
  rw : H jw = some (wkRow w)
  rk : H jk = some (partsRow known)
  rm : H jm = some (partsRow more)
  rf : H jf = some (partsRow fresh)
  km : jk ≠ jm
  kf : jk ≠ jf
  mf : jm ≠ jf
theorem wk_ne {H : Heap} {w : Wk} {i j : Nat} {l : List (List AV)} (hi : H i = some (wkRow w)) (hj : H j = some ⟨94, 7, l⟩) : i ≠ j := fun e => by
  subst e; rw [hi] at hj
  have := congrArg Row.e (Option.some.inj hj)
  exact absurd (show (89 : Nat) = 94 from this) (by decide)
section
variable {H : Heap} {w : Wk} {jw jk jm jf : Nat} {known more fresh : List Part}
theorem BH.mono (h : BH H w jw jk jm jf known more fresh) {H' : Heap} (hm : ∀ k row, H k = some row → H' k = some row) : BH H' w jw jk jm jf known more fresh :=
  ⟨hm _ _ h.rw, hm _ _ h.rk, hm _ _ h.rm, hm _ _ h.rf, h.km, h.kf, h.mf⟩
theorem BH.appK (h : BH H w jw jk jm jf known more fresh) {j : Nat} (hj : H j = none) (q : Part) : BH (updH (updH H jk none) j (some (partsRow (known ++ [q])))) w jw j jm jf (known ++ [q]) more fresh := by
  have nw := wk_ne h.rw h.rk
  have n1 := ne_new h.rw hj
  have n2 := ne_new h.rm hj
  have n3 := ne_new h.rf hj
  exact ⟨by rw [updH_ne _ _ _ _ n1, updH_ne _ _ _ _ nw]; exact h.rw, updH_same _ _ _, by rw [updH_ne _ _ _ _ n2, updH_ne _ _ _ _ h.km.symm]; exact h.rm, by rw [updH_ne _ _ _ _ n3, updH_ne _ _ _ _ h.kf.symm]; exact h.rf, n2.symm, n3.symm, h.mf⟩
theorem BH.appM (h : BH H w jw jk jm jf known more fresh) {j : Nat} (hj : H j = none) (q : Part) : BH (updH (updH H jm none) j (some (partsRow (more ++ [q])))) w jw jk j jf known (more ++ [q]) fresh := by
  have nw := wk_ne h.rw h.rm
  have n1 := ne_new h.rw hj
  have n2 := ne_new h.rk hj
  have n3 := ne_new h.rf hj
  exact ⟨by rw [updH_ne _ _ _ _ n1, updH_ne _ _ _ _ nw]; exact h.rw, by rw [updH_ne _ _ _ _ n2, updH_ne _ _ _ _ h.km]; exact h.rk, updH_same _ _ _, by rw [updH_ne _ _ _ _ n3, updH_ne _ _ _ _ h.mf.symm]; exact h.rf, n2, h.kf, n3.symm⟩
end
structure BI (H : Heap) (jk jm i : Nat) (p : Part) : Prop where
  ri : H i = some (partRow p)
  ik : i ≠ jk
  im : i ≠ jm
theorem BI.mono {H H' : Heap} {jk jm i : Nat} {p : Part} (h : BI H jk jm i p) (hm : ∀ k row, H k = some row → H' k = some row) : BI H' jk jm i p := ⟨hm _ _ h.ri, h.ik, h.im⟩
theorem BI.appK {H : Heap} {jk jm i j : Nat} {p : Part} (h : BI H jk jm i p) (hj : H j = none) (a : Option Row) : BI (updH (updH H jk none) j a) j jm i p := by
  have n := ne_new h.ri hj
  exact ⟨by rw [updH_ne _ _ _ _ n, updH_ne _ _ _ _ h.ik]; exact h.ri, n, h.im⟩
theorem BI.appM {H : Heap} {jk jm i j : Nat} {p : Part} (h : BI H jk jm i p) (hj : H j = none) (a : Option Row) : BI (updH (updH H jm none) j a) jk j i p := by
  have n := ne_new h.ri hj
  exact ⟨by rw [updH_ne _ _ _ _ n, updH_ne _ _ _ _ h.im]; exact h.ri, h.ik, n⟩
theorem mono_n {H : Heap} {i : Nat} (hi : H i = none) (a : Option Row) : ∀ k row, H k = some row → updH H i a k = some row := fun k row hk => by
  rw [updH_ne _ _ _ _ (fun e => by subst e; rw [hi] at hk; cases hk)]; exact hk
theorem mono_n2 {H : Heap} {i : Nat} (hi : H i = none) (a b : Option Row) : ∀ k row, H k = some row → updH (updH H i a) i b k = some row := fun k row hk => by
  rw [updH_ne _ _ _ _ (fun e => by subst e; rw [hi] at hk; cases hk)]; exact mono_n hi a k row hk
theorem bound1_c (p q : Part) (hp : p.memory < 2 ^ 62) (hq : q.memory < 2 ^ 62) (hpl : p.load.length ≤ 1048576) (hpv : p.value.size ≤ 1048576) (hqv : q.value.size ≤ 1048576) (hpc : p.clocks.length ≤ 4194304) (hqc : q.clocks.length ≤ 4194304) :
    PC Tryz.prog 49 [.agg (encPart p), .rp (encPart q) 0] (boo (beatsP p q)) := by
  refine PC.body (c := Tryz.f49.body.getD .skip) (fun _ => false) mixed Tryz.func49 rfl (by kernel_rfl) ?_
  unfold Tryz.f49
  simp only [Option.getD_some]
  simp only [go_sem]
  refine PC.use (pbeats_c p q hp hq hpl hpv hqv hpc hqc) ?_
  simp only [go_sem]
  exact .refl _
def frM (m : Nat) (x : AV) (H : Heap) : Nat := match x with
  | .os j => match H j with
    | some r => if r.es.length = 0 then 0 else m + 1 - natOf ((r.es.getD 0 []).getD 3 .any)
    | none => 0
  | _ => 0
theorem frM_eq {m : Nat} {H : Heap} {j : Nat} {l : List Part} (h : H j = some (partsRow l)) : frM m (.os j) H = match l with | [] => 0 | p :: _ => m + 1 - p.visits := by
  unfold frM
  simp only [h]
  cases l with
  | nil => rfl
  | cons p l => rfl
theorem frM_cons {m : Nat} {H : Heap} {j : Nat} {l t : List Part} {p : Part} (h : H j = some (partsRow l)) (hl : p :: t = l) : frM m (.os j) H = m + 1 - p.visits := by
  subst hl; exact frM_eq h
theorem frM_nil {m : Nat} {H : Heap} {j : Nat} {l : List Part} (h : H j = some (partsRow l)) (hl : l = []) : frM m (.os j) H = 0 := by
  subst hl; exact frM_eq h
structure SI (D : Nat) (w : Wk) (r m K : Nat) (s : Srch) : Prop where
  known : ∀ p ∈ s.known, PInv D p ∧ p.visits ≤ 6
  more : ∀ p ∈ s.more, PInv D p ∧ p.visits = r + 1 ∧ r + 1 ≤ w.most
  ml : s.more.length ≤ m
  kl : s.known.length ≤ K + s.more.length
  best : s.best.size ≤ 8194
theorem SI.le {D : Nat} {w : Wk} {r m m' K : Nat} {s : Srch} (h : SI D w r m K s) (hm : m ≤ m') : SI D w r m' K s := ⟨h.known, h.more, Nat.le_trans h.ml hm, h.kl, h.best⟩
theorem price_sz (w : Wk) (q : Part) (e m : Int) : (priceP w q e m).size ≤ 8194 := addV_size _ _
theorem seeP_parts (w : Wk) (s : Srch) (q : Part) : (seeP w s q).known = s.known ++ [q] ∧ (seeP w s q).more = s.more ++ [q] ∧ ((seeP w s q).best = s.best ∨ ∃ e m, (seeP w s q).best = priceP w q e m) := by
  unfold seeP
  simp only
  split
  · exact ⟨rfl, rfl, .inr ⟨_, _, rfl⟩⟩
  · exact ⟨rfl, rfl, .inl rfl⟩
theorem SI.try {D : Nat} {w : Wk} {r m K : Nat} {s : Srch} (h : SI D w r m K s) (hw : WkB D w) (hm6 : w.most ≤ 6) {p : Part} (hp : PInv D p) (hpr : p.visits = r) {v : Visit} (hv : VisOk w.x v) : SI D w r (m + 1) K (tryP w p s v) := by
  unfold tryP
  simp only
  split
  · exact h.le (Nat.le_succ m)
  · next hc =>
    simp only [Bool.or_eq_true, not_or] at hc
    have hq2 : (nextP w p v).2 = true := by simpa using hc.1
    obtain ⟨q1, q2, q3⟩ := next_true hw hp hv hq2
    obtain ⟨e1, e2, e3⟩ := seeP_parts w s (nextP w p v).1
    refine ⟨fun u hu => ?_, fun u hu => ?_, ?_, ?_, ?_⟩
    · rw [e1] at hu
      rcases List.mem_append.1 hu with hu | hu
      · exact h.known u hu
      · rw [List.mem_singleton] at hu; subst hu; exact ⟨q1, by omega⟩
    · rw [e2] at hu
      rcases List.mem_append.1 hu with hu | hu
      · exact h.more u hu
      · rw [List.mem_singleton] at hu; subst hu; exact ⟨q1, by omega, by omega⟩
    · rw [e2, List.length_append, List.length_singleton]; have := h.ml; omega
    · rw [e1, e2, List.length_append, List.length_append]; have := h.kl; omega
    · rcases e3 with e3 | ⟨e, mm, e3⟩
      · rw [e3]; exact h.best
      · rw [e3]; exact price_sz _ _ _ _
def rndS (w : Wk) (vs : List Visit) (s : Srch) (p : Part) : Srch := vs.foldl (tryP w p) s
def boundP (x : Instance) (kind : Int) (dual : List ByteArray) (near : List Int) : ByteArray × Bool × Int :=
  if (walkBad x kind near || (dual.length : Int) != (x.orders.length : Int)) = true then (emp, false, 2)
  else if (dual.any fun a => !rightR a) = true then (emp, false, 3)
  else
    let w : Wk := { mkWk x kind.toNat near with dual := some dual }
    let s := searchP w (allP x) (w.most + 1) ⟨[], [], emp, false⟩ [beginP w]
    (s.best, s.found, 0)
theorem bound_c {D : Nat} (x : Instance) (h : XB D x) (h3 : x.orders.length ≤ 3) (kind : Int) (dual : List ByteArray) (near : List Int) (hnl : near.length ≤ 1048576) (hdl : dual.length ≤ 1048576) (hds : ∀ a ∈ dual, a.size ≤ 1048576) :
    PC Tryz.prog 19 [.agg (encInstance x), int kind, .sl (dual.map Go.Aw.D.encStr), .sl (near.map encInt)] (.tup [str (boundP x kind dual near).1, boo (boundP x kind dual near).2.1, int (boundP x kind dual near).2.2]) := by
  have hx : x.orders.length ≤ 1048576 := by omega
  have eR : boundP x kind dual near = if (walkBad x kind near || (dual.length : Int) != (x.orders.length : Int)) = true then (emp, false, 2)
    else if (dual.any fun a => !rightR a) = true then (emp, false, 3)
    else
      ((searchP { mkWk x kind.toNat near with dual := some dual } (allP x) ((mkWk x kind.toNat near).most + 1) ⟨[], [], emp, false⟩ [beginP { mkWk x kind.toNat near with dual := some dual }]).best, (searchP { mkWk x kind.toNat near with dual := some dual } (allP x) ((mkWk x kind.toNat near).most + 1) ⟨[], [], emp, false⟩ [beginP { mkWk x kind.toNat near with dual := some dual }]).found, 0) := rfl
  generalize boundP x kind dual near = R at eR
  refine PC.body (c := Tryz.f19.body.getD .skip) (fun t => t == 18 || t == 20 || t == 66) mixed Tryz.func19 rfl (by kernel_rfl) ?_
  unfold Tryz.f19
  simp only [Option.getD_some]
  simp only [go_sem]
  by_cases hB : walkBad x kind near = true
  · rw [if_pos (by rw [hB]; rfl)] at eR
    subst eR
    refine PC.use (walk_bad x kind near hx hnl hB) ?_
    simp only [go_sem]
    refine acond_i (fun hb => ?_) (fun hb => nomatch hb)
    simp only [go_sem]
    exact .refl _
  have hB : walkBad x kind near = false := by simpa using hB
  rw [hB, Bool.false_or] at eR
  obtain ⟨kd, rfl⟩ : ∃ k : Nat, kind = (k : Nat) := by
    have := (walkBad_f hB).1
    simp at this
    exact ⟨kind.toNat, by omega⟩
  rw [Int.toNat_natCast] at eR
  refine NC.use (walk_n x kd near hx hnl hB) fun jw hjw => ?_
  have R0 : updH noRows jw (some (wkRow (mkWk x kd near))) jw = some (wkRow (mkWk x kd near)) := updH_same _ _ _
  generalize updH noRows jw _ = H at R0 ⊢
  simp only [go_sem]
  refine acond_i (fun hb => ?_) (fun hb => ?_)
  · rw [if_pos (by simpa using hb)] at eR
    subst eR
    simp only [go_sem]
    exact .refl _
  rw [if_neg (by simpa using hb)] at eR
  have hdo : dual.length = x.orders.length := by simp at hb; omega
  simp only [go_sem]
  refine ⟨fun ρ H => ∃ (k : Nat), k ≤ dual.length ∧ ρ 2 = .sl (dual.map Go.Aw.D.encStr) ∧ ρ 4 = .rp (encInstance x) 0 ∧ ρ 11 = .op jw 0 0 ∧ ρ 48 = .sl (dual.map Go.Aw.D.encStr) ∧ ρ 49 = int (dual.length : Nat) ∧ ρ 50 = int k ∧ (∀ u ∈ dual.take k, (!rightR u) = false) ∧ H jw = some (wkRow (mkWk x kd near)), fun ρ _ => dual.length - natOf (ρ 50), ⟨0, Nat.zero_le _, by simp only [go_sem], by simp only [go_sem], by simp only [go_sem], by simp only [go_sem], by simp only [go_sem, List.length_map], (by simp only [go_sem]; rfl), by simp, R0⟩, ?_⟩
  rintro ρ H ⟨k, hk, e2, e4, e11, e48, e49, e50, hz, R0⟩
  simp only [go_sem, e2, e4, e11, e48, e49, e50]
  refine acond_i (fun hlt => ?_) (fun hge => ?_)
  · have hlt := ltB (by simpa using hlt)
    obtain ⟨a, ha⟩ := getIn hlt
    have b1 := inB hlt
    simp only [go_sem, e2, e4, e11, e48, e49, e50, getD_map ha, b1]
    refine PC.use (right1_c a (hds a (List.mem_of_getElem? ha))) ?_
    simp only [go_sem, e2, e4, e11, e48, e49, e50]
    refine acond_i (fun hb => ?_) (fun hb => ?_)
    · rw [if_pos (List.any_eq_true.2 ⟨a, List.mem_of_getElem? ha, hb⟩)] at eR
      subst eR
      simp only [go_sem]
      exact .refl _
    · simp only [go_sem, e2, e4, e11, e48, e49, e50, wrapS (show k ≤ 4611686018427387904 by omega)]
      exact ⟨⟨k + 1, hlt, rfl, take_allP (p := fun u => (!rightR u) = false) ha hb hz, R0⟩, by simp only [natOf_int]; omega⟩
  have hge := geB hk (by simpa using hge)
  subst hge
  rw [List.take_length] at hz
  rw [if_neg (by rw [Bool.not_eq_true, List.any_eq_false]; intro a ha; rw [hz a ha]; simp)] at eR
  simp only [go_sem, e2, e4, e11, e48, e49, e50]
  obtain ⟨hw, hcap⟩ := mk_wkb h hB (some dual) (fun l e => by injection e with e; subst e; exact ⟨hdo, hds⟩)
  refine wputE_1 so43 R0 (by simp [encWk_len]) ?_
  have hWx : ({ mkWk x kd near with dual := some dual } : Wk).x = x := rfl
  have hWc : ({ mkWk x kd near with dual := some dual } : Wk).t.cap.length = D := hcap
  have hWm : ({ mkWk x kd near with dual := some dual } : Wk).most = (allP x).length := rfl
  have hMm : (mkWk x kd near).most = (allP x).length := rfl
  rw [hMm, ← hWm] at eR
  have hrow : updH H jw (some (⟨89, 24, [setAt (encWk (mkWk x kd near)) 22 [.sl (dual.map Go.Aw.D.encStr)]]⟩ : Row)) jw = some (wkRow { mkWk x kd near with dual := some dual }) := by rw [updH_same]; rfl
  generalize ({ mkWk x kd near with dual := some dual } : Wk) = w at *
  generalize hP : updH H jw _ = HP
  have Rw : HP jw = some (wkRow w) := by rw [← hP]; exact hrow
  clear hP hrow R0
  simp only [go_sem, e2, e4, e11, e48, e49, e50]
  refine PC.use (all_c x hx) ?_
  have hvs : ∀ v ∈ allP x, VisOk w.x v := by rw [hWx]; exact allP_ok x
  have hvl : (allP x).length ≤ 6 := by have := all_len x x.orders.length; unfold allP; omega
  rw [hWm] at eR
  generalize allP x = vs at *
  simp only [go_sem, e2, e4, e11, e48, e49, e50]
  refine anew_i fun jk hjk => ?_
  simp only [go_sem, e2, e4, e11, e48, e49, e50]
  have Rw1 := mono_n hjk (some (⟨94, 7, []⟩ : Row)) _ _ Rw
  have Rk1 : updH HP jk (some (⟨94, 7, []⟩ : Row)) jk = some (partsRow []) := updH_same _ _ _
  generalize updH HP jk _ = H1 at Rw1 Rk1 ⊢
  refine LC.use (begin_l _ jw w Rw1 (by rw [hWc]; exact h.D)) ?_
  simp only [go_sem, e2, e4, e11, e48, e49, e50]
  refine anew_i fun jf hjf => ?_
  have nkf := ne_new Rk1 hjf
  have Rw2 := mono_n hjf (some (⟨94, 7, [encPart (beginP w)]⟩ : Row)) _ _ Rw1
  have Rk2 := mono_n hjf (some (⟨94, 7, [encPart (beginP w)]⟩ : Row)) _ _ Rk1
  have Rf2 : updH H1 jf (some (⟨94, 7, [encPart (beginP w)]⟩ : Row)) jf = some (partsRow [beginP w]) := updH_same _ _ _
  generalize updH H1 jf _ = H2 at Rw2 Rk2 Rf2 ⊢
  clear Rw1 Rk1 Rw hjf hjk
  simp only [go_sem, e2, e4, e11, e48, e49, e50]
  refine ⟨fun ρ H => ∃ (jk jf : Nat) (s : Srch) (fresh : List Part) (r : Nat), ρ 11 = .op jw 0 0 ∧ ρ 15 = .sl (vs.map encVisit) ∧ ρ 16 = str s.best ∧ ρ 17 = boo s.found ∧ ρ 18 = .os jk ∧ ρ 19 = .os jf ∧ H jw = some (wkRow w) ∧ H jk = some (partsRow s.known) ∧ H jf = some (partsRow fresh) ∧ jk ≠ jf ∧ r ≤ vs.length + 1 ∧ (∀ p ∈ s.known, PInv D p ∧ p.visits ≤ 6) ∧ (∀ p ∈ fresh, PInv D p ∧ p.visits = r ∧ r ≤ w.most) ∧ fresh.length ≤ 6 ^ r ∧ s.known.length ≤ r * 46656 ∧ s.best.size ≤ 8194 ∧ searchP w vs (vs.length + 1) ⟨[], [], emp, false⟩ [beginP w] = searchP w vs (vs.length + 1 - r) s fresh,
    fun ρ H => frM w.most (ρ 19) H, ⟨jk, jf, ⟨[], [], emp, false⟩, [beginP w], 0, by simp only [go_sem, e2, e4, e11, e48, e49, e50], by simp only [go_sem], by simp only [go_sem]; rfl, by simp only [go_sem], by simp only [go_sem], by simp only [go_sem], Rw2, Rk2, Rf2, nkf, Nat.zero_le _, by simp, fun p hp => ?_, Nat.le_refl 1, Nat.zero_le _, Nat.zero_le _, rfl⟩, ?_⟩
  · rw [List.mem_singleton] at hp; subst hp
    exact ⟨begin_inv hWc, rfl, Nat.zero_le _⟩
  rintro ρ H ⟨jk, jf, s, fresh, r, e11, e15, e16, e17, e18, e19, Rw, Rk, Rf, nkf, hr7, hkn, hfr, hfl, hkl, hbs, hS⟩
  simp only [go_sem, e11, e15, e16, e17, e18, e19, Rf, List.length_map]
  refine acond_i (fun hb => ?_) (fun hb => ?_)
  rotate_left
  · have hf0 : fresh = [] := by
      have : ¬ ((fresh.length : Int) > 0) := by simpa using hb
      exact List.length_eq_zero_iff.1 (by omega)
    subst hf0
    have hSe : searchP w vs (vs.length + 1 - r) s [] = s := by
      cases vs.length + 1 - r with
      | zero => rfl
      | succ n => exact if_pos rfl
    rw [hS, hSe] at eR
    subst eR
    simp only [go_sem, e16, e17]
    exact .refl _
  have hfn : fresh ≠ [] := fun e => by subst e; simp at hb
  obtain ⟨p0, f0, rfl⟩ : ∃ p0 f0, fresh = p0 :: f0 := by
    cases fresh with
    | nil => exact absurd rfl hfn
    | cons a l => exact ⟨a, l, rfl⟩
  have hr6 : r ≤ w.most := (hfr p0 (by simp)).2.2
  have hm6 : w.most ≤ 6 := by omega
  have hfuel : vs.length + 1 - r = (vs.length + 1 - (r + 1)) + 1 := by omega
  rw [hfuel] at hS
  have hS2 : searchP w vs (vs.length + 1) ⟨[], [], emp, false⟩ [beginP w] = searchP w vs (vs.length + 1 - (r + 1)) (roundP w vs s (p0 :: f0)) (roundP w vs s (p0 :: f0)).more := hS.trans (if_neg hfn)
  generalize hfe : p0 :: f0 = fresh at *
  simp only [go_sem, e11, e15, e16, e17, e18, e19]
  refine anew_i fun jm hjm => ?_
  simp only [go_sem, e11, e15, e16, e17, e18, e19]
  have B : BH (updH H jm (some (⟨94, 7, []⟩ : Row))) w jw jk jm jf s.known [] fresh :=
    ⟨mono_n hjm _ _ _ Rw, mono_n hjm _ _ _ Rk, updH_same _ _ _, mono_n hjm _ _ _ Rf, ne_new Rk hjm, nkf, (ne_new Rf hjm).symm⟩
  generalize updH H jm _ = H3 at B ⊢
  have h6r : 6 ^ r ≤ 46656 := Nat.le_trans (Nat.pow_le_pow_right (by decide) (show r ≤ 6 by omega)) (by decide)
  have I0 : SI D w r 0 s.known.length { s with more := [] } := ⟨hkn, by simp, Nat.le_refl 0, Nat.le_refl _, hbs⟩
  simp only [go_sem, e11, e15, e16, e17, e18, e19, B.rf, List.length_map]
  refine ⟨fun ρ H => ∃ (k : Nat) (jk : Nat) (jm : Nat) (s2:Srch), k ≤ fresh.length ∧ ρ 11 = .op jw 0 0 ∧ ρ 15 = .sl (vs.map encVisit) ∧ ρ 70 = .os jf ∧ ρ 71 = int (fresh.length : Nat) ∧ ρ 72 = int k ∧ ρ 16 = str s2.best ∧ ρ 17 = boo s2.found ∧ ρ 18 = .os jk ∧ ρ 20 = .os jm ∧ s2 = (fresh.take k).foldl (rndS w vs) { s with more := [] } ∧ SI D w r (6 * k) s.known.length s2 ∧ BH H w jw jk jm jf s2.known s2.more fresh, fun ρ _ => fresh.length - natOf (ρ 72), ⟨0, jk, jm, { s with more := [] }, Nat.zero_le _, by simp only [go_sem, e11, e15, e16, e17, e18, e19], by simp only [go_sem, e11, e15, e16, e17, e18, e19], by simp only [go_sem, e11, e15, e16, e17, e18, e19], by simp only [go_sem, List.length_map, e11, e15, e16, e17, e18, e19], (by simp only [go_sem, e11, e15, e16, e17, e18, e19]; rfl), by simp only [go_sem, e16], by simp only [go_sem, e17], by simp only [go_sem, e18], by simp only [go_sem], rfl, I0, B⟩, ?_⟩
  rintro ρ H ⟨k, jk, jm, s2, hk, e11, e15, e70, e71, e72, e16, e17, e18, e20, hs2, I, B⟩
  simp only [go_sem, e11, e15, e70, e71, e72, e16, e17, e18, e20]
  refine acond_i (fun hlt => ?_) (fun hge => ?_)
  · have hlt := ltB (by simpa using hlt)
    obtain ⟨p, hp⟩ := getIn hlt
    have b1 := inB hlt
    have hst := Sq.foldl_take (f := rndS w vs) (b := { s with more := [] }) hp
    have hpf := hfr p (List.mem_of_getElem? hp)
    simp only [go_sem, e11, e15, e70, e71, e72, e16, e17, e18, e20, B.rf, List.length_map, getD_map hp, b1]
    refine ⟨by omega, anew_i fun i22 h22 => ?_⟩
    simp only [go_sem, e11, e15, e70, e71, e72, e16, e17, e18, e20]
    refine wputE_n (updH_same _ _ _) (by simp [encPart_len]) ?_
    have B2 := B.mono (mono_n2 h22 (some (⟨94, 7, [[int 0, int 0, int 0, int 0, .sl [], .sl [], str ByteArray.empty]]⟩ : Row)) (some (partRow p)))
    have C2 : BI (updH (updH H i22 (some (⟨94, 7, [[int 0, int 0, int 0, int 0, .sl [], .sl [], str ByteArray.empty]]⟩ : Row))) i22 (some (partRow p))) jk jm i22 p := ⟨updH_same _ _ _, (ne_new B.rk h22).symm, (ne_new B.rm h22).symm⟩
    generalize hG : updH (updH H i22 _) i22 _ = H4
    replace B2 : BH H4 w jw jk jm jf s2.known s2.more fresh := by rw [← hG]; exact B2
    replace C2 : BI H4 jk jm i22 p := by rw [← hG]; exact C2
    clear hG h22 B
    simp only [go_sem, e11, e15, e70, e71, e72, e16, e17, e18, e20, List.length_map]
    generalize hk0 : k = k0 at *
    refine ⟨fun ρ H => ∃ (k : Nat) (jk : Nat) (jm : Nat) (s3:Srch), k ≤ vs.length ∧ ρ 11 = .op jw 0 0 ∧ ρ 15 = .sl (vs.map encVisit) ∧ ρ 22 = .op i22 0 0 ∧ ρ 70 = .os jf ∧ ρ 71 = int (fresh.length : Nat) ∧ ρ 72 = int (k0 : Nat) ∧ ρ 76 = .sl (vs.map encVisit) ∧ ρ 77 = int (vs.length : Nat) ∧ ρ 78 = int k ∧ ρ 16 = str s3.best ∧ ρ 17 = boo s3.found ∧ ρ 18 = .os jk ∧ ρ 20 = .os jm ∧ s3 = (vs.take k).foldl (tryP w p) s2 ∧ SI D w r (6 * k0 + k) s.known.length s3 ∧ BH H w jw jk jm jf s3.known s3.more fresh ∧ BI H jk jm i22 p, fun ρ _ => vs.length - natOf (ρ 78), ⟨0, jk, jm, s2, Nat.zero_le _, by simp only [go_sem, e11, e15, e70, e71, e72, e16, e17, e18, e20], by simp only [go_sem, e11, e15, e70, e71, e72, e16, e17, e18, e20], by simp only [go_sem, e11, e15, e70, e71, e72, e16, e17, e18, e20], by simp only [go_sem, e11, e15, e70, e71, e72, e16, e17, e18, e20], by simp only [go_sem, e11, e15, e70, e71, e72, e16, e17, e18, e20], by simp only [go_sem, e11, e15, e70, e71, e72, e16, e17, e18, e20], by simp only [go_sem, e11, e15, e70, e71, e72, e16, e17, e18, e20], by simp only [go_sem, List.length_map, e11, e15, e70, e71, e72, e16, e17, e18, e20], (by simp only [go_sem, e11, e15, e70, e71, e72, e16, e17, e18, e20]; rfl), by simp only [go_sem, e16], by simp only [go_sem, e17], by simp only [go_sem, e18], by simp only [go_sem, e20], rfl, I, B2, C2⟩, ?_⟩
    rintro ρ H ⟨k, jk, jm, s3, hk, e11, e15, e22, e70, e71, e72, e76, e77, e78, e16, e17, e18, e20, hs3, I3, B, C⟩
    simp only [go_sem, e11, e15, e22, e70, e71, e72, e76, e77, e78, e16, e17, e18, e20]
    refine acond_i (fun hlt => ?_) (fun hge => ?_)
    · have hlt3 := ltB (by simpa using hlt)
      obtain ⟨v, hv⟩ := getIn hlt3
      have b2 := inB hlt3
      have hst3 := Sq.foldl_take (f := tryP w p) (b := s2) hv
      rw [← hs3] at hst3
      have hvo := hvs v (List.mem_of_getElem? hv)
      obtain ⟨o, hvo1, ho⟩ := hvo.ex
      have hve : v = ⟨(o : Nat), v.drop⟩ := by rw [← hvo1]
      have I4 := I3.try hw hm6 hpf.1 hpf.2.1 hvo
      have hts : tryP w p s3 v = if (!(nextP w p v).2 || s3.known.any fun k => beatsP k (nextP w p v).1) = true then s3 else seeP w s3 (nextP w p v).1 := rfl
      have hnt := next_true hw hpf.1 hvo
      have hc20 : p.clocks.length ≤ 1048576 := Nat.le_trans hpf.1.clk (Nat.le_trans (Nat.pow_le_pow_right (by decide) (show p.visits ≤ 16 by omega)) (by decide))
      simp only [go_sem, e11, e15, e22, e70, e71, e72, e76, e77, e78, e16, e17, e18, e20, getD_map hv, b2]
      refine anew_i fun i24 h24 => ?_
      simp only [go_sem, e11, e15, e22, e70, e71, e72, e76, e77, e78, e16, e17, e18, e20]
      refine wputE_n (updH_same _ _ _) (by simp [encVisit_len]) ?_
      have B2 := B.mono (mono_n2 h24 (some (⟨97, 2, [[int 0, boo false]]⟩ : Row)) (some (visRow1 v)))
      have C2 := C.mono (mono_n2 h24 (some (⟨97, 2, [[int 0, boo false]]⟩ : Row)) (some (visRow1 v)))
      have R24 : updH (updH H i24 (some (⟨97, 2, [[int 0, boo false]]⟩ : Row))) i24 (some (visRow1 v)) i24 = some (visRow1 v) := updH_same _ _ _
      generalize hG : updH (updH H i24 _) i24 _ = H5
      replace B2 : BH H5 w jw jk jm jf s3.known s3.more fresh := by rw [← hG]; exact B2
      replace C2 : BI H5 jk jm i22 p := by rw [← hG]; exact C2
      replace R24 : H5 i24 = some (visRow1 v) := by rw [← hG]; exact R24
      clear hG h24 B C
      simp only [go_sem, e11, e15, e22, e70, e71, e72, e76, e77, e78, e16, e17, e18, e20, C2.ri, R24]
      rw [hve]
      refine LC.use (next_l _ jw w B2.rw p o v.drop ho hw.ok hpf.1.ok (by have := hw.n; omega) (by rw [hpf.1.load, hw.dim o ho]) (by rw [hpf.1.load]; exact hw.D) hc20 (by omega)) ?_
      rw [← hve]
      generalize nextP w p v = q at *
      simp only [go_sem, e11, e15, e22, e70, e71, e72, e76, e77, e78, e16, e17, e18, e20]
      refine anew_i fun i25 h25 => ?_
      simp only [go_sem, e11, e15, e22, e70, e71, e72, e76, e77, e78, e16, e17, e18, e20]
      refine wputE_n (updH_same _ _ _) (by simp [encPart_len]) ?_
      have B3 := B2.mono (mono_n2 h25 (some (⟨94, 7, [[int 0, int 0, int 0, int 0, .sl [], .sl [], str ByteArray.empty]]⟩ : Row)) (some (partRow q.1)))
      have C3 := C2.mono (mono_n2 h25 (some (⟨94, 7, [[int 0, int 0, int 0, int 0, .sl [], .sl [], str ByteArray.empty]]⟩ : Row)) (some (partRow q.1)))
      have E3 : BI (updH (updH H5 i25 (some (⟨94, 7, [[int 0, int 0, int 0, int 0, .sl [], .sl [], str ByteArray.empty]]⟩ : Row))) i25 (some (partRow q.1))) jk jm i25 q.1 := ⟨updH_same _ _ _, (ne_new B2.rk h25).symm, (ne_new B2.rm h25).symm⟩
      generalize hG : updH (updH H5 i25 _) i25 _ = H6
      replace B3 : BH H6 w jw jk jm jf s3.known s3.more fresh := by rw [← hG]; exact B3
      replace C3 : BI H6 jk jm i22 p := by rw [← hG]; exact C3
      replace E3 : BI H6 jk jm i25 q.1 := by rw [← hG]; exact E3
      clear hG h25 B2 C2 R24
      simp only [go_sem, e11, e15, e22, e70, e71, e72, e76, e77, e78, e16, e17, e18, e20]
      refine ⟨boo (s3.known.any fun k => beatsP k q.1), fun hg => .inl ⟨[.sl (s3.known.map encPart), .fn 49 [.rp (encPart q.1) 0]], .cons _ _ _ _ (.row _ _ _ B3.rk (ConvE.refl _)) (.cons _ _ _ _ (.fn _ _ _ (.cons _ _ _ _ (.ptr _ _ _ _ _ E3.ri (by simp) (ConvL.refl _)) .nil)) .nil), anyPrt_c s3.known (by have := I3.kl; have := I3.ml; omega) (by kernel_rfl) (fun u hu => ?_), rfl⟩, ?_⟩
      · have hq2 : q.2 = true := by simpa using hg
        obtain ⟨q1, q2, q3⟩ := hnt hq2
        obtain ⟨u1, u2⟩ := I3.known u hu
        have hD := hw.D
        exact bound1_c u q.1 u1.ok.mem q1.ok.mem (by rw [u1.load]; exact hD) u1.ok.value q1.ok.value (Nat.le_trans u1.clk (Nat.le_trans (Nat.pow_le_pow_right (by decide) u2) (by decide))) (Nat.le_trans q1.clk (Nat.le_trans (Nat.pow_le_pow_right (by decide) (show q.1.visits ≤ 6 by omega)) (by decide)))
      simp only [go_sem, e11, e15, e22, e70, e71, e72, e76, e77, e78, e16, e17, e18, e20]
      refine acond_i (fun hb => ?_) (fun hb => ?_)
      · rw [if_pos hb] at hts
        rw [hts] at I4 hst3
        simp only [go_sem, e11, e15, e22, e70, e71, e72, e76, e77, e78, e16, e17, e18, e20, wrapS (show k ≤ 4611686018427387904 by omega)]
        exact ⟨⟨k + 1, jk, jm, s3, hlt3, rfl, rfl, rfl, rfl, rfl, hst3.symm, I4, B3, C3⟩, by simp only [natOf_int]; omega⟩
      rw [if_neg (fun h => Bool.noConfusion (hb.symm.trans h))] at hts
      have hq2 : q.2 = true := by
        have := (Bool.or_eq_false_iff.1 hb).1
        simpa using this
      obtain ⟨q1, q2, q3⟩ := hnt hq2
      have hkl3 : s3.known.length ≤ 1000000 := by have := I3.kl; have := I3.ml; omega
      have hml3 : s3.more.length ≤ 1000000 := by have := I3.ml; omega
      simp only [go_sem, e11, e15, e22, e70, e71, e72, e76, e77, e78, e16, e17, e18, e20, E3.ri]
      refine wappE_i B3.rk ⟨rfl, rfl⟩ (by simp only [go_sem, encPart_len]) (by simp only [List.length_map, List.length_cons, List.length_nil]; omega) (fun j1 hj1 => ?_)
      simp only [go_sem, e11, e15, e22, e70, e71, e72, e76, e77, e78, e16, e17, e18, e20]
      rw [parts_app]
      have B4 := B3.appK hj1 q.1
      have C4 := C3.appK hj1 (some (partsRow (s3.known ++ [q.1])))
      have E4 := E3.appK hj1 (some (partsRow (s3.known ++ [q.1])))
      generalize updH (updH H6 jk none) j1 _ = H7 at B4 C4 E4 ⊢
      clear B3 C3 E3 hj1
      simp only [go_sem, e11, e15, e22, e70, e71, e72, e76, e77, e78, e16, e17, e18, e20, E4.ri]
      refine wappE_i B4.rm ⟨rfl, rfl⟩ (by simp only [go_sem, encPart_len]) (by simp only [List.length_map, List.length_cons, List.length_nil]; omega) (fun j2 hj2 => ?_)
      simp only [go_sem, e11, e15, e22, e70, e71, e72, e76, e77, e78, e16, e17, e18, e20]
      rw [parts_app]
      have B5 := B4.appM hj2 q.1
      have C5 := C4.appM hj2 (some (partsRow (s3.more ++ [q.1])))
      have E5 := E4.appM hj2 (some (partsRow (s3.more ++ [q.1])))
      generalize updH (updH H7 jm none) j2 _ = H8 at B5 C5 E5 ⊢
      clear B4 C4 E4 hj2
      have hc6 : q.1.clocks.length ≤ 1048576 := Nat.le_trans q1.clk (Nat.le_trans (Nat.pow_le_pow_right (by decide) (show q.1.visits ≤ 16 by omega)) (by decide))
      have hsee : seeP w s3 q.1 = if ((endP w q.1).2.2 && (!s3.found || decide (cmpR (priceP w q.1 (endP w q.1).1 (endP w q.1).2.1) s3.best < 0))) = true then { known := s3.known ++ [q.1], more := s3.more ++ [q.1], best := priceP w q.1 (endP w q.1).1 (endP w q.1).2.1, found := true } else { s3 with known := s3.known ++ [q.1], more := s3.more ++ [q.1] } := rfl
      rw [hts] at hst3 I4
      simp only [go_sem, e11, e15, e22, e70, e71, e72, e76, e77, e78, e16, e17, e18, e20, E5.ri]
      refine LC.use (end_l _ jw w B5.rw q.1 hw.ok hc6) ?_
      have hps := price_sz w q.1 (endP w q.1).1 (endP w q.1).2.1
      generalize endP w q.1 = en at *
      simp only [go_sem, e11, e15, e22, e70, e71, e72, e76, e77, e78, e16, e17, e18, e20]
      refine acond_joinL (fun ρ' H' => ρ' 11 = .op jw 0 0 ∧ ρ' 15 = .sl (vs.map encVisit) ∧ ρ' 22 = .op i22 0 0 ∧ ρ' 70 = .os jf ∧ ρ' 71 = int (fresh.length : Nat) ∧ ρ' 72 = int (k0 : Nat) ∧ ρ' 76 = .sl (vs.map encVisit) ∧ ρ' 77 = int (vs.length : Nat) ∧ ρ' 78 = int k ∧ ρ' 18 = .os j1 ∧ ρ' 20 = .os j2 ∧ ρ' 16 = str (seeP w s3 q.1).best ∧ ρ' 17 = boo (seeP w s3 q.1).found ∧ (seeP w s3 q.1).known = s3.known ++ [q.1] ∧ (seeP w s3 q.1).more = s3.more ++ [q.1] ∧ H' = H8) ?_ fun K hK _ _ => acond_i (fun hb => ?_) (fun hb => ?_)
      rotate_left
      · simp only [go_sem, e11, e15, e22, e70, e71, e72, e76, e77, e78, e16, e17, e18, e20, E5.ri]
        refine LC.use (price_l _ jw w B5.rw q.1 en.1 en.2.1 q1.ok.value) ?_
        generalize priceP w q.1 en.1 en.2.1 = pr at *
        simp only [go_sem, e11, e15, e22, e70, e71, e72, e76, e77, e78, e16, e17, e18, e20]
        refine ⟨_, fun _ => PC.q (rCompare_c pr s3.best (by omega) (by have := I3.best; omega)) rfl, ?_⟩
        simp only [go_sem, e11, e15, e22, e70, e71, e72, e76, e77, e78, e16, e17, e18, e20]
        refine acond_i (fun hb2 => ?_) (fun hb2 => ?_)
        · rw [if_pos (by rw [hb, Bool.true_and]; exact hb2)] at hsee
          rw [hsee] at hK
          simp only [go_sem, e11, e15, e22, e70, e71, e72, e76, e77, e78, e16, e17, e18, e20]
          exact hK _ _ ⟨by simp only [go_sem, e11, e15, e22, e70, e71, e72, e76, e77, e78, e16, e17, e18, e20], by simp only [go_sem, e11, e15, e22, e70, e71, e72, e76, e77, e78, e16, e17, e18, e20], by simp only [go_sem, e11, e15, e22, e70, e71, e72, e76, e77, e78, e16, e17, e18, e20], by simp only [go_sem, e11, e15, e22, e70, e71, e72, e76, e77, e78, e16, e17, e18, e20], by simp only [go_sem, e11, e15, e22, e70, e71, e72, e76, e77, e78, e16, e17, e18, e20], by simp only [go_sem, e11, e15, e22, e70, e71, e72, e76, e77, e78, e16, e17, e18, e20], by simp only [go_sem, e11, e15, e22, e70, e71, e72, e76, e77, e78, e16, e17, e18, e20], by simp only [go_sem, e11, e15, e22, e70, e71, e72, e76, e77, e78, e16, e17, e18, e20], by simp only [go_sem, e11, e15, e22, e70, e71, e72, e76, e77, e78, e16, e17, e18, e20], by simp only [go_sem], by simp only [go_sem], by simp only [go_sem], by simp only [go_sem], rfl, rfl, rfl⟩
        · rw [if_neg (fun h => by rw [hb, Bool.true_and] at h; exact Bool.noConfusion (hb2.symm.trans h))] at hsee
          rw [hsee] at hK
          simp only [go_sem, e11, e15, e22, e70, e71, e72, e76, e77, e78, e16, e17, e18, e20]
          exact hK _ _ ⟨by simp only [go_sem, e11, e15, e22, e70, e71, e72, e76, e77, e78, e16, e17, e18, e20], by simp only [go_sem, e11, e15, e22, e70, e71, e72, e76, e77, e78, e16, e17, e18, e20], by simp only [go_sem, e11, e15, e22, e70, e71, e72, e76, e77, e78, e16, e17, e18, e20], by simp only [go_sem, e11, e15, e22, e70, e71, e72, e76, e77, e78, e16, e17, e18, e20], by simp only [go_sem, e11, e15, e22, e70, e71, e72, e76, e77, e78, e16, e17, e18, e20], by simp only [go_sem, e11, e15, e22, e70, e71, e72, e76, e77, e78, e16, e17, e18, e20], by simp only [go_sem, e11, e15, e22, e70, e71, e72, e76, e77, e78, e16, e17, e18, e20], by simp only [go_sem, e11, e15, e22, e70, e71, e72, e76, e77, e78, e16, e17, e18, e20], by simp only [go_sem, e11, e15, e22, e70, e71, e72, e76, e77, e78, e16, e17, e18, e20], by simp only [go_sem], by simp only [go_sem], by simp only [go_sem, e11, e15, e22, e70, e71, e72, e76, e77, e78, e16, e17, e18, e20], by simp only [go_sem, e11, e15, e22, e70, e71, e72, e76, e77, e78, e16, e17, e18, e20], rfl, rfl, rfl⟩
      · rw [if_neg (fun h => by rw [hb, Bool.false_and] at h; cases h)] at hsee
        rw [hsee] at hK
        simp only [go_sem]
        exact hK _ _ ⟨by simp only [go_sem, e11, e15, e22, e70, e71, e72, e76, e77, e78, e16, e17, e18, e20], by simp only [go_sem, e11, e15, e22, e70, e71, e72, e76, e77, e78, e16, e17, e18, e20], by simp only [go_sem, e11, e15, e22, e70, e71, e72, e76, e77, e78, e16, e17, e18, e20], by simp only [go_sem, e11, e15, e22, e70, e71, e72, e76, e77, e78, e16, e17, e18, e20], by simp only [go_sem, e11, e15, e22, e70, e71, e72, e76, e77, e78, e16, e17, e18, e20], by simp only [go_sem, e11, e15, e22, e70, e71, e72, e76, e77, e78, e16, e17, e18, e20], by simp only [go_sem, e11, e15, e22, e70, e71, e72, e76, e77, e78, e16, e17, e18, e20], by simp only [go_sem, e11, e15, e22, e70, e71, e72, e76, e77, e78, e16, e17, e18, e20], by simp only [go_sem, e11, e15, e22, e70, e71, e72, e76, e77, e78, e16, e17, e18, e20], by simp only [go_sem], by simp only [go_sem], by simp only [go_sem, e11, e15, e22, e70, e71, e72, e76, e77, e78, e16, e17, e18, e20], by simp only [go_sem, e11, e15, e22, e70, e71, e72, e76, e77, e78, e16, e17, e18, e20], rfl, rfl, rfl⟩
      rintro ρ H ⟨e11, e15, e22, e70, e71, e72, e76, e77, e78, e18, e20, e16, e17, s1, s2', rfl⟩
      simp only [go_sem, e11, e15, e22, e70, e71, e72, e76, e77, e78, e16, e17, e18, e20, wrapS (show k ≤ 4611686018427387904 by omega)]
      refine ⟨⟨k + 1, j1, j2, seeP w s3 q.1, hlt3, rfl, rfl, rfl, rfl, rfl, hst3.symm, I4, ?_, C5⟩, by simp only [natOf_int]; omega⟩
      rw [s1, s2']; exact B5
    have hge3 := geB hk (by simpa using hge)
    subst hge3
    rw [List.take_length] at hs3
    simp only [go_sem, e11, e15, e22, e70, e71, e72, e76, e77, e78, e16, e17, e18, e20, wrapS (show k0 ≤ 4611686018427387904 by omega)]
    refine ⟨⟨k0 + 1, jk, jm, s3, hlt, rfl, rfl, rfl, rfl, rfl, ?_, I3.le (by omega), B⟩, by simp only [natOf_int]; omega⟩
    rw [hst, ← hs2]; exact hs3
  have hge := geB hk (by simpa using hge)
  subst hge
  rw [List.take_length] at hs2
  have hro : s2 = roundP w vs s fresh := hs2
  rw [← hro] at hS2
  simp only [go_sem, e11, e15, e70, e71, e72, e16, e17, e18, e20]
  have hm46 : s2.more.length ≤ 46656 := by
    by_cases hne : s2.more = []
    · rw [hne]; exact Nat.zero_le _
    · obtain ⟨a, ha⟩ := List.exists_mem_of_ne_nil _ hne
      have := (I.more a ha).2.2
      have h2 : 6 ^ (r + 1) ≤ 46656 := Nat.le_trans (Nat.pow_le_pow_right (by decide) (show r + 1 ≤ 6 by omega)) (by decide)
      have h3 := I.ml
      rw [Nat.pow_succ] at h2
      omega
  refine ⟨⟨jk, jm, s2, s2.more, r + 1, rfl, rfl, rfl, rfl, B.rw, B.rk, B.rm, B.km, by omega, I.known, fun p hp => I.more p hp, ?_, ?_, I.best, hS2⟩, ?_⟩
  · have h3 := I.ml
    rw [Nat.pow_succ]; omega
  · have h3 := I.kl
    omega
  · rw [frM_cons Rf hfe]
    have h0 := hfr p0 (by rw [← hfe]; simp)
    have hmo := I.more
    cases hmm : s2.more with
    | nil => rw [frM_nil B.rm hmm]; omega
    | cons a l =>
      have h1 := hmo a (by rw [hmm]; simp)
      rw [frM_cons B.rm hmm.symm]
      omega
end Go.Proofs.YtdlijlecpopadaaGreatDoor.Rx
