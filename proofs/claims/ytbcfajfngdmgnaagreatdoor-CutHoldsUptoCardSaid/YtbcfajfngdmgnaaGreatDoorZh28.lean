/- Texts joined by a program: SqO. -/
import Derived.Test.YtbcfajfngdmgnaaGreatDoorZh27

set_option linter.unusedSimpArgs false
set_option linter.unusedVariables false
namespace Go.Proofs.YtbcfajfngdmgnaaGreatDoor.Sq
open Go.Aw Go.Aw.D Go.Proofs Ty
open Mv (convI convB convA NC.pc take_allP)
set_option maxRecDepth 100000
structure Tm where
  arrive : Int
  begin_ : Int
  depart : Int
  rest : Bool
def encTm (t : Tm) : List AV := [int t.arrive, int t.begin_, int t.depart, boo t.rest]
theorem encTm_len (s : Tm) : (encTm s).length = 4 := (rfl)
theorem encTm_all (s : Tm) : (encTm s).take 4 = encTm s := (rfl)
attribute [go_sem] encTm_len encTm_all
structure Sheet where
  rest : Bool
  depart : Int
  times : List Tm
  end_ : Int
  miles : Int
def encSheet (s : Sheet) : List AV := [boo s.rest, int s.depart, .sl (s.times.map encTm), int s.end_, int s.miles]
def zeroSheet : Sheet := ⟨false, 0, [], 0, 0⟩
abbrev RunA := St8 × List Int × List Tm
def arrived (x : Instance) (t : VType) (a : RunA) (v : Visit) : St8 × Int := step18 x t a.1 (stop18 x v).1.place (stop18 x v).1.close 14
def serve18 (s : Stop) (n : St8) : St8 := ⟨n.place, W (imax n.time s.start + s.service), n.driven, n.miles⟩
def runNext (x : Instance) (t : VType) (a : RunA) (p : Visit × Bool) : RunA :=
  (rest18 t (serve18 (stop18 x p.1).1 (arrived x t a p.1).1) p.2, a.2.1 ++ [(arrived x t a p.1).1.driven],
    a.2.2 ++ [⟨(arrived x t a p.1).1.time, imax (arrived x t a p.1).1.time (stop18 x p.1).1.start, (rest18 t (serve18 (stop18 x p.1).1 (arrived x t a p.1).1) p.2).time, p.2⟩])
def runStep (x : Instance) (t : VType) (a : RunA) (p : Visit × Bool) : Except Int RunA :=
  if ((arrived x t a p.1).2 != 0) = true then .error (arrived x t a p.1).2 else .ok (runNext x t a p)
def run0 (r : Route) (t : VType) (b : Bool) : St8 := rest18 t ⟨t.src, imax t.start r.start, 0, 0⟩ b
def runEnd (x : Instance) (t : VType) (b : Bool) (s0 : St8) (a : RunA) : Sheet × List Int × Int :=
  if ((step18 x t a.1 t.dst t.close 15).2 != 0) = true then (zeroSheet, [], (step18 x t a.1 t.dst t.close 15).2)
  else (⟨b, s0.time, a.2.2, (step18 x t a.1 t.dst t.close 15).1.time, (step18 x t a.1 t.dst t.close 15).1.miles⟩, a.2.1 ++ [(step18 x t a.1 t.dst t.close 15).1.driven], 0)
def runO (x : Instance) (r : Route) (rests : List Bool) (t : VType) (b : Bool) : Sheet × List Int × Int :=
  match (r.visits.zip rests.tail).foldlM (runStep x t) (run0 r t b, [], []) with
  | .error e => (zeroSheet, [], e)
  | .ok a => runEnd x t b (run0 r t b) a
def run18 (x : Instance) (r : Route) (rests : List Bool) : Sheet × List Int × Int :=
  if (!possible18 x r || ((rests.length : Int) != ((r.visits.length + 1 : Nat) : Int))) = true then (zeroSheet, [], 2)
  else match x.types[r.type.toNat]? with
  | some t => runO x r rests t (rests.getD 0 false)
  | none => (zeroSheet, [], 2)
theorem possible_type {x : Instance} {r : Route} (h : possible18 x r = true) : 0 ≤ r.type ∧ r.type < (x.types.length : Int) := by
  unfold possible18 at h
  simp only [Bool.and_eq_true, Bool.not_eq_true', Bool.or_eq_false_iff, badNo, decide_eq_false_iff_not] at h
  omega
theorem foldlM_take {α β : Type} {f : β → α → Except Int β} {l : List α} {k : Nat} {x : α} {s b : β} (hx : l[k]? = some x) (h : (l.take k).foldlM f s = .ok b) : (l.take (k + 1)).foldlM f s = f b x := by
  rw [take_succ hx, List.foldlM_append, h]
  show (do let s' ← (Except.ok b : Except Int β); [x].foldlM f s') = _
  simp only [List.foldlM_cons, List.foldlM_nil]
  show (f b x >>= fun s' => pure s') = _
  cases f b x <;> rfl
theorem foldlM_err {α β : Type} {f : β → α → Except Int β} {l : List α} {k : Nat} {s : β} {e : Int} (h : (l.take k).foldlM f s = .error e) : l.foldlM f s = .error e := by
  conv => lhs; rw [← List.take_append_drop k l]
  rw [List.foldlM_append, h]; rfl
theorem keepN {H : Heap} {i j : Nat} {r : Row} {a b : Option Row} (hi : H i = some r) (hj : H j = none) : updH (updH H j a) j b i = some r := by
  have h1 := ne_new hi hj
  rw [updH_ne _ _ _ _ h1, updH_ne _ _ _ _ h1, hi]
theorem keepS {H : Heap} {i j : Nat} {r : Row} {b : Option Row} (hi : H i = some r) (h1 : i ≠ j) : updH H j b i = some r := by rw [updH_ne _ _ _ _ h1, hi]
theorem row_ne {H : Heap} {i j : Nat} {r r' : Row} (hi : H i = some r) (hj : H j = some r') (h : (r.e == r'.e) = false) : i ≠ j := fun e => by
  subst e; rw [hi] at hj; injection hj with hj; rw [hj] at h; simp at h
theorem keepNil {H : Heap} {i j k : Nat} {r a : Row} {b c : Option Row} (hi : H i = some r) (hj : H j = none) (hk : updH H j (some a) k = none) : updH (updH (updH H j (some a)) k b) j c i = some r := by
  have h1 := ne_new hi hj
  have h2 := ne_new (keep_new (r' := a) hi hj) hk
  rw [updH_ne _ _ _ _ h1, updH_ne _ _ _ _ h2, updH_ne _ _ _ _ h1, hi]
theorem pin_old {l : List Nat} {H Hr H' Hm : Heap} (hr : ∀ k, k ∉ l → Hr k = H k) (hm1 : ∀ k, k ∈ l → Hm k = H k) (hm2 : ∀ k, k ∉ l → Hm k = H' k) (hk : ∀ k row, Hr k = some row → H' k = some row) : ∀ k row, H k = some row → Hm k = some row := fun k row h => by
  by_cases e : k ∈ l
  · rw [hm1 k e]; exact h
  · rw [hm2 k e]; exact hk k row ((hr k e).trans h)
theorem pin_new {l : List Nat} {H' : Heap} {j : Nat} {r : Row} (hd : ∀ k, k ∈ l → H' k = none) (h : H' j = some r) : j ∉ l := fun hm => by rw [hd j hm] at h; cases h
abbrev stRow (s : St8) : Row := ⟨328, 4, [encSt8 s]⟩
abbrev stopRow (s : Stop) : Row := ⟨94, 4, [encStop s]⟩
abbrev tmRow (l : List Tm) : Row := ⟨333, 4, l.map encTm⟩
abbrev intRow (l : List Int) : Row := ⟨3, 1, l.map encInt⟩
theorem zip_get {α β : Type} : ∀ {l : List α} {m : List β} {k : Nat} {a : α} {b : β}, l[k]? = some a → m[k]? = some b → (l.zip m)[k]? = some (a, b) := by
  intro l m k a b h1 h2
  rw [List.getElem?_zip_eq_some]
  exact ⟨h1, h2⟩
theorem convRun {H : Heap} {b : Bool} {d e m c : Int} {jt jd : Nat} {tm : List Tm} {dr : List Int} (Rt : H jt = some (tmRow tm)) (Rd : H jd = some (intRow dr)) :
    Conv H (.tup [.agg [boo b, int d, .os jt, int e, int m], .os jd, int c]) (.tup [.agg (encSheet ⟨b, d, tm, e, m⟩), .sl (dr.map encInt), int c]) :=
  .tup _ _ (.cons _ _ _ _ (.agg _ _ (.cons _ _ _ _ (.refl _) (.cons _ _ _ _ (.refl _) (.cons _ _ _ _ (.row _ _ _ Rt (ConvE.refl _)) (ConvL.refl _)))))
    (.cons _ _ _ _ (.row _ _ _ Rd (ConvE.refl _)) (ConvL.refl _)))
theorem convRun0 {H : Heap} {c : Int} {jd : Nat} (Rd : H jd = some ⟨3, 1, []⟩) :
    Conv H (.tup [.agg [boo false, int 0, .sl [], int 0, int 0], .os jd, int c]) (.tup [.agg (encSheet zeroSheet), .sl [], int c]) :=
  .tup _ _ (.cons _ _ _ _ (.refl _) (.cons _ _ _ _ (.row _ _ _ Rd .nil) (ConvL.refl _)))
abbrev sheetRow (cs : List AV) : Row := ⟨196, 5, [cs]⟩
abbrev zeroCells : List AV := [boo false, int 0, .sl [], int 0, int 0]
theorem run18_c (x : Instance) (r : Route) (rests : List Bool) (hn : NetB x.net) (hr : r.visits.length ≤ 1048576) : PC Tryz.prog 300 [.agg (encInstance x), .agg (encRoute r), .sl (rests.map encBool)] (.tup [.agg (encSheet (run18 x r rests).1), .sl ((run18 x r rests).2.1.map encInt), int (run18 x r rests).2.2]) := by
  refine PC.body (c := Tryz.f300.body.getD .skip) (fun t => t == 7 || t == 12 || t == 59) mixed Tryz.func300 rfl (by kernel_rfl) ?_
  unfold Tryz.f300
  simp only [Option.getD_some]
  simp only [go_sem]
  refine anew_i fun j6 hj => ?_
  have R6 := updH_same noRows j6 (some (sheetRow zeroCells))
  generalize updH noRows j6 _ = H0 at R6 ⊢
  clear hj
  simp only [go_sem]
  refine anew_i fun j7 hj => ?_
  have R7 := updH_same H0 j7 (some (⟨3, 1, []⟩ : Row))
  have R6 := keep_new (r' := (⟨3, 1, []⟩ : Row)) R6 hj
  generalize updH H0 j7 _ = H1 at R6 R7 ⊢
  clear hj
  simp only [go_sem]
  refine PC.use (possible18_c x r hr) ?_
  simp only [go_sem, wrapS (show r.visits.length ≤ 4611686018427387904 by omega)]
  refine acond_i (fun h1 => ?_) (fun h1 => ?_)
  · simp only [go_sem]
    refine wputE_n R6 (by simp) ?_
    simp only [go_sem]
    refine anew_i fun j7 hj => ?_
    simp only [go_sem]
    rw [show run18 x r rests = (zeroSheet, [], 2) by unfold run18; rw [if_pos h1]]
    have n1 := ne_new (updH_same _ _ _) hj
    simp only [updH_ne _ _ _ _ n1]
    simp only [go_sem]
    exact convRun0 (updH_same _ _ _)
  have hp : possible18 x r = true := by
    simp only [Bool.or_eq_false_iff, Bool.not_eq_false'] at h1; exact h1.1
  have hlen : rests.length = r.visits.length + 1 := by
    simp only [Bool.or_eq_false_iff, bne_eq_false_iff_eq] at h1; have := h1.2; omega
  have hin := possible_type hp
  obtain ⟨t, ht⟩ := getIn (show r.type.toNat < x.types.length by omega)
  obtain ⟨b, hb⟩ := getIn (show 0 < rests.length by omega)
  have b0 : 0 ≤ (0 : Int) ∧ (0 : Int) < (rests.length : Int) := by omega
  have eR : run18 x r rests = runO x r rests t b := by
    unfold run18
    rw [if_neg (by rw [h1]; simp), ht]
    show runO x r rests t (rests.getD 0 false) = _
    rw [show rests.getD 0 false = b by rw [List.getD_eq_getElem?_getD, hb]; rfl]
  rw [eR]
  clear eR
  simp only [go_sem, getD_map ht, hin]
  refine anew_i fun j9 hj => ?_
  simp only [go_sem]
  refine wputE_n (updH_same _ _ _) (by simp [encVType_len]) ?_
  generalize hG : updH (updH H1 j9 _) j9 _ = H2
  have R9 : H2 j9 = some (typeRow t) := by rw [← hG, updH_same]; rfl
  have R6 : H2 j6 = some (sheetRow zeroCells) := by rw [← hG]; exact keepN R6 hj
  have R7 : H2 j7 = some ⟨3, 1, []⟩ := by rw [← hG]; exact keepN R7 hj
  clear hG hj
  simp only [go_sem]
  refine adraw_p [j9] [(0, true), (1, true), (2, true), (3, true), (4, true), (5, true), (6, true), (7, true), (8, true), (9, true), (10, true), (11, true), (12, true), (13, false), (14, false)] (by simp [R9]) (by kernel_rfl) fun Hp Hr hp hr _ hr0 => ?_
  have Rp : Hp j9 = _ := (hp j9 (by simp)).trans R9
  simp only [go_sem, Rp, getD_map hb, b0]
  refine ⟨_, (rest18_c t ⟨t.src, imax t.start r.start, 0, 0⟩ b).q rfl, ?_⟩
  simp only [go_sem]
  refine anew_i fun j10 hj => ?_
  simp only [go_sem]
  refine wputE_n (updH_same _ _ _) (by simp [encSt8]) ?_
  simp only [go_sem]
  refine pinEnd_i fun hd Hm hm1 hm2 => ?_
  have old := pin_old hr hm1 hm2 fun k row h => keepN h hj
  have R10 := (hm2 j10 (pin_new hd (updH_same _ _ _))).trans (updH_same _ _ _)
  have R10 : Hm j10 = some (stRow (run0 r t b)) := R10
  have R6 := old _ _ R6
  have R7 := old _ _ R7
  have R9 := old _ _ R9
  clear old hm1 hm2 hd hj Rp hp hr hr0
  simp only [go_sem]
  refine adraw_p [j10] [(0, true), (1, true), (2, true), (3, true), (4, true), (5, true), (6, false), (7, false)] (by simp [R10]) (by kernel_rfl) fun Hp Hr hp hr _ hr0 => ?_
  have Rp : Hp j10 = _ := (hp j10 (by simp)).trans R10
  simp only [go_sem, Rp, getD_map hb, b0]
  refine anew_i fun j11 hj => ?_
  simp only [go_sem]
  refine wputE_nil 2 333 4 ⟨rfl, by decide⟩ (updH_same _ _ _) (by simp) fun jt hjt => ?_
  simp only [go_sem]
  refine pinEnd_i fun hd Hm hm1 hm2 => ?_
  have hsame : ∀ c, updH (updH (updH Hr j11 (some (sheetRow zeroCells))) jt (some (⟨333, 4, []⟩ : Row))) j11 c jt = some (⟨333, 4, []⟩ : Row) := fun c => by
    rw [updH_ne _ _ _ _ (ne_new (updH_same _ _ _) hjt).symm, updH_same]
  have old := pin_old hr hm1 hm2 fun k row h => keepNil h hj hjt
  have R11 : Hm j11 = some (sheetRow [boo b, int (run0 r t b).time, .os jt, int 0, int 0]) := (hm2 j11 (pin_new hd (updH_same _ _ _))).trans (updH_same _ _ _)
  have Rt : Hm jt = some (tmRow []) := (hm2 jt (pin_new hd (hsame _))).trans (hsame _)
  have R6' := old _ _ R6
  have n611 : j6 ≠ j11 := by
    have : Hr j6 = some (sheetRow zeroCells) := (hr j6 (by simpa using row_ne R6 R10 rfl)).trans R6
    exact ne_new this hj
  have R6 := R6'
  have R7 := old _ _ R7
  have R9 := old _ _ R9
  have R10 := old _ _ R10
  clear old hm1 hm2 hd hj hjt Rp hp hr hr0 hsame R6'
  simp only [go_sem]
  refine anew_i fun jd hj => ?_
  have Rd := updH_same Hm jd (some (⟨3, 1, []⟩ : Row))
  have R6 := keep_new (r' := (⟨3, 1, []⟩ : Row)) R6 hj
  have R7 := keep_new (r' := (⟨3, 1, []⟩ : Row)) R7 hj
  have R9 := keep_new (r' := (⟨3, 1, []⟩ : Row)) R9 hj
  have R10 := keep_new (r' := (⟨3, 1, []⟩ : Row)) R10 hj
  have R11 := keep_new (r' := (⟨3, 1, []⟩ : Row)) R11 hj
  have Rt := keep_new (r' := (⟨3, 1, []⟩ : Row)) Rt hj
  generalize updH Hm jd _ = Hl at R6 R7 R9 R10 R11 Rt Rd ⊢
  clear hj
  simp only [go_sem]
  refine ⟨fun ρ H => ∃ (k : Nat) (a : RunA) (jt jd : Nat), k ≤ r.visits.length ∧ ((r.visits.zip rests.tail).take k).foldlM (runStep x t) (run0 r t b, [], []) = .ok a ∧ a.2.1.length = k ∧ a.2.2.length = k ∧
      ρ 2 = .sl (rests.map encBool) ∧ ρ 3 = .rp (encInstance x) 0 ∧ ρ 4 = .rp (encRoute r) 0 ∧ ρ 6 = .op j6 0 0 ∧ ρ 9 = .op j9 0 0 ∧ ρ 10 = .op j10 0 0 ∧ ρ 11 = .op j11 0 0 ∧ ρ 12 = .os jd ∧ ρ 13 = int k ∧
      H j6 = some (sheetRow zeroCells) ∧ H j9 = some (typeRow t) ∧ H j10 = some (stRow a.1) ∧ H j11 = some (sheetRow [boo b, int (run0 r t b).time, .os jt, int 0, int 0]) ∧ H jt = some (tmRow a.2.2) ∧ H jd = some (intRow a.2.1),
    fun ρ _ => r.visits.length - natOf (ρ 13), ⟨0, (run0 r t b, [], []), jt, jd, Nat.zero_le _, rfl, rfl, rfl, rfl, rfl, rfl, rfl, rfl, rfl, rfl, rfl, rfl, R6, R9, R10, R11, Rt, Rd⟩, ?_⟩
  clear R6 R7 R9 R10 R11 Rt Rd
  rintro ρ H ⟨k, a, jt, jd, hk, hf, hl1, hl2, h2, h3, h4, h6, h9, h10, h11, h12, h13, R6, R9, R10, R11, Rt, Rd⟩
  simp only [go_sem, h4, h13]
  refine acond_i (fun hlt => ?_) (fun hge => ?_)
  · have hlt := le_of_lt_b hlt
    obtain ⟨v, hv⟩ := getIn hlt
    obtain ⟨c, hc⟩ := getIn (show k + 1 < rests.length by omega)
    have b1 := inB hlt
    have b2 := inB (show k + 1 < rests.length by omega)
    have hz : (r.visits.zip rests.tail)[k]? = some (v, c) := zip_get hv (by rw [List.getElem?_tail]; exact hc)
    have hf1 := foldlM_take hz hf
    simp only [go_sem]
    refine adraw_m [(0, true), (1, true), (2, true), (3, true), (4, true), (5, true), (6, true), (7, true), (8, true), (9, true), (10, false), (11, false), (12, false)] (by kernel_rfl) ?_
    simp only [go_sem, h3, h4, h13, getD_map hv, b1, encVisit_len]
    refine ⟨_, (stop18_c x v).q rfl, ?_⟩
    simp only [go_sem]
    refine anew_i fun j14 hj => ?_
    simp only [go_sem]
    refine wputE_n (updH_same _ _ _) (by simp [encStop_len]) ?_
    generalize hG : updH (updH H j14 _) j14 _ = H3
    have R14 : H3 j14 = some (stopRow (stop18 x v).1) := by rw [← hG, updH_same]; rfl
    have old : ∀ i row, H i = some row → H3 i = some row := fun i row h => by rw [← hG]; exact keepN h hj
    have R6 := old _ _ R6
    have R9 := old _ _ R9
    have R10 := old _ _ R10
    have R11 := old _ _ R11
    have Rt := old _ _ Rt
    have Rd := old _ _ Rd
    clear hG old hj
    simp only [go_sem, h3, h9, h10, R9, R10, R14]
    refine PC.use (step18_c x t a.1 (stop18 x v).1.place (stop18 x v).1.close 14 hn) ?_
    simp only [go_sem]
    refine anew_i fun j16 hj => ?_
    simp only [go_sem]
    refine wputE_n (updH_same _ _ _) (by simp [encSt8]) ?_
    generalize hG : updH (updH H3 j16 _) j16 _ = H4
    have n1016 := ne_new R10 hj
    have R16 : H4 j16 = some (stRow (arrived x t a v).1) := by rw [← hG, updH_same]; rfl
    have old : ∀ i row, H3 i = some row → H4 i = some row := fun i row h => by rw [← hG]; exact keepN h hj
    have R6 := old _ _ R6
    have R9 := old _ _ R9
    have R10 := old _ _ R10
    have R11 := old _ _ R11
    have Rt := old _ _ Rt
    have Rd := old _ _ Rd
    have R14 := old _ _ R14
    clear hG old hj
    simp only [go_sem]
    refine acond_i (fun he => ?_) (fun he => ?_)
    · simp only [go_sem, h6]
      refine wputE_n R6 (by simp) ?_
      simp only [go_sem]
      refine anew_i fun j7 hj => ?_
      simp only [go_sem]
      have n1 := ne_new (updH_same _ _ _) hj
      have e : runO x r rests t b = (zeroSheet, [], (arrived x t a v).2) := by
        unfold runO
        rw [foldlM_err (hf1.trans (if_pos he))]
      rw [e]
      simp only [go_sem, h6, updH_ne _ _ _ _ n1]
      exact convRun0 (updH_same _ _ _)
    have hf1 : ((r.visits.zip rests.tail).take (k + 1)).foldlM (runStep x t) (run0 r t b, [], []) = .ok (runNext x t a (v, c)) := hf1.trans (if_neg (by rw [show ((arrived x t a v).2 != 0) = false from he]; simp))
    simp only [go_sem, h12, R16]
    refine wappE_i Rd ⟨rfl, rfl⟩ (by simp [allLen]) (by simp only [List.length_map, List.length_cons, List.length_nil]; omega) fun jd' hjd => ?_
    generalize hG : updH (updH H4 jd none) jd' _ = H5
    have Rd' : H5 jd' = some (intRow (runNext x t a (v, c)).2.1) := by rw [← hG, updH_same]; simp [runNext, encInt]
    have old : ∀ i row, i ≠ jd → H4 i = some row → H5 i = some row := fun i row hi h => by rw [← hG]; exact keep_app h hi.symm hjd
    have R6 := old _ _ (row_ne R6 Rd rfl) R6
    have R9 := old _ _ (row_ne R9 Rd rfl) R9
    have R10 := old _ _ (row_ne R10 Rd rfl) R10
    have R11 := old _ _ (row_ne R11 Rd rfl) R11
    have Rt := old _ _ (row_ne Rt Rd rfl) Rt
    have R14 := old _ _ (row_ne R14 Rd rfl) R14
    have R16 := old _ _ (row_ne R16 Rd rfl) R16
    clear hG old hjd Rd
    simp only [go_sem]
    refine adraw_p [j16, j14] [(0, true), (1, true), (2, true), (3, true), (4, true), (5, true), (6, true), (7, true), (8, true), (9, true), (10, true), (11, true), (12, true), (13, false), (14, false)] (by simp [R16, R14]) (by kernel_rfl) fun Hp Hr hp hr _ hr0 => ?_
    have Rp := (hp j16 (by simp)).trans R16
    have Rq := (hp j14 (by simp)).trans R14
    simp only [go_sem, h2, h13, Rp, Rq, wrapS (show k ≤ 4611686018427387904 by omega), getD_map hc, b2]
    refine anew_i fun j18 hj => ?_
    simp only [go_sem]
    refine wputE_n (updH_same _ _ _) (by simp) ?_
    simp only [go_sem]
    refine pinEnd_i fun hd Hm hm1 hm2 => ?_
    have old := pin_old hr hm1 hm2 fun k row h => keepN h hj
    have R18 : Hm j18 = some ⟨333, 4, [[int (arrived x t a v).1.time, int (imax (arrived x t a v).1.time (stop18 x v).1.start), int 0, boo c]]⟩ := (hm2 j18 (pin_new hd (updH_same _ _ _))).trans (updH_same _ _ _)
    have n18t : jt ≠ j18 := by
      have : Hr jt = some (tmRow a.2.2) := (hr jt (by simp [row_ne Rt R16 rfl, row_ne Rt R14 rfl])).trans Rt
      exact ne_new this hj
    have R6 := old _ _ R6
    have R9 := old _ _ R9
    have R10 := old _ _ R10
    have R11 := old _ _ R11
    have Rt := old _ _ Rt
    have Rd := old _ _ Rd'
    have R14 := old _ _ R14
    have R16 := old _ _ R16
    clear old hm1 hm2 hd hj hp hr hr0 Rp Rq
    simp only [go_sem, R18, R14]
    refine wputE_1 so3 R16 ⟨by simp, rfl, by simp⟩ ?_
    generalize hG : updH Hm j16 _ = H6
    have R16' : H6 j16 = some (stRow (serve18 (stop18 x v).1 (arrived x t a v).1)) := by rw [← hG, updH_same]; rfl
    have old : ∀ i row, i ≠ j16 → Hm i = some row → H6 i = some row := fun i row hi h => by rw [← hG]; exact keepS h hi
    have R6 := old _ _ (row_ne R6 R16 rfl) R6
    have R9 := old _ _ (row_ne R9 R16 rfl) R9
    have R10 := old _ _ n1016 R10
    have R11 := old _ _ (row_ne R11 R16 rfl) R11
    have Rt := old _ _ (row_ne Rt R16 rfl) Rt
    have Rd := old _ _ (row_ne Rd R16 rfl) Rd
    have R18 := old _ _ (row_ne R18 R16 rfl) R18
    have R16 := R16'
    clear hG old R14 R16'
    simp only [go_sem]
    refine adraw_p [j9, j16] [(0, true), (1, true), (2, true), (3, true), (4, true), (5, true), (6, true), (7, true), (8, false)] (by simp [R16, R9]) (by kernel_rfl) fun Hp Hr hp hr _ hr0 => ?_
    have Rp := (hp j9 (by simp)).trans R9
    have Rq := (hp j16 (by simp)).trans R16
    have n10 : j10 ∉ [j9, j16] := by simp [n1016, row_ne R10 R9 rfl]
    simp only [go_sem, h2, h9, h10, h13, Rp, Rq, wrapS (show k ≤ 4611686018427387904 by omega), getD_map hc, b2]
    refine ⟨_, (rest18_c t (serve18 (stop18 x v).1 (arrived x t a v).1) c).q rfl, ?_⟩
    simp only [go_sem, h10]
    refine wputE_n ((hr _ n10).trans R10) (by simp [encSt8]) ?_
    simp only [go_sem]
    refine pinEnd_i fun hd Hn hm1 hm2 => ?_
    have R10' : Hn j10 = some (stRow (runNext x t a (v, c)).1) := (hm2 j10 n10).trans (updH_same _ _ _)
    have old : ∀ i row, i ≠ j10 → H6 i = some row → Hn i = some row := fun i row hi h => by
      by_cases e : i ∈ [j9, j16]
      · rw [hm1 i e]; exact h
      · rw [hm2 i e]; exact keepS ((hr i e).trans h) hi
    have R6 := old _ _ (row_ne R6 R10 rfl) R6
    have R9 := old _ _ (row_ne R9 R10 rfl) R9
    have R11 := old _ _ (row_ne R11 R10 rfl) R11
    have Rt := old _ _ (row_ne Rt R10 rfl) Rt
    have Rd := old _ _ (row_ne Rd R10 rfl) Rd
    have R18 := old _ _ (row_ne R18 R10 rfl) R18
    have R10 := R10'
    clear old hm1 hm2 hd hp hr hr0 Rp Rq n10 R16 R10'
    simp only [go_sem, h10, R10]
    refine wputE_1 so3 R18 ⟨by simp, rfl, by simp⟩ ?_
    generalize hG : updH Hn j18 _ = H7
    have R18' : H7 j18 = some ⟨333, 4, [encTm ⟨(arrived x t a v).1.time, imax (arrived x t a v).1.time (stop18 x v).1.start, (runNext x t a (v, c)).1.time, c⟩]⟩ := by rw [← hG, updH_same]; rfl
    have old : ∀ i row, i ≠ j18 → Hn i = some row → H7 i = some row := fun i row hi h => by rw [← hG]; exact keepS h hi
    have R6 := old _ _ (row_ne R6 R18 rfl) R6
    have R9 := old _ _ (row_ne R9 R18 rfl) R9
    have R10 := old _ _ (row_ne R10 R18 rfl) R10
    have R11 := old _ _ (row_ne R11 R18 rfl) R11
    have Rt := old _ _ n18t Rt
    have Rd := old _ _ (row_ne Rd R18 rfl) Rd
    clear hG old R18
    simp only [go_sem, h11, R11, R18']
    refine wappE_i Rt ⟨rfl, rfl⟩ (by simp [allLen, encTm]) (by simp only [List.length_map, List.length_cons, List.length_nil]; omega) fun jt' hjt => ?_
    generalize hG : updH (updH H7 jt none) jt' _ = H8
    have Rt' : H8 jt' = some (tmRow (runNext x t a (v, c)).2.2) := by rw [← hG, updH_same]; simp [runNext, encTm]
    have old : ∀ i row, i ≠ jt → H7 i = some row → H8 i = some row := fun i row hi h => by rw [← hG]; exact keep_app h hi.symm hjt
    have R6 := old _ _ (row_ne R6 Rt rfl) R6
    have R9 := old _ _ (row_ne R9 Rt rfl) R9
    have R10 := old _ _ (row_ne R10 Rt rfl) R10
    have R11 := old _ _ (row_ne R11 Rt rfl) R11
    have Rd := old _ _ (row_ne Rd Rt rfl) Rd
    clear hG old hjt Rt R18'
    simp only [go_sem, h11]
    refine wputE_1 so194 R11 ⟨by simp, rfl, by simp⟩ ?_
    generalize hG : updH H8 j11 _ = H9
    have R11' : H9 j11 = some (sheetRow [boo b, int (run0 r t b).time, .os jt', int 0, int 0]) := by rw [← hG, updH_same]; rfl
    have old : ∀ i row, i ≠ j11 → H8 i = some row → H9 i = some row := fun i row hi h => by rw [← hG]; exact keepS h hi
    have R6 := old _ _ n611 R6
    have R9 := old _ _ (row_ne R9 R11 rfl) R9
    have R10 := old _ _ (row_ne R10 R11 rfl) R10
    have Rt := old _ _ (row_ne Rt' R11 rfl) Rt'
    have Rd := old _ _ (row_ne Rd R11 rfl) Rd
    clear hG old R11
    simp only [go_sem, h13, wrapS (show k ≤ 4611686018427387904 by omega)]
    refine ⟨⟨k + 1, runNext x t a (v, c), jt', jd', hlt, hf1, by simp [runNext, hl1], by simp [runNext, hl2], h2, h3, h4, h6, h9, h10, h11, rfl, rfl, R6, R9, R10, R11', Rt, Rd⟩, by simp only [natOf_int]; omega⟩
  · have hge := eq_of_ge_b hk hge
    subst hge
    have hf : (r.visits.zip rests.tail).foldlM (runStep x t) (run0 r t b, [], []) = .ok a := by
      rw [List.take_of_length_le (by simp [hlen])] at hf; exact hf
    have eO : runO x r rests t b = runEnd x t b (run0 r t b) a := by unfold runO; rw [hf]
    rw [eO]
    simp only [go_sem, h3, h9, h10, R9, R10]
    refine PC.use (step18_c x t a.1 t.dst t.close 15 hn) ?_
    simp only [go_sem]
    refine anew_i fun j19 hj => ?_
    simp only [go_sem]
    refine wputE_n (updH_same _ _ _) (by simp [encSt8]) ?_
    generalize hG : updH (updH H j19 _) j19 _ = H3
    have R19 : H3 j19 = some (stRow (step18 x t a.1 t.dst t.close 15).1) := by rw [← hG, updH_same]; rfl
    have old : ∀ i row, H i = some row → H3 i = some row := fun i row h => by rw [← hG]; exact keepN h hj
    have R6 := old _ _ R6
    have R11 := old _ _ R11
    have Rt := old _ _ Rt
    have Rd := old _ _ Rd
    clear hG old hj R9 R10
    simp only [go_sem]
    refine acond_i (fun he => ?_) (fun he => ?_)
    · simp only [go_sem, h6]
      refine wputE_n R6 (by simp) ?_
      simp only [go_sem]
      refine anew_i fun j7 hj => ?_
      simp only [go_sem]
      have n1 := ne_new (updH_same _ _ _) hj
      rw [show runEnd x t b (run0 r t b) a = (zeroSheet, [], (step18 x t a.1 t.dst t.close 15).2) from if_pos he]
      simp only [go_sem, h6, updH_ne _ _ _ _ n1]
      exact convRun0 (updH_same _ _ _)
    rw [show runEnd x t b (run0 r t b) a = _ from if_neg (by rw [he]; simp)]
    simp only [go_sem, h12, R19]
    refine wappE_i Rd ⟨rfl, rfl⟩ (by simp [allLen]) (by simp only [List.length_map, List.length_cons, List.length_nil]; omega) fun jd' hjd => ?_
    generalize hG : updH (updH H3 jd none) jd' _ = H5
    have Rd' : H5 jd' = some (intRow (a.2.1 ++ [(step18 x t a.1 t.dst t.close 15).1.driven])) := by rw [← hG, updH_same]; simp [encInt]
    have old : ∀ i row, i ≠ jd → H3 i = some row → H5 i = some row := fun i row hi h => by rw [← hG]; exact keep_app h hi.symm hjd
    have R6 := old _ _ (row_ne R6 Rd rfl) R6
    have R11 := old _ _ (row_ne R11 Rd rfl) R11
    have Rt := old _ _ (row_ne Rt Rd rfl) Rt
    have R19 := old _ _ (row_ne R19 Rd rfl) R19
    clear hG old hjd Rd
    simp only [go_sem, h11, R19]
    refine wputE_1 so3 R11 ⟨by simp, rfl, by simp⟩ ?_
    have n1911 := row_ne R19 R11 rfl
    simp only [go_sem, R19, h11, updH_ne _ _ _ _ n1911]
    refine wputE_1 so3 (updH_same _ _ _) ⟨by simp, rfl, by simp⟩ ?_
    generalize hG : updH (updH H5 j11 _) j11 _ = H6
    have R11' : H6 j11 = some (sheetRow [boo b, int (run0 r t b).time, .os jt, int (step18 x t a.1 t.dst t.close 15).1.time, int (step18 x t a.1 t.dst t.close 15).1.miles]) := by rw [← hG, updH_same]; rfl
    have old : ∀ i row, i ≠ j11 → H5 i = some row → H6 i = some row := fun i row hi h => by rw [← hG]; exact keepS (keepS h hi) hi
    have R6 := old _ _ n611 R6
    have Rt := old _ _ (row_ne Rt R11 rfl) Rt
    have Rd := old _ _ (row_ne Rd' R11 rfl) Rd'
    clear hG old R11 Rd'
    simp only [go_sem, h6, h11, R11']
    refine wputE_n R6 (by simp) ?_
    simp only [go_sem, h6]
    exact convRun (keepS Rt (row_ne Rt R6 rfl)) (keepS Rd (row_ne Rd R6 rfl))
theorem Run18_c (x : Instance) (r : Route) (rests : List Bool) (hn : NetB x.net) (hr : r.visits.length ≤ 1048576) : PC Tryz.prog 273 [.agg (encInstance x), .agg (encRoute r), .sl (rests.map encBool)] (.tup [.agg (encSheet (run18 x r rests).1), int (run18 x r rests).2.2]) := by
  refine PC.body (c := Tryz.f273.body.getD .skip) (fun _ => false) mixed Tryz.func273 rfl (by kernel_rfl) ?_
  unfold Tryz.f273
  simp only [Option.getD_some]
  simp only [go_sem]
  refine anew_i fun j6 hj => ?_
  have R6 := updH_same noRows j6 (some (sheetRow zeroCells))
  generalize updH noRows j6 _ = H0 at R6 ⊢
  clear hj
  simp only [go_sem]
  refine PC.use (run18_c x r rests hn hr) ?_
  simp only [go_sem]
  refine anew_i fun j8 hj => ?_
  simp only [go_sem]
  refine wputE_n (updH_same _ _ _) (by simp [encSheet]) ?_
  simp only [go_sem]
  refine wputE_n (keepN R6 hj) (by simp [encSheet]) ?_
  simp only [go_sem]
  exact .refl _
def nextGo (n : Nat) : Nat → List Bool → List Bool × Bool
  | 0, _ => ([], false)
  | k + 1, l => if n ≤ k then (if l.getD k false = true then nextGo n k (l.set k false) else (l.set k true, true)) else ([], false)
def next18 (l : List Bool) (n : Nat) : List Bool × Bool := nextGo n l.length l
def valB : List Bool → Nat
  | [] => 0
  | b :: r => (if b = true then 2 ^ r.length else 0) + valB r
theorem valB_lt : ∀ l, valB l < 2 ^ l.length
  | [] => by simp [valB]
  | b :: r => by
    have := valB_lt r
    simp only [valB, List.length_cons, Nat.pow_succ]
    split <;> omega
theorem valB_set : ∀ (l : List Bool) (k : Nat) (b : Bool), l[k]? = some b → valB (l.set k (!b)) + (if b = true then 2 ^ (l.length - 1 - k) else 0) = valB l + (if b = true then 0 else 2 ^ (l.length - 1 - k))
  | [], k, b, h => by simp at h
  | a :: r, 0, b, h => by
    have e : a = b := by simpa using h
    subst e
    cases a <;> simp [valB] <;> omega
  | a :: r, k + 1, b, h => by
    have := valB_set r k b (by simpa using h)
    simp only [List.set_cons_succ, valB, List.length_set, List.length_cons]
    rw [show r.length + 1 - 1 - (k + 1) = r.length - 1 - k by omega]
    cases b <;> simp at this ⊢ <;> omega
theorem nextGo_spec (n : Nat) : ∀ (k : Nat) (l : List Bool), k ≤ l.length → (nextGo n k l).2 = true → (nextGo n k l).1.length = l.length ∧ valB (nextGo n k l).1 = valB l + 2 ^ (l.length - k)
  | 0, l, _, h => by simp [nextGo] at h
  | k + 1, l, hk, h => by
    obtain ⟨b, hb⟩ := getIn (show k < l.length by omega)
    have hs := valB_set l k b hb
    have hg : l.getD k false = b := by rw [List.getD_eq_getElem?_getD, hb]; rfl
    have hpow : 2 ^ (l.length - k) = 2 * 2 ^ (l.length - (k + 1)) := by rw [show l.length - k = (l.length - (k + 1)) + 1 by omega, Nat.pow_succ]; omega
    have he : l.length - 1 - k = l.length - (k + 1) := by omega
    rw [he] at hs
    unfold nextGo at h ⊢
    rw [hg] at h ⊢
    by_cases hn : n ≤ k
    · rw [if_pos hn] at h ⊢
      cases b
      · simp only [Bool.false_eq_true, if_false] at h ⊢ hs
        refine ⟨by simp, ?_⟩
        simpa using hs
      · simp only [if_true] at h ⊢ hs
        have ih := nextGo_spec n k (l.set k false) (by simp; omega) h
        simp only [List.length_set] at ih
        refine ⟨ih.1, ?_⟩
        rw [ih.2, hpow]
        simp only [Bool.not_true] at hs
        omega
    · rw [if_neg hn] at h; simp at h
def natOf1 : AV → Nat
  | .v (.int _ n) => (n + 1).toNat
  | _ => 0
theorem natOf1_int {k n} : natOf1 (.v (.int k n)) = (n + 1).toNat := (rfl)
theorem bools_all : ∀ l : List Bool, allLen 1 (l.map encBool)
  | [] => trivial
  | _ :: r => ⟨rfl, bools_all r⟩
abbrev boolRow (l : List Bool) : Row := ⟨4, 1, l.map encBool⟩
theorem next18_c (l0 : List Bool) (n : Nat) (hl : l0.length ≤ 1048577) : PC Tryz.prog 274 [.sl (l0.map encBool), int n] (.tup [.sl ((next18 l0 n).1.map encBool), boo (next18 l0 n).2]) := by
  refine PC.body (c := Tryz.f274.body.getD .skip) (fun t => t == 4 || t == 6) mixed Tryz.func274 rfl (by kernel_rfl) ?_
  unfold Tryz.f274
  simp only [Option.getD_some]
  simp only [go_sem]
  refine anew_i fun j4 hj4 => ?_
  simp only [go_sem]
  refine anew_i fun j6 hj6 => ?_
  simp only [go_sem]
  refine wappE_i (updH_same _ _ _) ⟨rfl, rfl⟩ (bools_all _) (by simp only [List.length_map, List.length_nil]; omega) fun j hj => ?_
  generalize hG : updH (updH (updH (updH noRows j4 _) j6 _) j6 none) j _ = H0
  have R : H0 j = some (boolRow l0) := by rw [← hG, updH_same]; rfl
  clear hG hj hj4 hj6
  have w1 : IntKind.i64.wrap ((l0.length : Int) - 1) = (l0.length : Int) - 1 := wrap_in (by omega)
  simp only [go_sem, R, w1]
  refine ⟨fun ρ H => ∃ (k : Nat) (l : List Bool), k ≤ l.length ∧ l.length = l0.length ∧ nextGo n k l = next18 l0 n ∧ ρ 1 = int n ∧ ρ 6 = .os j ∧ ρ 7 = int ((k : Int) - 1) ∧ H j = some (boolRow l), fun ρ _ => natOf1 (ρ 7), ⟨l0.length, l0, Nat.le_refl _, rfl, rfl, rfl, rfl, rfl, R⟩, ?_⟩
  clear R
  rintro ρ H ⟨k, l, hk, hln, hg, h1, h6, h7, R⟩
  cases k with
  | zero =>
    simp only [go_sem, h1, h6, h7]
    refine acond_i (fun hb => by simp at hb; omega) (fun _ => ?_)
    simp only [go_sem]
    refine anew_i fun j' hj' => ?_
    simp only [go_sem]
    rw [← hg]
    exact .tup _ _ (.cons _ _ _ _ (.row _ _ _ (updH_same _ _ _) .nil) (ConvL.refl _))
  | succ k =>
    rw [show ((k + 1 : Nat) : Int) - 1 = (k : Int) by omega] at h7
    simp only [go_sem, h1, h6, h7]
    obtain ⟨b, hb⟩ := getIn (show k < l.length by omega)
    have hgd : l.getD k false = b := by rw [List.getD_eq_getElem?_getD, hb]; rfl
    have b1 := inB (show k < l.length by omega)
    refine acond_i (fun hge => ?_) (fun hlt => ?_)
    · have hge : n ≤ k := by simpa using hge
      unfold nextGo at hg
      rw [if_pos hge, hgd] at hg
      simp only [go_sem, h1, h6, h7, R, getD_map hb, b1, show k < l.length from by omega]
      refine acond_i (fun hc => ?_) (fun hc => ?_)
      · simp only [go_sem, h6, h7, R, b1, show k < l.length from by omega]
        refine wputE_1 so4 R ⟨by simp; omega, rfl, by simp⟩ ?_
        simp only [go_sem, h6]
        rw [if_neg (by simpa using hc)] at hg
        rw [← hg]
        refine .tup _ _ (.cons _ _ _ _ (.row _ _ _ (updH_same _ _ _) ?_) (ConvL.refl _))
        have : ((boolRow l).es.set k (setAt ((boolRow l).es.getD k []) 0 [boo true])) = (l.set k true).map encBool := by
          show (l.map encBool).set k (setAt ((l.map encBool).getD k []) 0 [boo true]) = _
          rw [getD_map hb, List.map_set]; rfl
        first | (rw [this]; exact ConvE.refl _) | exact this ▸ ConvE.refl _
      · simp only [go_sem, h6, h7, R, b1, show k < l.length from by omega]
        refine wputE_1 so4 R ⟨by simp; omega, rfl, by simp⟩ ?_
        rw [if_pos (by simpa using hc)] at hg
        have w2 : IntKind.i64.wrap ((k : Int) - 1) = (k : Int) - 1 := wrap_in (by omega)
        simp only [go_sem, h7, w2]
        refine ⟨⟨k, l.set k false, by simp; omega, by simpa using hln, hg, h1, h6, rfl, ?_⟩, by simp only [natOf1_int]; omega⟩
        show some (⟨4, 1, (l.map encBool).set k (setAt ((l.map encBool).getD k []) 0 [boo false])⟩ : Row) = some (⟨4, 1, (l.set k false).map encBool⟩ : Row)
        rw [getD_map hb, List.map_set]; rfl
    · have hlt : ¬ n ≤ k := by simpa using hlt
      unfold nextGo at hg
      rw [if_neg hlt] at hg
      simp only [go_sem]
      refine anew_i fun j' hj' => ?_
      simp only [go_sem]
      rw [← hg]
      exact .tup _ _ (.cons _ _ _ _ (.row _ _ _ (updH_same _ _ _) .nil) (ConvL.refl _))
def bestStep (x : Instance) (r : Route) (c : List Bool) (b : Sheet × Bool) : Sheet × Bool :=
  if ((run18 x r c).2.2 == 0 && (!b.2 || decide ((run18 x r c).1.end_ < b.1.end_))) = true then ((run18 x r c).1, true) else b
def bestGo (x : Instance) (r : Route) (m : Nat) : Nat → List Bool × Bool → Sheet × Bool → Sheet × Bool
  | 0, _, b => b
  | f + 1, c, b => if c.2 = true then bestGo x r m f (next18 c.1 m) (bestStep x r c.1 b) else b
def remB (c : List Bool × Bool) : Nat := if c.2 = true then 2 ^ c.1.length - valB c.1 else 0
def rests0 (r : Route) : List Bool := r.rests ++ List.replicate (r.visits.length + 1 - r.rests.length) false
def bestEnd (b : Sheet × Bool) (first : Int) : Sheet × Int := if b.2 = true then (b.1, 0) else (zeroSheet, first)
def best18 (x : Instance) (r : Route) : Sheet × Int :=
  if (!possible18 x r || decide ((r.rests.length : Int) > ((r.visits.length + 1 : Nat) : Int))) = true then (zeroSheet, 2)
  else bestEnd (bestGo x r r.rests.length (remB (next18 (rests0 r) r.rests.length)) (next18 (rests0 r) r.rests.length) ((run18 x r (rests0 r)).1, (run18 x r (rests0 r)).2.2 == 0)) (run18 x r (rests0 r)).2.2
theorem bestGo_done {x : Instance} {r : Route} {m : Nat} {c : List Bool × Bool} {b : Sheet × Bool} (h : c.2 = false) : ∀ f, bestGo x r m f c b = b
  | 0 => rfl
  | f + 1 => by unfold bestGo; rw [if_neg (by rw [h]; simp)]
theorem bestGo_step {x : Instance} {r : Route} {m : Nat} {c : List Bool × Bool} {b : Sheet × Bool} (h : c.2 = true) : bestGo x r m (remB c) c b = bestGo x r m (remB (next18 c.1 m)) (next18 c.1 m) (bestStep x r c.1 b) ∧ remB (next18 c.1 m) < remB c ∧ ((next18 c.1 m).2 = true → (next18 c.1 m).1.length = c.1.length) := by
  have hv := valB_lt c.1
  have e : remB c = (2 ^ c.1.length - valB c.1 - 1) + 1 := by unfold remB; rw [if_pos h]; omega
  have e1 : bestGo x r m (remB c) c b = bestGo x r m (2 ^ c.1.length - valB c.1 - 1) (next18 c.1 m) (bestStep x r c.1 b) := by
    rw [e]; conv => lhs; unfold bestGo
    rw [if_pos h]
  cases h2 : (next18 c.1 m).2 with
  | false =>
    refine ⟨by rw [e1, bestGo_done h2, bestGo_done h2], ?_, fun h => by cases h⟩
    have : remB (next18 c.1 m) = 0 := by unfold remB; rw [h2]; rfl
    omega
  | true =>
    have hs := nextGo_spec m c.1.length c.1 (Nat.le_refl _) h2
    rw [Nat.sub_self] at hs
    have hr : remB (next18 c.1 m) = 2 ^ c.1.length - valB c.1 - 1 := by
      unfold remB
      rw [h2, if_pos rfl]
      unfold next18
      rw [hs.1, hs.2]; omega
    exact ⟨by rw [e1, hr], by omega, fun _ => hs.1⟩
def boolOf : AV → Bool
  | .v (.bool b) => b
  | _ => false
def boolsOf : AV → List Bool
  | .sl es => es.map fun c => boolOf (c.getD 0 .any)
  | _ => []
theorem boolsOf_enc (l : List Bool) : boolsOf (.sl (l.map encBool)) = l := by
  simp [boolsOf, encBool, boolOf, Function.comp_def]
abbrev shRow (s : Sheet) : Row := ⟨196, 5, [encSheet s]⟩
theorem encSheet_len (s : Sheet) : (encSheet s).length = 5 := (rfl)
theorem encSheet_3 (s : Sheet) : (encSheet s).getD 3 .any = int s.end_ := (rfl)
theorem encSheet_4 (s : Sheet) : (encSheet s).getD 4 .any = int s.miles := (rfl)
theorem encSheet_all (s : Sheet) : (encSheet s).take 5 = encSheet s := (rfl)
attribute [go_sem] encSheet_3 encSheet_4 encSheet_all
theorem copy_rests {a : List Bool} {n : Nat} (h : a.length ≤ n) : ((List.replicate n [boo false]).take 0 ++ (a.map encBool).take (min (a.map encBool).length (List.replicate n [boo false]).length)) ++ (List.replicate n [boo false]).drop (0 + min (a.map encBool).length (List.replicate n [boo false]).length) = (a ++ List.replicate (n - a.length) false).map encBool := by
  have e : min (a.map encBool).length (List.replicate n [boo false]).length = a.length := by simp; omega
  rw [e, List.take_zero, List.nil_append, Nat.zero_add, List.take_of_length_le (by simp), List.drop_replicate, List.map_append, List.map_replicate]; rfl
theorem best18_c (x : Instance) (r : Route) (hn : NetB x.net) (hr : r.visits.length ≤ 1048576) : PC Tryz.prog 223 [.agg (encInstance x), .agg (encRoute r)] (.tup [.agg (encSheet (best18 x r).1), int (best18 x r).2]) := by
  refine PC.body (c := Tryz.f223.body.getD .skip) (fun t => t == 39) mixed Tryz.func223 rfl (by kernel_rfl) ?_
  unfold Tryz.f223
  simp only [Option.getD_some]
  simp only [go_sem]
  refine anew_i fun j4 hj => ?_
  have R4 := updH_same noRows j4 (some (sheetRow zeroCells))
  generalize updH noRows j4 _ = H0 at R4 ⊢
  clear hj
  simp only [go_sem, wrapS (show r.visits.length ≤ 4611686018427387904 by omega)]
  refine PC.use (possible18_c x r hr) ?_
  simp only [go_sem]
  refine acond_i (fun h1 => ?_) (fun h1 => ?_)
  · simp only [go_sem]
    refine wputE_n R4 (by simp) ?_
    simp only [go_sem]
    rw [show best18 x r = (zeroSheet, 2) from if_pos h1]
    exact .refl _
  have hm : r.rests.length ≤ r.visits.length + 1 := by
    simp only [Bool.or_eq_false_iff, decide_eq_false_iff_not] at h1; omega
  rw [show best18 x r = _ from if_neg (by rw [h1]; simp)]
  simp only [go_sem]
  refine ⟨by omega, ?_⟩
  refine anew_i fun j7 hj => ?_
  simp only [go_sem]
  refine wcopy_i el54 (updH_same _ _ _) (.inl ⟨rfl, rfl, rfl⟩) (.inl rfl) rfl (bools_all _) ?_
  generalize hG : updH (updH H0 j7 _) j7 _ = H1
  have n47 := ne_new R4 hj
  have R7 : H1 j7 = some (boolRow (rests0 r)) := by
    rw [← hG, updH_same]
    exact congrArg (fun es => some (⟨4, 1, es⟩ : Row)) (copy_rests hm)
  have R4 : H1 j4 = some (sheetRow zeroCells) := by rw [← hG]; exact keepN R4 hj
  clear hG hj
  simp only [go_sem]
  refine afreeze_i (by simp only [go_sem]) R7 fun H2 _ hH => ?_
  have R4 := (hH j4 n47).trans R4
  clear hH R7 n47
  simp only [go_sem]
  refine PC.use (Run18_c x r (rests0 r) hn hr) ?_
  simp only [go_sem]
  refine anew_i fun j8 hj => ?_
  simp only [go_sem]
  refine wputE_n (updH_same _ _ _) (by simp [encSheet]) ?_
  have n48 := ne_new R4 hj
  generalize hG : updH (updH H2 j8 _) j8 _ = H3
  have R8 : H3 j8 = some (shRow (run18 x r (rests0 r)).1) := by rw [← hG, updH_same]; rfl
  have R4 : H3 j4 = some (sheetRow zeroCells) := by rw [← hG]; exact keepN R4 hj
  clear hG hj
  simp only [go_sem]
  have hl0 : (rests0 r).length = r.visits.length + 1 := by simp [rests0]; omega
  refine PC.use (next18_c (rests0 r) r.rests.length (by omega)) ?_
  simp only [go_sem]
  generalize hfirst : (run18 x r (rests0 r)).2.2 = first
  generalize hb0 : ((run18 x r (rests0 r)).1, first == 0) = b0
  generalize hc0 : next18 (rests0 r) r.rests.length = c0
  have hc0l : c0.2 = true → c0.1.length = r.visits.length + 1 := fun h => by
    rw [← hc0] at h ⊢
    rw [← hl0]
    exact (nextGo_spec r.rests.length (rests0 r).length (rests0 r) (Nat.le_refl _) h).1
  have e1 : (run18 x r (rests0 r)).1 = b0.1 := by rw [← hb0]
  have e2 : (first == 0) = b0.2 := by rw [← hb0]
  rw [e1] at R8
  rw [e2]
  refine ⟨fun ρ H => ∃ (c : List Bool × Bool) (b : Sheet × Bool), bestGo x r r.rests.length (remB c) c b = bestGo x r r.rests.length (remB c0) c0 b0 ∧ (c.2 = true → c.1.length = r.visits.length + 1) ∧
      ρ 2 = .rp (encInstance x) 0 ∧ ρ 3 = .rp (encRoute r) 0 ∧ ρ 4 = .op j4 0 0 ∧ ρ 7 = .sl (c.1.map encBool) ∧ ρ 8 = .op j8 0 0 ∧ ρ 9 = int first ∧ ρ 10 = boo b.2 ∧ ρ 11 = boo c.2 ∧ H j4 = some (sheetRow zeroCells) ∧ H j8 = some (shRow b.1),
    fun ρ _ => remB (boolsOf (ρ 7), boolOf (ρ 11)), ⟨c0, b0, rfl, hc0l, rfl, rfl, rfl, rfl, rfl, rfl, rfl, rfl, R4, R8⟩, ?_⟩
  clear R4 R8
  rintro ρ H ⟨c, b, hg, hcl, h2, h3, h4, h7, h8, h9, h10, h11, R4, R8⟩
  have hmu : remB (boolsOf (ρ 7), boolOf (ρ 11)) = remB c := by rw [h7, h11, boolsOf_enc]; rfl
  simp only [go_sem, h11]
  refine acond_i (fun hc => ?_) (fun hc => ?_)
  · obtain ⟨s1, s2, s3⟩ := bestGo_step (x := x) (r := r) (m := r.rests.length) (b := b) hc
    simp only [go_sem, h2, h3, h7]
    refine PC.use (Run18_c x r c.1 hn hr) ?_
    simp only [go_sem]
    refine anew_i fun j12 hj => ?_
    simp only [go_sem]
    refine wputE_n (updH_same _ _ _) (by simp [encSheet]) ?_
    generalize hG : updH (updH H j12 _) j12 _ = H4
    have R12 : H4 j12 = some (shRow (run18 x r c.1).1) := by rw [← hG, updH_same]; rfl
    have R4 : H4 j4 = some (sheetRow zeroCells) := by rw [← hG]; exact keepN R4 hj
    have n128 := (ne_new R8 hj).symm
    have R8 : H4 j8 = some (shRow b.1) := by rw [← hG]; exact keepN R8 hj
    clear hG hj
    simp only [go_sem, h8, h10, R8, R12]
    refine acond_join (fun ρ' H' => ρ' 2 = .rp (encInstance x) 0 ∧ ρ' 3 = .rp (encRoute r) 0 ∧ ρ' 4 = .op j4 0 0 ∧ ρ' 7 = .sl (c.1.map encBool) ∧ ρ' 8 = .op j8 0 0 ∧ ρ' 9 = int first ∧ ρ' 10 = boo (bestStep x r c.1 b).2 ∧ H' j4 = some (sheetRow zeroCells) ∧ H' j8 = some (shRow (bestStep x r c.1 b).1)) ?_ fun K hK => acond_i (fun hb => ?_) (fun hb => ?_)
    · clear R4 R8 R12 h2 h3 h4 h7 h8 h9 h10 h11
      rintro ρ H ⟨h2, h3, h4, h7, h8, h9, h10, R4, R8⟩
      simp only [go_sem, h3, h7]
      refine PC.use (next18_c c.1 r.rests.length (by have := hcl hc; omega)) ?_
      simp only [go_sem]
      refine ⟨⟨next18 c.1 r.rests.length, bestStep x r c.1 b, by rw [← s1]; exact hg, fun h => (s3 h).trans (hcl hc), h2, h3, h4, rfl, h8, h9, h10, rfl, R4, R8⟩, ?_⟩
      rw [boolsOf_enc, boolsOf_enc]
      exact s2
    · simp only [go_sem, h8, R12]
      refine wputE_n R8 (by simp [encSheet]) ?_
      simp only [go_sem]
      have e : bestStep x r c.1 b = ((run18 x r c.1).1, true) := if_pos hb
      rw [e] at hK
      refine hK _ _ ⟨by simp only [go_sem, h2], by simp only [go_sem, h3], by simp only [go_sem, h4], by simp only [go_sem, h7], by simp only [go_sem, h8], by simp only [go_sem, h9], by simp only [go_sem], ?_, ?_⟩
      · exact keepS R4 n48
      · rw [updH_same]; rfl
    · simp only [go_sem]
      have e : bestStep x r c.1 b = b := if_neg (by rw [show ((run18 x r c.1).2.2 == 0 && (!b.2 || decide ((run18 x r c.1).1.end_ < b.1.end_))) = false from hb]; simp)
      rw [e] at hK
      exact hK _ _ ⟨by simp only [go_sem, h2], by simp only [go_sem, h3], by simp only [go_sem, h4], by simp only [go_sem, h7], by simp only [go_sem, h8], by simp only [go_sem, h9], by simp only [go_sem, h10], R4, R8⟩
  · have hdone : bestGo x r r.rests.length (remB c) c b = b := bestGo_done hc _
    rw [← hg, hdone]
    simp only [go_sem, h10]
    refine acond_i (fun hb => ?_) (fun hb => ?_)
    · simp only [go_sem, h4, h9]
      refine wputE_n R4 (by simp) ?_
      simp only [go_sem, h4]
      rw [show bestEnd b first = (zeroSheet, first) from if_neg (by simpa using hb)]
      exact .refl _
    · simp only [go_sem, h4, h8, R8]
      refine wputE_n R4 (by simp [encSheet]) ?_
      simp only [go_sem, h4]
      rw [show bestEnd b first = (b.1, 0) from if_pos (by simpa using hb)]
      exact .refl _
end Go.Proofs.YtbcfajfngdmgnaaGreatDoor.Sq
