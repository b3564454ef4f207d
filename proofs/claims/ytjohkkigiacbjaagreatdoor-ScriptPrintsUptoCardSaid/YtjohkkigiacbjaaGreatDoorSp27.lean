/- Texts joined by a program: ScH. -/
import Derived.Test.YtjohkkigiacbjaaGreatDoorSp26

set_option linter.unusedSimpArgs false
set_option linter.unusedVariables false
namespace Go.Proofs.YtjohkkigiacbjaaGreatDoor.Sc
open Go.Aw Go.Aw.D Go.Proofs Ty
open Go.RowKit (Below)
open Go.Proofs.YtjohkkigiacbjaaGreatDoor
open Go.Proofs.YtjohkkigiacbjaaGreatDoor.Nw (ltB geB)
set_option maxRecDepth 100000
theorem cStr {H : Heap} {a b : ByteArray} (h : a = b) : Conv H (str a) (str b) := h ▸ .refl _
theorem qd {H : Heap} (n : Int) (h : i64B n) : QCalls Tryz.prog 22 [int n] H (str (decZ n)) := .inl ⟨_, .cons _ _ _ _ (.refl _) .nil, refDecimal_c n h, rfl⟩
theorem qi {f : FuncId} {H : Heap} {a : AV} {s : ByteArray} (h : PC Tryz.prog f [a] (str s)) : QCalls Tryz.prog f [a] H (str s) := .inl ⟨_, .cons _ _ _ _ (.refl _) .nil, h, rfl⟩
theorem refStop_c (s : Stop) (hz : okStop s) : PC Tryz.prog 72 [.agg (encStop s)] (str (stopS s)) := by
  have s1 := decZ_size hz.1
  have s2 := decZ_size hz.2.1
  have s3 := decZ_size hz.2.2.1
  have s4 := decZ_size hz.2.2.2
  refine PC.body (c := Tryz.f72.body.getD .skip) (fun _ => false) mixed Tryz.func72 rfl (by kernel_rfl) ?_
  unfold Tryz.f72
  simp only [Option.getD_some]
  simp only [go_sem]
  have hzs : (s.place == -1 && (s.start == 0 && (s.close == 0 && (s.service == 0 && true)))) = zeroStop s := by unfold zeroStop; simp [Bool.and_assoc]
  refine acond_i (fun hb => ?_) (fun hb => ?_) <;> rw [hzs] at hb
  · simp only [go_sem]
    have : stopS s = ⟨#[46]⟩ := if_pos hb
    rw [this]; exact .refl _
  · simp only [go_sem]
    refine adraw_m [(0, true), (1, true), (2, true), (3, true), (4, true), (5, true), (6, true), (7, true), (8, true), (9, true), (10, true), (11, true), (12, true), (13, true), (14, true), (15, true), (16, true), (17, true), (18, true)] (by kernel_rfl) ?_
    simp only [go_sem]
    refine ⟨_, qd _ hz.1, ?_⟩
    simp only [go_sem]
    refine ⟨by rw [i64max]; first | omega | (simp only [ByteArray.size_append, List.size_toArray, List.length_cons, List.length_nil]; omega), _, qd _ hz.2.1, ?_⟩
    simp only [go_sem]
    refine ⟨by rw [i64max]; first | omega | (simp only [ByteArray.size_append, List.size_toArray, List.length_cons, List.length_nil]; omega), by rw [i64max]; first | omega | (simp only [ByteArray.size_append, List.size_toArray, List.length_cons, List.length_nil]; omega), _, qd _ hz.2.2.1, ?_⟩
    simp only [go_sem]
    refine ⟨by rw [i64max]; first | omega | (simp only [ByteArray.size_append, List.size_toArray, List.length_cons, List.length_nil]; omega), by rw [i64max]; first | omega | (simp only [ByteArray.size_append, List.size_toArray, List.length_cons, List.length_nil]; omega), _, qd _ hz.2.2.2, ?_⟩
    simp only [go_sem]
    refine ⟨by rw [i64max]; first | omega | (simp only [ByteArray.size_append, List.size_toArray, List.length_cons, List.length_nil]; omega), cStr ?_⟩
    unfold stopS
    rw [if_neg (by rw [hb]; simp)]
    simp only [List.map_cons, List.map_nil, joinB_cons, tailB_cons, tailB_nil, app_nil, app_assoc]
theorem refTravel_c (l : List Point) (hl : l.length ≤ 1048576) (hz : ∀ n ∈ l, okPoint n) : PC Tryz.prog 37 [.sl (l.map encPoint)] (str (travelS l)) := by
  by_cases h0 : l = []
  · subst h0
    refine PC.body (c := Tryz.f37.body.getD .skip) (fun _ => false) mixed Tryz.func37 rfl (by kernel_rfl) ?_
    unfold Tryz.f37
    simp only [Option.getD_some]
    simp only [go_sem]
    refine acond_i (fun hb => ?_) (fun hb => absurd hb (by simp))
    simp only [go_sem]
    exact .refl _
  rw [travelS_join h0]
  refine PC.body (c := Tryz.f37.body.getD .skip) (fun _ => false) mixed Tryz.func37 rfl (by kernel_rfl) ?_
  unfold Tryz.f37
  simp only [Option.getD_some]
  simp only [go_sem]
  refine acond_i (fun hb => absurd (by simpa using hb) h0) (fun hb => ?_)
  simp only [go_sem]
  refine ⟨fun ρ H => ∃ (k : Nat), k ≤ l.length ∧ ρ 0 = .sl (l.map encPoint) ∧ ρ 4 = int k ∧ ρ 3 = str (joinB ⟨#[44]⟩ ((l.take k).map pointS)), fun ρ _ => l.length - natOf (ρ 4), ⟨0, Nat.zero_le _, by simp only [go_sem], (by simp only [go_sem]; rfl), by simp only [go_sem]; rfl⟩, ?_⟩
  rintro ρ H ⟨k, hk, e0, e4, e3⟩
  simp only [go_sem, e0, e4, e3]
  refine acond_i (fun hlt => ?_) (fun hge => ?_)
  · have hlt := ltB hlt
    obtain ⟨a, ha⟩ := getIn hlt
    have b1 := inB hlt
    have hj := Nat.le_trans (joinB_le (s := ⟨#[44]⟩) (f := pointS) (B := 43) l k fun n hn => pointS_size (hz n hn)) (show l.length * ((⟨#[44]⟩ : ByteArray).size + 43) ≤ 47000000 by show l.length * (1 + 43) ≤ _; omega)
    have hok := hz a (mem_of_get ha)
    have s1 := decZ_size hok.1
    have s2 := decZ_size hok.2
    have hst := joinB_take (s := ⟨#[44]⟩) (f := pointS) ha
    have hw := wrapS (show k ≤ 4611686018427387904 by omega)
    simp only [go_sem, e0, e4, e3]
    refine acond_i (fun hb => ?_) (fun hb => ?_)
    · have hk0 : 0 < k := by simpa using hb
      rw [if_pos hk0] at hst
      simp only [go_sem, e0, e4, e3]
      refine ⟨by rw [i64max]; first | omega | (simp only [ByteArray.size_append, List.size_toArray, List.length_cons, List.length_nil]; omega), ?_⟩
      refine adraw_m [(0, true), (1, true), (2, true), (3, true), (4, true), (5, true), (6, true), (7, true), (8, true), (9, true), (10, true), (11, true), (12, true), (13, true), (14, true), (15, true), (16, true)] (by kernel_rfl) ?_
      simp only [go_sem, e0, e4, e3, getD_map ha, b1]
      refine ⟨_, qd _ hok.1, ?_⟩
      simp only [go_sem, e0, e4, e3, getD_map ha, b1]
      refine ⟨by rw [i64max]; first | omega | (simp only [ByteArray.size_append, List.size_toArray, List.length_cons, List.length_nil]; omega), by rw [i64max]; first | omega | (simp only [ByteArray.size_append, List.size_toArray, List.length_cons, List.length_nil]; omega), _, qd _ hok.2, ?_⟩
      simp only [go_sem, e0, e4, e3, hw]
      refine ⟨by rw [i64max]; first | omega | (simp only [ByteArray.size_append, List.size_toArray, List.length_cons, List.length_nil]; omega), ⟨k + 1, hlt, rfl, ?_⟩, by simp only [natOf_int]; omega⟩
      rw [hst]
      simp only [pointS, app_assoc]
    · have hk0 : k = 0 := by simpa using hb
      rw [if_neg (by omega)] at hst
      simp only [go_sem, e0, e4, e3]
      refine adraw_m [(0, true), (1, true), (2, true), (3, true), (4, true), (5, true), (6, true), (7, true), (8, true), (9, true), (10, true), (11, true), (12, true), (13, true), (14, true), (15, true), (16, true)] (by kernel_rfl) ?_
      simp only [go_sem, e0, e4, e3, getD_map ha, b1]
      refine ⟨_, qd _ hok.1, ?_⟩
      simp only [go_sem, e0, e4, e3, getD_map ha, b1]
      refine ⟨by rw [i64max]; first | omega | (simp only [ByteArray.size_append, List.size_toArray, List.length_cons, List.length_nil]; omega), by rw [i64max]; first | omega | (simp only [ByteArray.size_append, List.size_toArray, List.length_cons, List.length_nil]; omega), _, qd _ hok.2, ?_⟩
      simp only [go_sem, e0, e4, e3, hw]
      refine ⟨by rw [i64max]; first | omega | (simp only [ByteArray.size_append, List.size_toArray, List.length_cons, List.length_nil]; omega), ⟨k + 1, hlt, rfl, ?_⟩, by simp only [natOf_int]; omega⟩
      rw [hst]
      simp only [pointS, app_assoc]
  · have hge := geB hk hge
    subst hge
    simp only [go_sem, e0, e4, e3]
    rw [List.take_of_length_le (Nat.le_refl _)]
    exact .refl _
theorem adraw_tj {P : Program} {C : CallP} {PC : FuncId → List AV → Heap → AV → Prop} {mt : Nat → Bool} {ops : List Oper} {K : Env → Heap → Prop} {m : Nat} {ρ : Env} {H : Heap} (l : List Nat) (t : Mx) (J : Env → Heap → Prop) (hl : ∀ k, k ∈ l → (H k).isSome = true) (hB : treeB ops.toArray t = true)
    (h : ∀ K' : Env → Heap → Prop, (∀ ρ' H', J ρ' H' → K' ρ' H') → ∀ Hp Hr : Heap, (∀ k, k ∈ l → Hp k = H k) → (∀ k, k ∉ l → Hr k = H k) → (∀ k, k ∉ l → Hp k = none) → (∀ k, k ∈ l → Hr k = none) → amixt P C PC mt ops.toArray (pinEnd l H K') Hp t ρ Hr)
    (hK : ∀ ρ' H', J ρ' H' → K ρ' H') : adraw P C PC mt ops.toArray K m ρ H := adraw_t l t hl hB (h K hK)
theorem qn {H : Heap} (l : List Int) (hl : l.length ≤ 2000000) (h : ∀ n ∈ l, i64B n) : QCalls Tryz.prog 36 [.sl (l.map D.encInt)] H (str (tailB spB (l.map decZ))) := .inl ⟨_, .cons _ _ _ _ (.refl _) .nil, refNumbers_c l hl h, rfl⟩
theorem tl_size {l : List Int} (hl : l.length ≤ 20) (h : ∀ n ∈ l, i64B n) : (tailB spB (l.map decZ)).size ≤ 440 := by
  have := tailB_le (s := spB) (f := decZ) (B := 21) l l.length fun n hn => decZ_size (h n hn)
  rw [List.take_of_length_le (Nat.le_refl _)] at this
  have h1 : spB.size = 1 := rfl
  rw [h1] at this
  omega
theorem refKind_c (t : VType) (h : OkType t) : PC Tryz.prog 38 [.agg (encVType t)] (str (typeL t)) := by
  have hl1 : ∀ n ∈ [t.count, t.src, t.dst], i64B n := by
    intro n hn
    simp only [List.mem_cons, List.not_mem_nil, or_false] at hn
    rcases hn with rfl | rfl | rfl
    · exact h.count
    · exact h.src
    · exact h.dst
  have hl2 : ∀ n ∈ [t.skills, t.profile, t.start, t.close, t.drive, t.rest, t.fixed, t.perMile, t.perTick], i64B n := by
    intro n hn
    simp only [List.mem_cons, List.not_mem_nil, or_false] at hn
    rcases hn with rfl | rfl | rfl | rfl | rfl | rfl | rfl | rfl | rfl
    · exact h.skills
    · exact h.profile
    · exact h.start
    · exact h.close
    · exact h.drive
    · exact h.rest
    · exact h.fixed
    · exact h.perMile
    · exact h.perTick
  have z0 := h.name
  have z1 := tl_size (l := [t.count, t.src, t.dst]) (by simp) hl1
  have z2 := tl_size (l := [t.skills, t.profile, t.start, t.close, t.drive, t.rest, t.fixed, t.perMile, t.perTick]) (by simp) hl2
  simp only [List.map_cons, List.map_nil] at z1 z2
  have z3 := listS_size h.cl h.cap
  have hT : (⟨#[116, 121, 112, 101, 32]⟩ : ByteArray) ++ t.name ++ tailB spB [decZ t.count, decZ t.src, decZ t.dst] ++ ⟨#[32]⟩ ++ listS t.cap ++ tailB spB [decZ t.skills, decZ t.profile, decZ t.start, decZ t.close, decZ t.drive, decZ t.rest, decZ t.fixed, decZ t.perMile, decZ t.perTick] ++ ⟨#[10]⟩ = typeL t := by
    rw [show (⟨#[116, 121, 112, 101, 32]⟩ : ByteArray) = ⟨#[116, 121, 112, 101]⟩ ++ spB from rfl]
    simp only [typeL, lineS, List.map_cons, List.map_nil, joinB_cons, tailB_cons, tailB_nil, app_nil, app_assoc]
    rfl
  refine PC.body (c := Tryz.f38.body.getD .skip) (fun _ => false) mixed Tryz.func38 rfl (by kernel_rfl) ?_
  unfold Tryz.f38
  simp only [Option.getD_some]
  simp only [go_sem]
  refine adraw_tj [] (.q 0 (.q 1 (.q 2 (.q 3 (.q 4 (.q 5 (.q 6 (.q 7 (.q 8 (.q 13 (.q 14 (.q 17 (.q 18 (.q 19 (.q 20 (.q 21 (.q 22 (.q 23 (.q 24 (.q 25 (.q 26 (.q 27 (.q 28 (.q 29 (.q 30 (.q 31 (.q 32 (.q 33 (.q 34 (.a2 9 (.q 10 (.q 11 (.q 12 (.q 15 (.q 16 (.a1 35 (.q 36 (.q 37 (.q 38 (.q 39 .nil)))))))))) 35 (.a1 9 (.q 10 (.q 11 (.q 12 (.q 15 (.q 16 (.q 36 (.q 37 (.q 38 (.q 39 .nil)))))))))))))))))))))))))))))))))))))))) (fun ρ' _ => ρ' 2 = str (typeL t)) (by simp) (by kernel_rfl) (fun K' hK' Hp Hr hp hr _ hr0 => ?_) ?_
  · simp only [go_sem]
    refine ⟨by rw [i64max]; first | omega | (simp only [ByteArray.size_append, List.size_toArray, List.length_cons, List.length_nil]; omega), ?_, ?_⟩
    · simp only [go_sem]
      refine ⟨_, qn [t.count, t.src, t.dst] (by simp) hl1, ?_⟩
      simp only [go_sem]
      refine ⟨by rw [i64max]; first | omega | (simp only [ByteArray.size_append, List.size_toArray, List.length_cons, List.length_nil]; omega), by rw [i64max]; first | omega | (simp only [ByteArray.size_append, List.size_toArray, List.length_cons, List.length_nil]; omega), _, qi (refList_c t.cap (by have := h.cl; omega) h.cap), ?_⟩
      simp only [go_sem]
      refine ⟨by rw [i64max]; first | omega | (simp only [ByteArray.size_append, List.size_toArray, List.length_cons, List.length_nil]; omega), _, qn [t.skills, t.profile, t.start, t.close, t.drive, t.rest, t.fixed, t.perMile, t.perTick] (by simp) hl2, ?_⟩
      simp only [go_sem]
      refine ⟨by rw [i64max]; first | omega | (simp only [ByteArray.size_append, List.size_toArray, List.length_cons, List.length_nil]; omega), by rw [i64max]; first | omega | (simp only [ByteArray.size_append, List.size_toArray, List.length_cons, List.length_nil]; omega), ?_⟩
      refine pinEnd_i fun _ Hm _ _ => hK' _ _ ?_
      simp only [go_sem]
      rw [hT]
    · simp only [go_sem]
      refine ⟨_, qn [t.count, t.src, t.dst] (by simp) hl1, ?_⟩
      simp only [go_sem]
      refine ⟨by rw [i64max]; first | omega | (simp only [ByteArray.size_append, List.size_toArray, List.length_cons, List.length_nil]; omega), by rw [i64max]; first | omega | (simp only [ByteArray.size_append, List.size_toArray, List.length_cons, List.length_nil]; omega), _, qi (refList_c t.cap (by have := h.cl; omega) h.cap), ?_⟩
      simp only [go_sem]
      refine ⟨by rw [i64max]; first | omega | (simp only [ByteArray.size_append, List.size_toArray, List.length_cons, List.length_nil]; omega), _, qn [t.skills, t.profile, t.start, t.close, t.drive, t.rest, t.fixed, t.perMile, t.perTick] (by simp) hl2, ?_⟩
      simp only [go_sem]
      refine ⟨by rw [i64max]; first | omega | (simp only [ByteArray.size_append, List.size_toArray, List.length_cons, List.length_nil]; omega), by rw [i64max]; first | omega | (simp only [ByteArray.size_append, List.size_toArray, List.length_cons, List.length_nil]; omega), ?_⟩
      refine pinEnd_i fun _ Hm _ _ => hK' _ _ ?_
      simp only [go_sem]
      rw [hT]
  · intro ρ' H' e2
    simp only [go_sem, e2]
    exact .refl _
theorem refOrder_c (o : Order) (h : OkOrder o) : PC Tryz.prog 39 [.agg (encOrder o)] (str (orderL o)) := by
  have hl1 : ∀ n ∈ [o.skills, o.penalty, o.split, o.last, o.now], i64B n := by
    intro n hn
    simp only [List.mem_cons, List.not_mem_nil, or_false] at hn
    rcases hn with rfl | rfl | rfl | rfl | rfl
    · exact h.skills
    · exact h.penalty
    · exact h.split
    · exact h.last
    · exact h.now
  have z0 := h.name
  have z1 := tl_size (l := [o.skills, o.penalty, o.split, o.last, o.now]) (by simp) hl1
  simp only [List.map_cons, List.map_nil] at z1
  have z3 := listS_size h.ll h.load
  have z4 := stopS_size h.pick
  have z5 := stopS_size h.drop
  have hT : ∀ e : ByteArray, (⟨#[111, 114, 100, 101, 114, 32]⟩ : ByteArray) ++ o.name ++ ⟨#[32]⟩ ++ listS o.load ++ ⟨#[32]⟩ ++ stopS o.pick ++ ⟨#[32]⟩ ++ stopS o.drop ++ tailB spB [decZ o.skills, decZ o.penalty, decZ o.split, decZ o.last, decZ o.now] ++ (spB ++ (e ++ nlB)) =
      lineS [⟨#[111, 114, 100, 101, 114]⟩, o.name, listS o.load, stopS o.pick, stopS o.drop, decZ o.skills, decZ o.penalty, decZ o.split, decZ o.last, decZ o.now, e] := by
    intro e
    rw [show (⟨#[111, 114, 100, 101, 114, 32]⟩ : ByteArray) = ⟨#[111, 114, 100, 101, 114]⟩ ++ spB from rfl]
    simp only [lineS, List.map_cons, List.map_nil, joinB_cons, tailB_cons, tailB_nil, app_nil, app_assoc]
    rfl
  refine PC.body (c := Tryz.f39.body.getD .skip) (fun _ => false) mixed Tryz.func39 rfl (by kernel_rfl) ?_
  unfold Tryz.f39
  simp only [Option.getD_some]
  simp only [go_sem]
  refine adraw_m [(0, true), (1, true), (2, true), (3, true), (4, true), (5, true), (6, true), (7, true), (8, true), (9, true), (10, true), (11, true), (12, true), (13, true), (14, true), (15, true), (16, true), (17, true), (18, true), (19, true), (20, true), (21, true), (22, true), (23, true), (24, true), (25, true), (26, true), (27, true), (28, false), (29, true), (30, true), (31, true)] (by kernel_rfl) ?_
  simp only [go_sem]
  refine ⟨by rw [i64max]; first | omega | (simp only [ByteArray.size_append, List.size_toArray, List.length_cons, List.length_nil]; omega), by rw [i64max]; first | omega | (simp only [ByteArray.size_append, List.size_toArray, List.length_cons, List.length_nil]; omega), _, qi (refList_c o.load (by have := h.ll; omega) h.load), ?_⟩
  simp only [go_sem]
  refine ⟨by rw [i64max]; first | omega | (simp only [ByteArray.size_append, List.size_toArray, List.length_cons, List.length_nil]; omega), by rw [i64max]; first | omega | (simp only [ByteArray.size_append, List.size_toArray, List.length_cons, List.length_nil]; omega), _, qi (refStop_c o.pick h.pick), ?_⟩
  simp only [go_sem]
  refine ⟨by rw [i64max]; first | omega | (simp only [ByteArray.size_append, List.size_toArray, List.length_cons, List.length_nil]; omega), by rw [i64max]; first | omega | (simp only [ByteArray.size_append, List.size_toArray, List.length_cons, List.length_nil]; omega), _, qi (refStop_c o.drop h.drop), ?_⟩
  simp only [go_sem]
  refine ⟨by rw [i64max]; first | omega | (simp only [ByteArray.size_append, List.size_toArray, List.length_cons, List.length_nil]; omega), _, qn [o.skills, o.penalty, o.split, o.last, o.now] (by simp) hl1, ?_⟩
  simp only [go_sem]
  refine ⟨by rw [i64max]; first | omega | (simp only [ByteArray.size_append, List.size_toArray, List.length_cons, List.length_nil]; omega), ?_⟩
  cases hoff : o.off with
  | true =>
    refine acond_i (fun _ => ?_) (fun hb => absurd hb (by simp))
    simp only [go_sem]
    refine ⟨by rw [i64max]; first | omega | (simp only [ByteArray.size_append, List.size_toArray, List.length_cons, List.length_nil]; omega), cStr ?_⟩
    rw [show (⟨#[32, 111, 102, 102, 10]⟩ : ByteArray) = spB ++ (⟨#[111, 102, 102]⟩ ++ nlB) from rfl, hT]
    unfold orderL
    rw [hoff]; rfl
  | false =>
    refine acond_i (fun hb => absurd hb (by simp)) (fun _ => ?_)
    simp only [go_sem]
    refine ⟨by rw [i64max]; first | omega | (simp only [ByteArray.size_append, List.size_toArray, List.length_cons, List.length_nil]; omega), cStr ?_⟩
    rw [show (⟨#[32, 111, 110, 10]⟩ : ByteArray) = spB ++ (⟨#[111, 110]⟩ ++ nlB) from rfl, hT]
    unfold orderL
    rw [hoff]; rfl
theorem refPrint_c (x : Instance) (h : OkI x) : PC Tryz.prog 17 [.agg (encInstance x)] (.tup [str (printR x).1, int (printR x).2]) := by
  obtain ⟨z1, z2, z3, z4, z5, z6⟩ := text_sizes x h
  refine PC.body (c := Tryz.f17.body.getD .skip) (fun _ => false) mixed Tryz.func17 rfl (by kernel_rfl) ?_
  unfold Tryz.f17
  simp only [Option.getD_some]
  simp only [go_sem]
  refine PC.use (NC.pc (check_c x h.inB)) ?_
  unfold printR
  cases hc : checkR x with
  | cons f r =>
    simp only [go_sem, List.map_cons]
    refine acond_i (fun hb => ?_) (fun hb => absurd hb (by simp))
    simp only [go_sem]
    refine adraw_q (by rfl) (by kernel_rfl) ?_
    simp only [go_sem, encFault]
    exact ⟨by omega, .refl _⟩
  | nil =>
  simp only [go_sem, List.map_nil, List.length_nil]
  refine acond_i (fun hb => absurd hb (by simp)) (fun hb => ?_)
  simp only [go_sem]
  refine ⟨fun ρ H => ∃ (k : Nat), k ≤ x.net.places.length ∧ ρ 1 = .rp (encInstance x) 0 ∧ ρ 6 = int k ∧ ρ 5 = str (catB ((x.net.places.take k).map placeL)), fun ρ _ => x.net.places.length - natOf (ρ 6), ⟨0, Nat.zero_le _, by simp only [go_sem], (by simp only [go_sem]; rfl), by simp only [go_sem]; rfl⟩, ?_⟩
  rintro ρ H ⟨k, hk, e1, e6, e5⟩
  simp only [go_sem, e1, e6, e5]
  refine acond_i (fun hlt => ?_) (fun hge => ?_)
  · have hlt := ltB hlt
    obtain ⟨y, hy⟩ := getIn hlt
    have b1 := inB hlt
    have hw := wrapS (show k ≤ 4611686018427387904 by have := h.pl; omega)
    have hmy := mem_of_get hy
    have hct := catB_take (f := placeL) hy
    have hsz := catT (f := placeL) h.pl (fun a ha => lineS_size (ws := wPlace a) (by simp [wPlace]) (okPlace (h.inB.place a ha))) k
    have hL : ∀ p : ByteArray, p ++ ⟨#[112, 108, 97, 99, 101, 32]⟩ ++ y ++ ⟨#[10]⟩ = p ++ placeL y := by
      intro p
      rw [show (⟨#[112, 108, 97, 99, 101, 32]⟩ : ByteArray) = ⟨#[112, 108, 97, 99, 101]⟩ ++ spB from rfl]
      simp only [placeL, lineS, joinB_cons, tailB_cons, tailB_nil, app_nil, app_assoc]
      rfl
    have hsy := h.inB.place y hmy
    simp only [go_sem, e1, e6, e5, getD_map hy, b1, hw]
    refine ⟨by rw [i64max]; first | omega | (simp only [ByteArray.size_append, List.size_toArray, List.length_cons, List.length_nil]; omega), by rw [i64max]; first | omega | (simp only [ByteArray.size_append, List.size_toArray, List.length_cons, List.length_nil]; omega), by rw [i64max]; first | omega | (simp only [ByteArray.size_append, List.size_toArray, List.length_cons, List.length_nil]; omega), ⟨k + 1, hlt, rfl, ?_⟩, by simp only [natOf_int]; omega⟩
    rw [hct, hL]
  have hge := geB hk hge
  subst hge
  rw [List.take_of_length_le (Nat.le_refl _)] at e5
  replace e5 : ρ 5 = str (text1 x) := e5
  simp only [go_sem, e1, e5]
  refine ⟨fun ρ H => ∃ (k : Nat), k ≤ x.net.arcs.length ∧ ρ 1 = .rp (encInstance x) 0 ∧ ρ 7 = int k ∧ ρ 5 = str (text1 x ++ catB ((x.net.arcs.take k).map arcL)), fun ρ _ => x.net.arcs.length - natOf (ρ 7), ⟨0, Nat.zero_le _, by simp only [go_sem, e1, e5], (by simp only [go_sem, e1, e5]; rfl), (by simp only [go_sem, e5, List.take_zero, List.map_nil, catB, app_nil])⟩, ?_⟩
  rintro ρ H ⟨k, hk, e1, e7, e5⟩
  simp only [go_sem, e1, e7, e5]
  refine acond_i (fun hlt => ?_) (fun hge => ?_)
  · have hlt := ltB hlt
    obtain ⟨y, hy⟩ := getIn hlt
    have b1 := inB hlt
    have hw := wrapS (show k ≤ 4611686018427387904 by have := h.al; omega)
    have hmy := mem_of_get hy
    have hct := catB_take (f := arcL) hy
    have hsz := catT (f := arcL) h.al (fun a ha => lineS_size (ws := wArc a) (by simp [wArc]) (okArcW (h.arc a ha))) k
    have hoy := h.arc y hmy
    have hL : ∀ p : ByteArray, p ++ ⟨#[97, 114, 99]⟩ ++ tailB spB [decZ y.src, decZ y.dst, decZ y.profile, decZ y.miles] ++ ⟨#[32]⟩ ++ travelS y.travel ++ ⟨#[32]⟩ ++ travelS y.slow ++ ⟨#[10]⟩ = p ++ arcL y := by
      intro p
      simp only [arcL, lineS, joinB_cons, tailB_cons, tailB_nil, app_nil, app_assoc]
      rfl
    have hl1 : ∀ n ∈ [y.src, y.dst, y.profile, y.miles], i64B n := by
      intro n hn
      simp only [List.mem_cons, List.not_mem_nil, or_false] at hn
      rcases hn with rfl | rfl | rfl | rfl
      · exact hoy.src
      · exact hoy.dst
      · exact hoy.profile
      · exact hoy.miles
    have y1 := tl_size (l := [y.src, y.dst, y.profile, y.miles]) (by simp) hl1
    simp only [List.map_cons, List.map_nil] at y1
    have y2 := travelS_size hoy.tl hoy.travel
    have y3 := travelS_size hoy.sl hoy.slow
    simp only [go_sem, e1, e7, e5, getD_map hy, b1]
    refine anew_i fun p hp0 => ?_
    simp only [go_sem, e1, e7, e5, hw]
    refine wputE_v hp0 (by simp [encArc]) fun HGp (Rp : HGp p = some (⟨95, 6, [encArc y]⟩)) N => ?_
    clear N hp0
    simp only [go_sem, e1, e7, e5, hw, Rp]
    refine adraw_p [p] [(0, true), (1, true), (2, true), (3, true), (4, true), (5, true), (6, true), (7, true), (8, true), (9, true), (14, true), (15, true), (19, true), (20, true), (10, false), (11, true), (12, true), (13, true), (16, true), (17, true), (18, true), (21, true), (22, true), (23, true), (24, true)] (by simp [Rp]) (by kernel_rfl) fun Hp Hr hp hr _ hr0 => ?_
    have P_Rp := (hp p (by simp)).trans Rp
    simp only [go_sem, e1, e7, e5, P_Rp]
    refine ⟨by rw [i64max]; first | omega | (simp only [ByteArray.size_append, List.size_toArray, List.length_cons, List.length_nil]; omega), _, qn [y.src, y.dst, y.profile, y.miles] (by simp) hl1, ?_⟩
    simp only [go_sem, e1, e7, e5, P_Rp]
    refine ⟨by rw [i64max]; first | omega | (simp only [ByteArray.size_append, List.size_toArray, List.length_cons, List.length_nil]; omega), by rw [i64max]; first | omega | (simp only [ByteArray.size_append, List.size_toArray, List.length_cons, List.length_nil]; omega), _, qi (refTravel_c _ hoy.tl hoy.travel), ?_⟩
    simp only [go_sem, e1, e7, e5, P_Rp]
    refine ⟨by rw [i64max]; first | omega | (simp only [ByteArray.size_append, List.size_toArray, List.length_cons, List.length_nil]; omega), by rw [i64max]; first | omega | (simp only [ByteArray.size_append, List.size_toArray, List.length_cons, List.length_nil]; omega), _, qi (refTravel_c _ hoy.sl hoy.slow), ?_⟩
    simp only [go_sem, e1, e7, e5, P_Rp]
    refine ⟨by rw [i64max]; first | omega | (simp only [ByteArray.size_append, List.size_toArray, List.length_cons, List.length_nil]; omega), by rw [i64max]; first | omega | (simp only [ByteArray.size_append, List.size_toArray, List.length_cons, List.length_nil]; omega), pinEnd_i fun _ Hm _ _ => ?_⟩
    simp only [go_sem, e1, e7, e5, hw]
    refine ⟨⟨k + 1, hlt, rfl, ?_⟩, by simp only [natOf_int]; omega⟩
    rw [hct, ← app_assoc, hL]
  have hge := geB hk hge
  subst hge
  rw [List.take_of_length_le (Nat.le_refl _)] at e5
  replace e5 : ρ 5 = str (text2 x) := e5
  simp only [go_sem, e1, e5]
  refine ⟨fun ρ H => ∃ (k : Nat), k ≤ x.types.length ∧ ρ 1 = .rp (encInstance x) 0 ∧ ρ 9 = int k ∧ ρ 5 = str (text2 x ++ catB ((x.types.take k).map typeL)), fun ρ _ => x.types.length - natOf (ρ 9), ⟨0, Nat.zero_le _, by simp only [go_sem, e1, e5], (by simp only [go_sem, e1, e5]; rfl), (by simp only [go_sem, e5, List.take_zero, List.map_nil, catB, app_nil])⟩, ?_⟩
  rintro ρ H ⟨k, hk, e1, e9, e5⟩
  simp only [go_sem, e1, e9, e5]
  refine acond_i (fun hlt => ?_) (fun hge => ?_)
  · have hlt := ltB hlt
    obtain ⟨y, hy⟩ := getIn hlt
    have b1 := inB hlt
    have hw := wrapS (show k ≤ 4611686018427387904 by have := h.tl; omega)
    have hmy := mem_of_get hy
    have hct := catB_take (f := typeL) hy
    have hsz := catT (f := typeL) h.tl (fun a ha => lineS_size (ws := wType a) (by simp [wType]) (okTypeW (h.type a ha))) k
    have hoy := h.type y hmy
    have y1 := lineS_size (ws := wType y) (by simp [wType]) (okTypeW hoy)
    replace y1 : (typeL y).size ≤ 2000000000 := y1
    simp only [go_sem, e1, e9, e5, getD_map hy, b1]
    refine PC.use (refKind_c y hoy) ?_
    simp only [go_sem, e1, e9, e5, hw]
    refine ⟨by rw [i64max]; first | omega | (simp only [ByteArray.size_append, List.size_toArray, List.length_cons, List.length_nil]; omega), ⟨k + 1, hlt, rfl, ?_⟩, by simp only [natOf_int]; omega⟩
    rw [hct, ← app_assoc]
  have hge := geB hk hge
  subst hge
  rw [List.take_of_length_le (Nat.le_refl _)] at e5
  replace e5 : ρ 5 = str (text3 x) := e5
  simp only [go_sem, e1, e5]
  refine ⟨fun ρ H => ∃ (k : Nat), k ≤ x.orders.length ∧ ρ 1 = .rp (encInstance x) 0 ∧ ρ 10 = int k ∧ ρ 5 = str (text3 x ++ catB ((x.orders.take k).map orderL)), fun ρ _ => x.orders.length - natOf (ρ 10), ⟨0, Nat.zero_le _, by simp only [go_sem, e1, e5], (by simp only [go_sem, e1, e5]; rfl), (by simp only [go_sem, e5, List.take_zero, List.map_nil, catB, app_nil])⟩, ?_⟩
  rintro ρ H ⟨k, hk, e1, e10, e5⟩
  simp only [go_sem, e1, e10, e5]
  refine acond_i (fun hlt => ?_) (fun hge => ?_)
  · have hlt := ltB hlt
    obtain ⟨y, hy⟩ := getIn hlt
    have b1 := inB hlt
    have hw := wrapS (show k ≤ 4611686018427387904 by have := h.ol; omega)
    have hmy := mem_of_get hy
    have hct := catB_take (f := orderL) hy
    have hsz := catT (f := orderL) h.ol (fun a ha => lineS_size (ws := wOrder a) (by simp [wOrder]) (okOrderW (h.order a ha))) k
    have hoy := h.order y hmy
    have y1 := lineS_size (ws := wOrder y) (by simp [wOrder]) (okOrderW hoy)
    replace y1 : (orderL y).size ≤ 2000000000 := y1
    simp only [go_sem, e1, e10, e5, getD_map hy, b1]
    refine PC.use (refOrder_c y hoy) ?_
    simp only [go_sem, e1, e10, e5, hw]
    refine ⟨by rw [i64max]; first | omega | (simp only [ByteArray.size_append, List.size_toArray, List.length_cons, List.length_nil]; omega), ⟨k + 1, hlt, rfl, ?_⟩, by simp only [natOf_int]; omega⟩
    rw [hct, ← app_assoc]
  have hge := geB hk hge
  subst hge
  rw [List.take_of_length_le (Nat.le_refl _)] at e5
  replace e5 : ρ 5 = str (text4 x) := e5
  simp only [go_sem, e1, e5]
  refine ⟨fun ρ H => ∃ (k : Nat), k ≤ x.apart.length ∧ ρ 1 = .rp (encInstance x) 0 ∧ ρ 11 = int k ∧ ρ 5 = str (text4 x ++ catB ((x.apart.take k).map apartL)), fun ρ _ => x.apart.length - natOf (ρ 11), ⟨0, Nat.zero_le _, by simp only [go_sem, e1, e5], (by simp only [go_sem, e1, e5]; rfl), (by simp only [go_sem, e5, List.take_zero, List.map_nil, catB, app_nil])⟩, ?_⟩
  rintro ρ H ⟨k, hk, e1, e11, e5⟩
  simp only [go_sem, e1, e11, e5]
  refine acond_i (fun hlt => ?_) (fun hge => ?_)
  · have hlt := ltB hlt
    obtain ⟨y, hy⟩ := getIn hlt
    have b1 := inB hlt
    have hw := wrapS (show k ≤ 4611686018427387904 by have := h.ap; omega)
    have hmy := mem_of_get hy
    have hct := catB_take (f := apartL) hy
    have hsz := catT (f := apartL) h.ap (fun a ha => lineS_size (ws := wApart a) (by simp [wApart]) (okApartW (h.apart a ha))) k
    have hoy := h.apart y hmy
    have hL : ∀ p : ByteArray, p ++ ⟨#[97, 112, 97, 114, 116]⟩ ++ tailB spB [decZ y.a, decZ y.b] ++ ⟨#[10]⟩ = p ++ apartL y := by
      intro p
      simp only [apartL, lineS, joinB_cons, tailB_cons, tailB_nil, app_nil, app_assoc]
      rfl
    have hl1 : ∀ n ∈ [y.a, y.b], i64B n := by
      intro n hn
      simp only [List.mem_cons, List.not_mem_nil, or_false] at hn
      rcases hn with rfl | rfl
      · exact hoy.1
      · exact hoy.2
    have y1 := tl_size (l := [y.a, y.b]) (by simp) hl1
    simp only [List.map_cons, List.map_nil] at y1
    simp only [go_sem, e1, e11, e5]
    refine adraw_m [(0, true), (1, true), (2, true), (3, true), (4, true), (5, true), (6, true), (7, true), (8, true), (9, true), (10, true), (11, true), (12, true), (13, true), (14, false), (15, true), (16, true), (17, true), (18, true)] (by kernel_rfl) ?_
    simp only [go_sem, e1, e11, e5, getD_map hy, b1]
    refine ⟨by rw [i64max]; first | omega | (simp only [ByteArray.size_append, List.size_toArray, List.length_cons, List.length_nil]; omega), by omega, by omega, _, qn [y.a, y.b] (by simp) hl1, ?_⟩
    simp only [go_sem, e1, e11, e5, hw]
    refine ⟨by rw [i64max]; first | omega | (simp only [ByteArray.size_append, List.size_toArray, List.length_cons, List.length_nil]; omega), by rw [i64max]; first | omega | (simp only [ByteArray.size_append, List.size_toArray, List.length_cons, List.length_nil]; omega), ⟨k + 1, hlt, rfl, ?_⟩, by simp only [natOf_int]; omega⟩
    rw [hct, ← app_assoc, hL]
  have hge := geB hk hge
  subst hge
  rw [List.take_of_length_le (Nat.le_refl _)] at e5
  replace e5 : ρ 5 = str (text5 x) := e5
  simp only [go_sem, e1, e5]
  refine ⟨fun ρ H => ∃ (k : Nat), k ≤ x.before.length ∧ ρ 1 = .rp (encInstance x) 0 ∧ ρ 12 = int k ∧ ρ 5 = str (text5 x ++ catB ((x.before.take k).map beforeL)), fun ρ _ => x.before.length - natOf (ρ 12), ⟨0, Nat.zero_le _, by simp only [go_sem, e1, e5], (by simp only [go_sem, e1, e5]; rfl), (by simp only [go_sem, e5, List.take_zero, List.map_nil, catB, app_nil])⟩, ?_⟩
  rintro ρ H ⟨k, hk, e1, e12, e5⟩
  simp only [go_sem, e1, e12, e5]
  refine acond_i (fun hlt => ?_) (fun hge => ?_)
  · have hlt := ltB hlt
    obtain ⟨y, hy⟩ := getIn hlt
    have b1 := inB hlt
    have hw := wrapS (show k ≤ 4611686018427387904 by have := h.be; omega)
    have hmy := mem_of_get hy
    have hct := catB_take (f := beforeL) hy
    have hsz := catT (f := beforeL) h.be (fun a ha => lineS_size (ws := wBefore a) (by simp [wBefore]) (okBeforeW (h.before a ha))) k
    have hoy := h.before y hmy
    have hL : ∀ p : ByteArray, p ++ ⟨#[98, 101, 102, 111, 114, 101]⟩ ++ tailB spB [decZ y.a, decZ y.b] ++ ⟨#[10]⟩ = p ++ beforeL y := by
      intro p
      simp only [beforeL, lineS, joinB_cons, tailB_cons, tailB_nil, app_nil, app_assoc]
      rfl
    have hl1 : ∀ n ∈ [y.a, y.b], i64B n := by
      intro n hn
      simp only [List.mem_cons, List.not_mem_nil, or_false] at hn
      rcases hn with rfl | rfl
      · exact hoy.1
      · exact hoy.2
    have y1 := tl_size (l := [y.a, y.b]) (by simp) hl1
    simp only [List.map_cons, List.map_nil] at y1
    simp only [go_sem, e1, e12, e5]
    refine adraw_m [(0, true), (1, true), (2, true), (3, true), (4, true), (5, true), (6, true), (7, true), (8, true), (9, true), (10, true), (11, true), (12, true), (13, true), (14, false), (15, true), (16, true), (17, true), (18, true)] (by kernel_rfl) ?_
    simp only [go_sem, e1, e12, e5, getD_map hy, b1]
    refine ⟨by rw [i64max]; first | omega | (simp only [ByteArray.size_append, List.size_toArray, List.length_cons, List.length_nil]; omega), by omega, by omega, _, qn [y.a, y.b] (by simp) hl1, ?_⟩
    simp only [go_sem, e1, e12, e5, hw]
    refine ⟨by rw [i64max]; first | omega | (simp only [ByteArray.size_append, List.size_toArray, List.length_cons, List.length_nil]; omega), by rw [i64max]; first | omega | (simp only [ByteArray.size_append, List.size_toArray, List.length_cons, List.length_nil]; omega), ⟨k + 1, hlt, rfl, ?_⟩, by simp only [natOf_int]; omega⟩
    rw [hct, ← app_assoc, hL]
  have hge := geB hk hge
  subst hge
  rw [List.take_of_length_le (Nat.le_refl _)] at e5
  replace e5 : ρ 5 = str (text6 x) := e5
  simp only [go_sem, e1, e5]
  refine ⟨by rw [i64max]; first | omega | (simp only [ByteArray.size_append, List.size_toArray, List.length_cons, List.length_nil]; omega), ?_⟩
  have hE : (textI x).size = (text6 x).size + 4 := by
    unfold textI
    rw [ByteArray.size_append]; rfl
  have h4 : (#[101, 110, 100, 10] : Array UInt8).size = 4 := rfl
  rw [h4]
  refine acond_i (fun hb2 => ?_) (fun hb2 => ?_)
  · have hb3 : ((text6 x).size + 4 : Nat) > (65536 : Int) := by simpa using hb2
    simp only [go_sem]
    rw [if_pos (by omega)]
    exact .refl _
  · have hb3 : ¬ ((text6 x).size + 4 : Nat) > (65536 : Int) := by simpa using hb2
    simp only [go_sem, e5]
    rw [if_neg (by omega)]
    exact .refl _
end Go.Proofs.YtjohkkigiacbjaaGreatDoor.Sc
