/- Texts joined by a program: ScI, ScJ. -/
import Derived.Test.YtjohkkigiacbjaaGreatDoorSp27

section
set_option linter.unusedSimpArgs false
set_option linter.unusedVariables false
namespace Go.Proofs.YtjohkkigiacbjaaGreatDoor.Sc
open Go.Aw Go.Aw.D Go.Proofs Ty
open Go.RowKit (Below)
open Go.Proofs.YtjohkkigiacbjaaGreatDoor
open Go.Proofs.YtjohkkigiacbjaaGreatDoor.Nw (ltB geB cB)
set_option maxRecDepth 100000
def zeroStp (s : Stop) : Bool := s.place == 0 && (s.start == 0 && (s.close == 0 && (s.service == 0 && true)))
def zeroO (o : Order) : Bool := (o.name.toList == (⟨#[]⟩ : ByteArray).toList) && ((o.load.length : Int) == 0) && zeroStp o.pick && zeroStp o.drop && (o.skills == 0) && (o.penalty == 0) && (o.split == 0) && (o.last == 0) && (o.now == 0) && !o.off
theorem ezero_c (o : Order) : PC Tryz.prog 110 [.agg (encOrder o)] (boo (zeroO o)) := by
  refine PC.body (c := Tryz.f110.body.getD .skip) (fun _ => false) mixed Tryz.func110 rfl (by kernel_rfl) ?_
  unfold Tryz.f110
  simp only [Option.getD_some]
  simp only [go_sem]
  exact .refl _
theorem refBlank_c (o : Order) : PC Tryz.prog 120 [.agg (encOrder o)] (boo (zeroO o)) := by
  refine PC.body (c := Tryz.f120.body.getD .skip) (fun _ => false) mixed Tryz.func120 rfl (by kernel_rfl) ?_
  unfold Tryz.f120
  simp only [Option.getD_some]
  simp only [go_sem]
  exact .refl _
def wordR (k : Int) : ByteArray := if k = 1 then ⟨#[111, 114, 100, 101, 114]⟩ else if k = 2 then ⟨#[99, 97, 110, 99, 101, 108]⟩ else if k = 3 then ⟨#[100, 101, 108, 97, 121]⟩ else if k = 4 then ⟨#[98, 114, 101, 97, 107]⟩ else if k = 5 then ⟨#[115, 104, 105, 102, 116]⟩ else ⟨#[]⟩
theorem eword_c (k : Int) : PC Tryz.prog 60 [int k] (str (wordR k)) := by
  refine PC.body (c := Tryz.f60.body.getD .skip) (fun _ => false) mixed Tryz.func60 rfl (by kernel_rfl) ?_
  unfold Tryz.f60
  simp only [Option.getD_some]
  simp only [go_sem]
  refine anew_i fun j hj => ?_
  simp only [go_sem]
  refine wputE_n (updH_same _ _ _) (by simp) ?_
  have R : ∀ H q, updH H j q j = q := fun H q => updH_same _ _ _
  simp only [go_sem, R]
  refine acond_i (fun hb => ?_) (fun hb => ?_)
  · simp only [go_sem]
    have hk : k < 0 ∨ 6 ≤ k := by simpa using hb
    unfold wordR
    rw [if_neg (by omega), if_neg (by omega), if_neg (by omega), if_neg (by omega), if_neg (by omega)]
    exact .refl _
  · have hk : ¬ (k < 0 ∨ 6 ≤ k) := by simpa using hb
    have hk : k = 0 ∨ k = 1 ∨ k = 2 ∨ k = 3 ∨ k = 4 ∨ k = 5 := by omega
    clear hb
    rcases hk with rfl | rfl | rfl | rfl | rfl | rfl <;> (simp only [go_sem, R]; exact ⟨by omega, .refl _⟩)
theorem refWord_c (k : Int) : PC Tryz.prog 74 [int k] (str (wordR k)) := by
  refine PC.body (c := Tryz.f74.body.getD .skip) (fun _ => false) mixed Tryz.func74 rfl (by kernel_rfl) ?_
  unfold Tryz.f74
  simp only [Option.getD_some]
  simp only [go_sem]
  unfold wordR
  refine acond_i (fun hb => ?_) (fun hb => ?_)
  · simp only [go_sem]
    rw [if_pos (by simpa using hb)]; exact .refl _
  rw [if_neg (by simpa using hb)]
  simp only [go_sem]
  refine acond_i (fun hb => ?_) (fun hb => ?_)
  · simp only [go_sem]
    rw [if_pos (by simpa using hb)]; exact .refl _
  rw [if_neg (by simpa using hb)]
  simp only [go_sem]
  refine acond_i (fun hb => ?_) (fun hb => ?_)
  · simp only [go_sem]
    rw [if_pos (by simpa using hb)]; exact .refl _
  rw [if_neg (by simpa using hb)]
  simp only [go_sem]
  refine acond_i (fun hb => ?_) (fun hb => ?_)
  · simp only [go_sem]
    rw [if_pos (by simpa using hb)]; exact .refl _
  rw [if_neg (by simpa using hb)]
  simp only [go_sem]
  refine acond_i (fun hb => ?_) (fun hb => ?_)
  · simp only [go_sem]
    rw [if_pos (by simpa using hb)]; exact .refl _
  rw [if_neg (by simpa using hb)]
  simp only [go_sem]
  exact .refl _
def cleanE (e : D.Event) : Bool := if e.kind = 1 then (e.a == 0 && e.b == 0) && e.n == 0 else if e.kind = 3 then zeroO e.order else if e.kind = 5 then e.b == 0 && zeroO e.order else (e.b == 0 && e.n == 0) && zeroO e.order
theorem gdB {H : Heap} {f : FuncId} {a : AV} {c : Bool} (h : PC Tryz.prog f [a] (boo c)) : QCalls Tryz.prog f [a] H (boo c) := .inl ⟨_, .cons _ _ _ _ (.refl _) .nil, h, rfl⟩
theorem eclean_c (e : D.Event) : PC Tryz.prog 61 [.agg (encEvent e)] (boo (cleanE e)) := by
  refine PC.body (c := Tryz.f61.body.getD .skip) (fun _ => false) mixed Tryz.func61 rfl (by kernel_rfl) ?_
  unfold Tryz.f61
  simp only [Option.getD_some]
  simp only [go_sem]
  unfold cleanE
  refine acond_i (fun hb => ?_) (fun hb => ?_)
  · simp only [go_sem]
    rw [if_pos (by simpa using hb)]; exact .refl _
  rw [if_neg (by simpa using hb)]
  simp only [go_sem]
  refine acond_i (fun hb => ?_) (fun hb => ?_)
  · simp only [go_sem]
    rw [if_pos (by simpa using hb)]
    refine PC.use (ezero_c e.order) ?_
    simp only [go_sem]
    exact .refl _
  rw [if_neg (by simpa using hb)]
  simp only [go_sem]
  refine acond_i (fun hb => ?_) (fun hb => ?_)
  · simp only [go_sem]
    rw [if_pos (by simpa using hb)]
    refine ⟨_, fun _ => gdB (ezero_c e.order), ?_⟩
    simp only [go_sem]
    exact .refl _
  rw [if_neg (by simpa using hb)]
  simp only [go_sem]
  refine ⟨_, fun _ => gdB (ezero_c e.order), ?_⟩
  simp only [go_sem]
  exact .refl _
theorem refClean_c (e : D.Event) (hk : 1 ≤ e.kind ∧ e.kind ≤ 5) : PC Tryz.prog 73 [.agg (encEvent e)] (boo (cleanE e)) := by
  have hk5 : e.kind = 1 ∨ e.kind = 2 ∨ e.kind = 3 ∨ e.kind = 4 ∨ e.kind = 5 := by omega
  refine PC.body (c := Tryz.f73.body.getD .skip) (fun _ => false) mixed Tryz.func73 rfl (by kernel_rfl) ?_
  unfold Tryz.f73
  simp only [Option.getD_some]
  simp only [go_sem]
  rcases hk5 with h | h | h | h | h <;> unfold cleanE <;> simp only [h]
  · refine acond_i (fun _ => ?_) (fun hb => absurd hb (by decide))
    simp only [go_sem]
    exact .refl _
  · refine acond_i (fun hb => absurd hb (by decide)) (fun _ => ?_)
    simp only [go_sem]
    refine acond_i (fun _ => ?_) (fun hb => absurd hb (by decide))
    simp only [go_sem]
    refine acond_i (fun _ => ?_) (fun hb => absurd hb (by decide))
    simp only [go_sem]
    refine ⟨_, fun _ => gdB (refBlank_c e.order), ?_⟩
    simp only [go_sem]
    exact .refl _
  · refine acond_i (fun hb => absurd hb (by decide)) (fun _ => ?_)
    simp only [go_sem]
    refine acond_i (fun hb => absurd hb (by decide)) (fun _ => ?_)
    simp only [go_sem]
    refine acond_i (fun hb => absurd hb (by decide)) (fun _ => ?_)
    simp only [go_sem]
    refine acond_i (fun hb => absurd hb (by decide)) (fun _ => ?_)
    simp only [go_sem]
    refine PC.use (refBlank_c e.order) ?_
    simp only [go_sem]
    exact .refl _
  · refine acond_i (fun hb => absurd hb (by decide)) (fun _ => ?_)
    simp only [go_sem]
    refine acond_i (fun hb => absurd hb (by decide)) (fun _ => ?_)
    simp only [go_sem]
    refine acond_i (fun _ => ?_) (fun hb => absurd hb (by decide))
    simp only [go_sem]
    refine ⟨_, fun _ => gdB (refBlank_c e.order), ?_⟩
    simp only [go_sem]
    exact .refl _
  · refine acond_i (fun hb => absurd hb (by decide)) (fun _ => ?_)
    simp only [go_sem]
    refine acond_i (fun hb => absurd hb (by decide)) (fun _ => ?_)
    simp only [go_sem]
    refine acond_i (fun hb => absurd hb (by decide)) (fun _ => ?_)
    simp only [go_sem]
    refine acond_i (fun _ => ?_) (fun hb => absurd hb (by decide))
    simp only [go_sem]
    refine ⟨_, fun _ => gdB (refBlank_c e.order), ?_⟩
    simp only [go_sem]
    exact .refl _
def numsE (e : D.Event) : List Int := if e.kind = 3 then [e.at_, e.a, e.b, e.n] else if e.kind = 5 then [e.at_, e.a, e.n] else if e.kind = 4 then [e.at_, e.a] else if e.kind = 2 then [e.at_, e.a] else [e.at_]
def stopN (s : Stop) : List Int := [s.place, s.start, s.close, s.service]
def orderN (o : Order) : List Int := (o.load.length : Int) :: o.load ++ stopN o.pick ++ stopN o.drop ++ [o.skills, o.penalty, o.split, o.last, o.now]
theorem estop_c (s : Stop) : PC Tryz.prog 113 [.agg (encStop s)] (.sl ((stopN s).map D.encInt)) := by
  refine PC.body (c := Tryz.f113.body.getD .skip) (fun _ => false) mixed Tryz.func113 rfl (by kernel_rfl) ?_
  unfold Tryz.f113
  simp only [Option.getD_some]
  simp only [go_sem]
  exact .refl _
theorem refEStop_c (s : Stop) : PC Tryz.prog 77 [.agg (encStop s)] (.sl ((stopN s).map D.encInt)) := by
  refine PC.body (c := Tryz.f77.body.getD .skip) (fun _ => false) mixed Tryz.func77 rfl (by kernel_rfl) ?_
  unfold Tryz.f77
  simp only [Option.getD_some]
  simp only [go_sem]
  exact .refl _
abbrev intRow (l : List Int) : Row := ⟨3, 1, l.map D.encInt⟩
theorem enumbers_c (e : D.Event) : PC Tryz.prog 62 [.agg (encEvent e)] (.sl ((numsE e).map D.encInt)) := by
  refine PC.body (c := Tryz.f62.body.getD .skip) (fun t => t == 6) mixed Tryz.func62 rfl (by kernel_rfl) ?_
  unfold Tryz.f62
  simp only [Option.getD_some]
  simp only [go_sem]
  refine anew_g fun i HGi hi0 (Ri : HGi i = some (intRow [e.at_])) N => ?_
  clear N hi0
  simp only [go_sem, Ri]
  unfold numsE
  have fin : ∀ (l : List Int) {H : Heap} {j : Nat}, H j = some ⟨3, 1, [e.at_].map D.encInt ++ l.map D.encInt⟩ → Conv H (.os j) (.sl ((e.at_ :: l).map D.encInt)) := fun l H j h => .row _ _ _ h (ConvE.refl _)
  refine acond_i (fun hb => ?_) (fun hb => ?_)
  · simp only [go_sem, Ri]
    refine wappE_i Ri ⟨rfl, rfl⟩ (by simp only [go_sem]) (by simp only [List.length_map, List.length_cons, List.length_nil]; omega) fun j' hj' => ?_
    simp only [go_sem]
    rw [if_pos (by simpa using hb)]
    exact fin [e.a, e.b, e.n] (updH_same _ _ _)
  rw [if_neg (by simpa using hb)]
  simp only [go_sem, Ri]
  refine acond_i (fun hb => ?_) (fun hb => ?_)
  · simp only [go_sem, Ri]
    refine wappE_i Ri ⟨rfl, rfl⟩ (by simp only [go_sem]) (by simp only [List.length_map, List.length_cons, List.length_nil]; omega) fun j' hj' => ?_
    simp only [go_sem]
    rw [if_pos (by simpa using hb)]
    exact fin [e.a, e.n] (updH_same _ _ _)
  rw [if_neg (by simpa using hb)]
  simp only [go_sem, Ri]
  refine acond_i (fun hb => ?_) (fun hb => ?_)
  · simp only [go_sem, Ri]
    refine wappE_i Ri ⟨rfl, rfl⟩ (by simp only [go_sem]) (by simp only [List.length_map, List.length_cons, List.length_nil]; omega) fun j' hj' => ?_
    simp only [go_sem]
    rw [if_pos (by simpa using hb)]
    exact fin [e.a] (updH_same _ _ _)
  rw [if_neg (by simpa using hb)]
  simp only [go_sem, Ri]
  refine acond_i (fun hb => ?_) (fun hb => ?_)
  · simp only [go_sem, Ri]
    refine wappE_i Ri ⟨rfl, rfl⟩ (by simp only [go_sem]) (by simp only [List.length_map, List.length_cons, List.length_nil]; omega) fun j' hj' => ?_
    simp only [go_sem]
    rw [if_pos (by simpa using hb)]
    exact fin [e.a] (updH_same _ _ _)
  rw [if_neg (by simpa using hb)]
  simp only [go_sem, Ri]
  exact .row _ _ _ Ri (ConvE.refl _)
theorem all1 (l : List Int) : allLen 1 (l.map D.encInt) := allLen_iff.2 fun c hc => by
  obtain ⟨x, _, rfl⟩ := List.mem_map.1 hc
  rfl
theorem eorder_c (o : Order) (hl : o.load.length ≤ 1048576) : PC Tryz.prog 64 [.agg (encOrder o)] (.sl ((orderN o).map D.encInt)) := by
  refine PC.body (c := Tryz.f64.body.getD .skip) (fun t => t == 7) mixed Tryz.func64 rfl (by kernel_rfl) ?_
  unfold Tryz.f64
  simp only [Option.getD_some]
  simp only [go_sem]
  refine anew_g fun i HGi hi0 (Ri : HGi i = some (intRow [(o.load.length : Int)])) N => ?_
  clear N hi0
  simp only [go_sem, Ri]
  refine wappE_i Ri ⟨rfl, rfl⟩ (all1 _) (by simp only [List.length_append, List.length_map, List.length_cons, List.length_nil, stopN]; omega) fun j1 hj10 => ?_
  generalize hP : updH (updH _ i none) j1 _ = HP
  have R1 : HP j1 = some (⟨3, 1, [(o.load.length : Int)].map D.encInt ++ o.load.map D.encInt⟩) := upS hP
  clear hP hj10
  simp only [go_sem, R1]
  refine PC.use (estop_c o.pick) ?_
  simp only [go_sem, R1]
  refine wappE_i R1 ⟨rfl, rfl⟩ (all1 _) (by simp only [List.length_append, List.length_map, List.length_cons, List.length_nil, stopN]; omega) fun j2 hj20 => ?_
  generalize hP : updH (updH _ j1 none) j2 _ = HP
  have R2 : HP j2 = some (⟨3, 1, [(o.load.length : Int)].map D.encInt ++ o.load.map D.encInt ++ (stopN o.pick).map D.encInt⟩) := upS hP
  clear hP hj20
  simp only [go_sem, R2]
  refine PC.use (estop_c o.drop) ?_
  simp only [go_sem, R2]
  refine wappE_i R2 ⟨rfl, rfl⟩ (all1 _) (by simp only [List.length_append, List.length_map, List.length_cons, List.length_nil, stopN]; omega) fun j3 hj30 => ?_
  generalize hP : updH (updH _ j2 none) j3 _ = HP
  have R3 : HP j3 = some (⟨3, 1, [(o.load.length : Int)].map D.encInt ++ o.load.map D.encInt ++ (stopN o.pick).map D.encInt ++ (stopN o.drop).map D.encInt⟩) := upS hP
  clear hP hj30
  simp only [go_sem, R3]
  refine wappE_i R3 ⟨rfl, rfl⟩ (by simp only [go_sem]) (by simp only [List.length_append, List.length_map, List.length_cons, List.length_nil, stopN]; omega) fun j4 hj40 => ?_
  simp only [go_sem]
  rw [show (orderN o).map D.encInt = [(o.load.length : Int)].map D.encInt ++ o.load.map D.encInt ++ (stopN o.pick).map D.encInt ++ (stopN o.drop).map D.encInt ++ [o.skills, o.penalty, o.split, o.last, o.now].map D.encInt from by simp [orderN]]
  exact .row _ _ _ (updH_same _ _ _) (ConvE.refl _)
structure OkE (e : D.Event) : Prop where
  at_ : i64B e.at_
  a : i64B e.a
  b : i64B e.b
  n : i64B e.n
  order : OkOrder e.order
theorem numsE_ok {e : D.Event} (h : OkE e) : (∀ n ∈ numsE e, i64B n) ∧ (numsE e).length ≤ 4 := by
  unfold numsE
  have h1 := h.at_
  have h2 := h.a
  have h3 := h.b
  have h4 := h.n
  split
  · exact ⟨by simp [h1, h2, h3, h4], by simp⟩
  split
  · exact ⟨by simp [h1, h2, h4], by simp⟩
  split
  · exact ⟨by simp [h1, h2], by simp⟩
  split
  · exact ⟨by simp [h1, h2], by simp⟩
  · exact ⟨by simp [h1], by simp⟩
theorem orderN_ok {o : Order} (h : OkOrder o) (h3 : o.load.length ≤ 3) : (∀ n ∈ orderN o, i64B n) ∧ (orderN o).length ≤ 17 := by
  refine ⟨fun n hn => ?_, by simp [orderN, stopN]; omega⟩
  simp only [orderN, stopN, List.mem_append, List.mem_cons, List.not_mem_nil, or_false] at hn
  rcases hn with (((rfl | hn) | rfl | rfl | rfl | rfl) | rfl | rfl | rfl | rfl) | rfl | rfl | rfl | rfl | rfl
  · exact ⟨by omega, by omega⟩
  · exact h.load n hn
  · exact h.pick.1
  · exact h.pick.2.1
  · exact h.pick.2.2.1
  · exact h.pick.2.2.2
  · exact h.drop.1
  · exact h.drop.2.1
  · exact h.drop.2.2.1
  · exact h.drop.2.2.2
  · exact h.skills
  · exact h.penalty
  · exact h.split
  · exact h.last
  · exact h.now
def wordsE (e : D.Event) : List ByteArray := wordR e.kind :: (numsE e).map decZ
def wordsO (e : D.Event) : List ByteArray := wordsE e ++ e.order.name :: (orderN e.order).map decZ
def evR (e : D.Event) : ByteArray × Int :=
  if e.kind < 1 ∨ 5 < e.kind then (⟨#[]⟩, 8) else if cleanE e = false then (⟨#[]⟩, 2)
  else if e.kind = 1 then (if e.order.off = true then (⟨#[]⟩, 9) else if nameR e.order.name = false then (⟨#[]⟩, 5) else if 3 < e.order.load.length then (⟨#[]⟩, 4) else (joinB spB (wordsO e), 0))
  else (joinB spB (wordsE e), 0)
theorem wordR_size (k : Int) : (wordR k).size ≤ 6 := by
  unfold wordR
  repeat' split
  all_goals decide
theorem wordR_none {k : Int} : ((wordR k).toList == (⟨#[]⟩ : ByteArray).toList) = decide (k < 1 ∨ 5 < k) := by
  by_cases h : k < 1 ∨ 5 < k
  · rw [decide_eq_true h]
    unfold wordR
    rw [if_neg (by omega), if_neg (by omega), if_neg (by omega), if_neg (by omega), if_neg (by omega)]
    decide +kernel
  · rw [decide_eq_false h]
    have hk : k = 1 ∨ k = 2 ∨ k = 3 ∨ k = 4 ∨ k = 5 := by omega
    rcases hk with rfl | rfl | rfl | rfl | rfl <;> decide +kernel
theorem wordsE_size {e : D.Event} (h : OkE e) : ∀ a ∈ wordsE e, a.size ≤ 1048576 := by
  intro a ha
  rcases List.mem_cons.1 ha with rfl | ha
  · exact Nat.le_trans (wordR_size _) (by decide)
  · obtain ⟨n, hn, rfl⟩ := List.mem_map.1 ha
    exact Nat.le_trans (decZ_size ((numsE_ok h).1 n hn)) (by decide)
theorem wordsO_size {e : D.Event} (h : OkE e) (h3 : e.order.load.length ≤ 3) : ∀ a ∈ wordsO e, a.size ≤ 1048576 := by
  intro a ha
  rcases List.mem_append.1 ha with ha | ha
  · exact wordsE_size h a ha
  rcases List.mem_cons.1 ha with rfl | ha
  · exact h.order.name
  · obtain ⟨n, hn, rfl⟩ := List.mem_map.1 ha
    exact Nat.le_trans (decZ_size ((orderN_ok h.order h3).1 n hn)) (by decide)
theorem wordsE_len {e : D.Event} (h : OkE e) : (wordsE e).length ≤ 5 := by
  have := (numsE_ok h).2
  simp only [wordsE, List.length_cons, List.length_map]; omega
theorem wordsO_len {e : D.Event} (h : OkE e) (h3 : e.order.load.length ≤ 3) : (wordsO e).length ≤ 23 := by
  have := (orderN_ok h.order h3).2
  have := wordsE_len h
  simp only [wordsO, List.length_append, List.length_cons, List.length_map]; omega
theorem ePrint_c (e : D.Event) (h : OkE e) : PC Tryz.prog 34 [.agg (encEvent e)] (.tup [str (evR e).1, int (evR e).2]) := by
  have hn1 := wordsE_size h
  have hn2 := wordsE_len h
  refine PC.body (c := Tryz.f34.body.getD .skip) (fun t => t == 22) mixed Tryz.func34 rfl (by kernel_rfl) ?_
  unfold Tryz.f34
  simp only [Option.getD_some]
  simp only [go_sem]
  refine PC.use (eword_c e.kind) ?_
  simp only [go_sem]
  rw [wordR_none]
  unfold evR
  refine acond_i (fun hb => ?_) (fun hb => ?_)
  · simp only [go_sem]
    rw [if_pos (by simpa using hb)]; exact .refl _
  rw [if_neg (by simpa using hb)]
  simp only [go_sem]
  refine PC.use (eclean_c e) ?_
  simp only [go_sem]
  refine acond_i (fun hb => ?_) (fun hb => ?_)
  · simp only [go_sem]
    rw [if_pos (by simpa using hb)]; exact .refl _
  rw [if_neg (by simpa using hb)]
  simp only [go_sem]
  refine anew_g fun i HGi hi0 (Ri : HGi i = some (strRow [wordR e.kind])) N => ?_
  clear N hi0
  simp only [go_sem, Ri]
  refine PC.use (enumbers_c e) ?_
  simp only [go_sem, Ri, List.length_map]
  refine ⟨fun ρ H => ∃ (k : Nat) (i : Nat), k ≤ (numsE e).length ∧ ρ 1 = .rp (encEvent e) 0 ∧ ρ 24 = .sl ((numsE e).map D.encInt) ∧ ρ 25 = int ((numsE e).length : Nat) ∧ ρ 26 = int k ∧ ρ 5 = .os i ∧ H i = some (strRow (wordR e.kind :: ((numsE e).take k).map decZ)), fun ρ _ => (numsE e).length - natOf (ρ 26), ⟨0, i, Nat.zero_le _, by simp only [go_sem], by simp only [go_sem], by simp only [go_sem, List.length_map], (by simp only [go_sem]; rfl), by simp only [go_sem], Ri⟩, ?_⟩
  rintro ρ H ⟨k, i, hk, e1, e24, e25, e26, e5, Ri⟩
  simp only [go_sem, e1, e24, e25, e26, e5]
  refine acond_i (fun hlt => ?_) (fun hge => ?_)
  · have hlt := ltB hlt
    obtain ⟨n, hn⟩ := getIn hlt
    have b1 := inB hlt
    have hwr := wrapS (show k ≤ 4611686018427387904 by have := (numsE_ok h).2; omega)
    have hst : ((numsE e).take (k + 1)).map decZ = ((numsE e).take k).map decZ ++ [decZ n] := by rw [take_succ hn]; simp
    simp only [go_sem, e1, e24, e25, e26, e5, getD_map hn, b1]
    refine PC.use (decimalZ_c n ((numsE_ok h).1 n (mem_of_get hn))) ?_
    simp only [go_sem, e1, e24, e25, e26, e5]
    refine wappE_i Ri ⟨rfl, rfl⟩ (by simp only [go_sem]) (by have := (numsE_ok h).2; simp only [List.length_map, List.length_cons, List.length_nil, List.length_take]; omega) fun j' hj' => ?_
    simp only [go_sem, e1, e24, e25, e26, e5, hwr]
    refine ⟨⟨k + 1, j', hlt, rfl, rfl, (updH_same _ _ _).trans ?_⟩, by simp only [natOf_int]; omega⟩
    rw [hst]
    simp only [strRow, List.map_append, List.map_cons, List.cons_append]
    rfl
  have hge := geB hk hge
  have hk4 := (numsE_ok h).2
  subst hge
  rw [List.take_of_length_le (Nat.le_refl _)] at Ri
  replace Ri : H i = some (strRow (wordsE e)) := Ri
  simp only [go_sem, e1, e24, e25, e26, e5]
  refine acond_i (fun hb => ?_) (fun hb => ?_)
  · rw [if_pos (by simpa using hb)]
    simp only [go_sem, e1, e24, e25, e26, e5, Ri]
    refine anew_i fun p hp0 => ?_
    simp only [go_sem, e1, e24, e25, e26, e5, Ri]
    refine wputE_v hp0 (by simp [encOrder]) fun HGp (Rp : HGp p = some (⟨55, 16, [encOrder e.order]⟩)) N => ?_
    replace Ri := N Ri
    obtain ⟨ne_i_p, Ri⟩ := Ri
    clear N hp0
    simp only [go_sem, e1, e24, e25, e26, e5, Rp, Ri]
    refine acond_i (fun hb1 => ?_) (fun hb1 => ?_)
    · simp only [go_sem]
      rw [if_pos hb1]; exact .refl _
    rw [if_neg (by rw [hb1]; simp)]
    simp only [go_sem, e1, e24, e25, e26, e5, Rp, Ri]
    refine PC.use (Nw.name_c e.order.name h.order.name) ?_
    simp only [go_sem, e1, e24, e25, e26, e5, Rp, Ri]
    refine acond_i (fun hb2 => ?_) (fun hb2 => ?_)
    · simp only [go_sem]
      rw [if_pos (by simpa using hb2)]; exact .refl _
    rw [if_neg (by simpa using hb2)]
    simp only [go_sem, e1, e24, e25, e26, e5, Rp, Ri, List.length_map]
    refine acond_i (fun hb3 => ?_) (fun hb3 => ?_)
    · simp only [go_sem]
      have h3 : ((e.order.load.length : Nat) : Int) > 3 := by simpa using hb3
      rw [if_pos (by omega)]; exact .refl _
    have h3 : ¬ ((e.order.load.length : Nat) : Int) > 3 := by simpa using hb3
    rw [if_neg (by omega)]
    replace h3 : e.order.load.length ≤ 3 := by omega
    simp only [go_sem, e1, e24, e25, e26, e5, Rp, Ri]
    refine wappE_i Ri ⟨rfl, rfl⟩ (by simp only [go_sem]) (by simp only [List.length_map, List.length_cons, List.length_nil]; omega) fun i2 hi20 => ?_
    have Ri2 : updH (updH HGp i none) i2 (some ⟨9, 1, (wordsE e).map D.encStr ++ [[str e.order.name]]⟩) i2 = some (strRow (wordsE e ++ [e.order.name])) := by
      rw [updH_same]
      simp only [strRow, List.map_append]
      rfl
    generalize updH (updH HGp i none) i2 _ = H2 at *
    simp only [go_sem, e1, e24, e25, e26, e5]
    refine PC.use (eorder_c e.order h.order.ll) ?_
    simp only [go_sem, Ri2, List.length_map]
    clear e5 e24 e25 e26 Ri
    refine ⟨fun ρ H => ∃ (k : Nat) (i : Nat), k ≤ (orderN e.order).length ∧ ρ 62 = .sl ((orderN e.order).map D.encInt) ∧ ρ 63 = int ((orderN e.order).length : Nat) ∧ ρ 64 = int k ∧ ρ 5 = .os i ∧ H i = some (strRow (wordsE e ++ e.order.name :: ((orderN e.order).take k).map decZ)), fun ρ _ => (orderN e.order).length - natOf (ρ 64), ⟨0, i2, Nat.zero_le _, by simp only [go_sem], by simp only [go_sem, List.length_map], (by simp only [go_sem]; rfl), by simp only [go_sem], Ri2⟩, ?_⟩
    rintro ρ H ⟨k, i, hk, e62, e63, e64, e5, Ri⟩
    simp only [go_sem, e62, e63, e64, e5]
    refine acond_i (fun hlt => ?_) (fun hge => ?_)
    · have hlt := ltB hlt
      obtain ⟨n, hn⟩ := getIn hlt
      have b1 := inB hlt
      have hwr := wrapS (show k ≤ 4611686018427387904 by have := (orderN_ok h.order h3).2; omega)
      have hst : ((orderN e.order).take (k + 1)).map decZ = ((orderN e.order).take k).map decZ ++ [decZ n] := by rw [take_succ hn]; simp
      simp only [go_sem, e62, e63, e64, e5, getD_map hn, b1]
      refine PC.use (decimalZ_c n ((orderN_ok h.order h3).1 n (mem_of_get hn))) ?_
      simp only [go_sem, e62, e63, e64, e5]
      refine wappE_i Ri ⟨rfl, rfl⟩ (by simp only [go_sem]) (by have := (orderN_ok h.order h3).2; simp only [List.length_map, List.length_append, List.length_cons, List.length_nil, List.length_take]; omega) fun j' hj' => ?_
      simp only [go_sem, e62, e63, e64, e5, hwr]
      refine ⟨⟨k + 1, j', hlt, rfl, rfl, (updH_same _ _ _).trans ?_⟩, by simp only [natOf_int]; omega⟩
      rw [hst]
      simp only [strRow, List.map_append, List.map_cons, List.cons_append, List.append_assoc]
      rfl
    have hge := geB hk hge
    subst hge
    rw [List.take_of_length_le (Nat.le_refl _)] at Ri
    replace Ri : H i = some (strRow (wordsO e)) := Ri
    simp only [go_sem, e62, e63, e64, e5]
    have hl := wordsO_len h h3
    refine QFlat.use ⟨[.sl ((wordsO e).map D.encStr)], .cons _ _ _ _ (.row _ _ _ Ri (ConvE.refl _)) .nil, tjoin_c _ (by omega) ?_, rfl⟩ ?_
    · refine Nat.le_trans (joinB_size (s := spB) (wordsO e) (wordsO_size h h3)) ?_
      show (wordsO e).length * (1 + 1048576) ≤ _
      omega
    · simp only [go_sem]
      exact .refl _
  · rw [if_neg (by simpa using hb)]
    simp only [go_sem, e5]
    refine QFlat.use ⟨[.sl ((wordsE e).map D.encStr)], .cons _ _ _ _ (.row _ _ _ Ri (ConvE.refl _)) .nil, tjoin_c _ (by omega) ?_, rfl⟩ ?_
    · refine Nat.le_trans (joinB_size (s := spB) (wordsE e) hn1) ?_
      show (wordsE e).length * (1 + 1048576) ≤ _
      omega
    · simp only [go_sem]
      exact .refl _
end Go.Proofs.YtjohkkigiacbjaaGreatDoor.Sc
end

section
set_option linter.unusedSimpArgs false
set_option linter.unusedVariables false
namespace Go.Proofs.YtjohkkigiacbjaaGreatDoor.Sc
open Go.Aw Go.Aw.D Go.Proofs Ty
open Go.RowKit (Below)
open Go.Proofs.YtjohkkigiacbjaaGreatDoor
open Go.Proofs.YtjohkkigiacbjaaGreatDoor.Nw (ltB geB cB)
set_option maxRecDepth 100000
theorem refDecimals_c (l : List Int) (hl : l.length ≤ 2000000) (hz : ∀ n ∈ l, i64B n) : PC Tryz.prog 75 [.sl (l.map D.encInt)] (str (tailB spB (l.map decZ))) := by
  refine PC.body (c := Tryz.f75.body.getD .skip) (fun _ => false) mixed Tryz.func75 rfl (by kernel_rfl) ?_
  unfold Tryz.f75
  simp only [Option.getD_some]
  simp only [go_sem]
  refine ⟨fun ρ H => ∃ (k : Nat), k ≤ l.length ∧ ρ 0 = .sl (l.map D.encInt) ∧ ρ 4 = int k ∧ ρ 3 = str (tailB spB ((l.take k).map decZ)), fun ρ _ => l.length - natOf (ρ 4), ⟨0, Nat.zero_le _, by simp only [go_sem], (by simp only [go_sem]; rfl), by simp only [go_sem]; rfl⟩, ?_⟩
  rintro ρ H ⟨k, hk, e0, e4, e3⟩
  simp only [go_sem, e0, e4, e3]
  refine acond_i (fun hlt => ?_) (fun hge => ?_)
  · have hlt := ltB hlt
    obtain ⟨a, ha⟩ := getIn hlt
    have b1 := inB hlt
    have hj := Nat.le_trans (tailB_le (s := spB) (f := decZ) (B := 21) l k fun n hn => decZ_size (hz n hn)) (show l.length * ((spB : ByteArray).size + 21) ≤ 44000000 by show l.length * (1 + 21) ≤ _; omega)
    have hsa := decZ_size (hz a (mem_of_get ha))
    simp only [go_sem, e0, e4, e3, getD_map ha, b1]
    refine PC.use (refDecimal_c a (hz a (mem_of_get ha))) ?_
    simp only [go_sem, e0, e4, e3, wrapS (show k ≤ 4611686018427387904 by omega)]
    refine ⟨by rw [i64max]; first | omega | (simp only [ByteArray.size_append, List.size_toArray, List.length_cons, List.length_nil]; omega), by rw [i64max]; first | omega | (simp only [ByteArray.size_append, List.size_toArray, List.length_cons, List.length_nil]; omega), ⟨k + 1, hlt, rfl, ?_⟩, by simp only [natOf_int]; omega⟩
    rw [tailB_take ha]; rfl
  · have hge := geB hk hge
    subst hge
    simp only [go_sem, e0, e4, e3]
    rw [List.take_of_length_le (Nat.le_refl _)]
    exact .refl _
theorem qdd {H : Heap} (l : List Int) (hl : l.length ≤ 2000000) (h : ∀ n ∈ l, i64B n) : QCalls Tryz.prog 75 [.sl (l.map D.encInt)] H (str (tailB spB (l.map decZ))) := .inl ⟨_, .cons _ _ _ _ (.refl _) .nil, refDecimals_c l hl h, rfl⟩
theorem one_ok {n : Int} (h : i64B n) : ∀ m ∈ [n], i64B m := fun m hm => by simp at hm; subst hm; exact h
theorem joinS (w : ByteArray) (l : List ByteArray) : joinB spB (w :: l) = w ++ tailB spB l := rfl
theorem tail1 {a : ByteArray} {l : List ByteArray} : tailB spB (a :: l) = tailB spB [a] ++ tailB spB l := tailB_app spB [a] l
theorem evT0 {e : D.Event} {l : List Int} (h : numsE e = e.at_ :: l) : wordR e.kind ++ tailB spB [decZ e.at_] ++ tailB spB (l.map decZ) = joinB spB (wordsE e) := by
  unfold wordsE
  rw [h, joinS, List.map_cons, app_assoc, ← tail1]
theorem refEPrint_c (e : D.Event) (h : OkE e) : PC Tryz.prog 41 [.agg (encEvent e)] (.tup [str (evR e).1, int (evR e).2]) := by
  have hw6 := wordR_size e.kind
  have z1 := tl_size (l := [e.at_]) (by simp) (one_ok h.at_)
  simp only [List.map_cons, List.map_nil] at z1
  refine PC.body (c := Tryz.f41.body.getD .skip) (fun _ => false) mixed Tryz.func41 rfl (by kernel_rfl) ?_
  unfold Tryz.f41
  simp only [Option.getD_some]
  simp only [go_sem]
  unfold evR
  refine acond_i (fun hb => ?_) (fun hb => ?_)
  · simp only [go_sem]
    rw [if_pos (by simpa using hb)]; exact .refl _
  have hk : ¬ (e.kind < 1 ∨ 5 < e.kind) := by simpa using hb
  rw [if_neg hk]
  have hk' : 1 ≤ e.kind ∧ e.kind ≤ 5 := by omega
  simp only [go_sem]
  refine PC.use (refClean_c e hk') ?_
  simp only [go_sem]
  refine acond_i (fun hb => ?_) (fun hb => ?_)
  · simp only [go_sem]
    rw [if_pos (by simpa using hb)]; exact .refl _
  rw [if_neg (by simpa using hb)]
  simp only [go_sem]
  refine adraw_m [(0, true), (1, true), (2, true), (3, true), (4, true), (5, false), (6, true), (7, true), (8, true)] (by kernel_rfl) ?_
  simp only [go_sem]
  refine ⟨_, qi (refWord_c e.kind), ?_⟩
  simp only [go_sem]
  refine ⟨_, qdd [e.at_] (by simp) (one_ok h.at_), ?_⟩
  simp only [go_sem]
  refine ⟨by rw [i64max]; first | omega | (simp only [ByteArray.size_append, List.size_toArray, List.length_cons, List.length_nil]; omega), ?_⟩
  have hk5 : e.kind = 1 ∨ e.kind = 2 ∨ e.kind = 3 ∨ e.kind = 4 ∨ e.kind = 5 := by omega
  rcases hk5 with hk1 | hk1 | hk1 | hk1 | hk1
  · -- an order
    rw [if_pos hk1]
    refine acond_i (fun hb => absurd hb (by rw [hk1]; decide)) (fun _ => ?_)
    simp only [go_sem]
    refine acond_i (fun hb => absurd hb (by rw [hk1]; decide)) (fun _ => ?_)
    simp only [go_sem]
    refine acond_i (fun hb => absurd hb (by rw [hk1]; decide)) (fun _ => ?_)
    simp only [go_sem]
    refine acond_i (fun hb => absurd hb (by rw [hk1]; decide)) (fun _ => ?_)
    simp only [go_sem]
    refine anew_i fun p hp0 => ?_
    simp only [go_sem]
    refine wputE_v hp0 (by simp [encOrder]) fun HGp (Rp : HGp p = some (⟨55, 16, [encOrder e.order]⟩)) N => ?_
    clear N hp0
    simp only [go_sem, Rp]
    refine acond_i (fun hb1 => ?_) (fun hb1 => ?_)
    · simp only [go_sem]
      rw [if_pos hb1]; exact .refl _
    rw [if_neg (by rw [hb1]; simp)]
    simp only [go_sem, Rp]
    refine PC.use (name_c e.order.name h.order.name) ?_
    simp only [go_sem, Rp]
    refine acond_i (fun hb2 => ?_) (fun hb2 => ?_)
    · simp only [go_sem]
      rw [if_pos (by simpa using hb2)]; exact .refl _
    rw [if_neg (by simpa using hb2)]
    simp only [go_sem, Rp, List.length_map]
    refine acond_i (fun hb3 => ?_) (fun hb3 => ?_)
    · simp only [go_sem]
      have h3 : ((e.order.load.length : Nat) : Int) > 3 := by simpa using hb3
      rw [if_pos (by omega)]; exact .refl _
    have h3 : ¬ ((e.order.load.length : Nat) : Int) > 3 := by simpa using hb3
    rw [if_neg (by omega)]
    replace h3 : e.order.load.length ≤ 3 := by omega
    have ho := orderN_ok h.order h3
    have w1 : i64B (e.order.load.length : Int) := ⟨by omega, by omega⟩
    have w3 : ∀ n ∈ stopN e.order.pick, i64B n := fun n hn => ho.1 n (by simp [orderN, hn])
    have w4 : ∀ n ∈ stopN e.order.drop, i64B n := fun n hn => ho.1 n (by simp [orderN, hn])
    have w5 : ∀ n ∈ [e.order.skills, e.order.penalty, e.order.split, e.order.last, e.order.now], i64B n := fun n hn => ho.1 n (by simp only [orderN, List.mem_append]; exact .inr hn)
    have x1 := tl_size (l := [(e.order.load.length : Int)]) (by simp) (one_ok w1)
    have x2 := tl_size (l := e.order.load) (by omega) h.order.load
    have x3 := tl_size (l := stopN e.order.pick) (by simp [stopN]) w3
    have x4 := tl_size (l := stopN e.order.drop) (by simp [stopN]) w4
    have x5 := tl_size (l := [e.order.skills, e.order.penalty, e.order.split, e.order.last, e.order.now]) (by simp) w5
    simp only [List.map_cons, List.map_nil] at x1 x5
    have x0 := h.order.name
    have hn : numsE e = e.at_ :: [] := by unfold numsE; rw [if_neg (by omega), if_neg (by omega), if_neg (by omega), if_neg (by omega)]
    have hT : wordR e.kind ++ tailB spB [decZ e.at_] ++ (⟨#[32]⟩ ++ e.order.name ++ tailB spB [decZ (e.order.load.length : Int)] ++ tailB spB (e.order.load.map decZ) ++ tailB spB ((stopN e.order.pick).map decZ) ++ tailB spB ((stopN e.order.drop).map decZ)) ++ tailB spB [decZ e.order.skills, decZ e.order.penalty, decZ e.order.split, decZ e.order.last, decZ e.order.now] = joinB spB (wordsO e) := by
      have h1 : wordsO e = wordR e.kind :: ([decZ e.at_] ++ [e.order.name] ++ [decZ (e.order.load.length : Int)] ++ e.order.load.map decZ ++ (stopN e.order.pick).map decZ ++ (stopN e.order.drop).map decZ ++ [decZ e.order.skills, decZ e.order.penalty, decZ e.order.split, decZ e.order.last, decZ e.order.now]) := by
        unfold wordsO wordsE orderN
        rw [hn]
        simp
      rw [h1, joinS]
      simp only [tailB_app, app_assoc]
      rw [tailB_cons spB e.order.name, tailB_nil, app_nil]
      simp only [app_assoc]
      rfl
    simp only [go_sem, Rp]
    refine adraw_p [p] [(0, true), (1, true), (2, true), (3, true), (4, true), (5, true), (6, true), (10, true), (11, true), (14, true), (15, true), (19, true), (20, true), (7, false), (8, true), (9, true), (12, true), (13, true), (16, false), (17, true), (18, true), (21, false), (22, true), (23, true), (24, true), (25, true)] (by simp [Rp]) (by kernel_rfl) fun Hp Hr hp hr _ hr0 => ?_
    have P_Rp := (hp p (by simp)).trans Rp
    simp only [go_sem, P_Rp]
    refine ⟨by rw [i64max]; first | omega | (simp only [ByteArray.size_append, List.size_toArray, List.length_cons, List.length_nil]; omega), _, qdd [(e.order.load.length : Int)] (by simp) (one_ok w1), ?_⟩
    simp only [go_sem, P_Rp]
    refine ⟨by rw [i64max]; first | omega | (simp only [ByteArray.size_append, List.size_toArray, List.length_cons, List.length_nil]; omega), _, qdd e.order.load (by omega) h.order.load, ?_⟩
    simp only [go_sem, P_Rp]
    refine ⟨by rw [i64max]; first | omega | (simp only [ByteArray.size_append, List.size_toArray, List.length_cons, List.length_nil]; omega), ?_⟩
    refine PC.use (refEStop_c e.order.pick) ?_
    simp only [go_sem, P_Rp]
    refine ⟨_, qdd (stopN e.order.pick) (by simp [stopN]) w3, ?_⟩
    simp only [go_sem, P_Rp]
    refine ⟨by rw [i64max]; first | omega | (simp only [ByteArray.size_append, List.size_toArray, List.length_cons, List.length_nil]; omega), ?_⟩
    refine PC.use (refEStop_c e.order.drop) ?_
    simp only [go_sem, P_Rp]
    refine ⟨_, qdd (stopN e.order.drop) (by simp [stopN]) w4, ?_⟩
    simp only [go_sem, P_Rp]
    refine ⟨by rw [i64max]; first | omega | (simp only [ByteArray.size_append, List.size_toArray, List.length_cons, List.length_nil]; omega), by rw [i64max]; first | omega | (simp only [ByteArray.size_append, List.size_toArray, List.length_cons, List.length_nil]; omega), ?_⟩
    refine pinEnd_i fun _ Hm hm1 hm2 => ?_
    have Rm := (hm1 p (by simp)).trans Rp
    simp only [go_sem, Rm]
    refine PC.use (refDecimals_c [e.order.skills, e.order.penalty, e.order.split, e.order.last, e.order.now] (by simp) w5) ?_
    simp only [go_sem]
    refine ⟨by rw [i64max]; first | omega | (simp only [ByteArray.size_append, List.size_toArray, List.length_cons, List.length_nil]; omega), ?_⟩
    rw [← hT]
    exact .refl _
  · rw [if_neg (by omega)]
    have hn : numsE e = e.at_ :: [e.a] := by unfold numsE; rw [if_neg (by omega), if_neg (by omega), if_neg (by omega), if_pos hk1]
    have z2 := tl_size (l := [e.a]) (by simp) (one_ok h.a)
    simp only [List.map_cons, List.map_nil] at z2
    refine acond_i (fun _ => ?_) (fun hb => absurd hb (by rw [hk1]; decide))
    simp only [go_sem]
    refine acond_i (fun _ => ?_) (fun hb => absurd hb (by rw [hk1]; decide))
    simp only [go_sem]
    refine PC.use (refDecimals_c [e.a] (by simp) (one_ok h.a)) ?_
    simp only [go_sem]
    refine ⟨by rw [i64max]; first | omega | (simp only [ByteArray.size_append, List.size_toArray, List.length_cons, List.length_nil]; omega), ?_⟩
    rw [← evT0 hn]
    exact .refl _
  · rw [if_neg (by omega)]
    have hn : numsE e = e.at_ :: [e.a, e.b, e.n] := by unfold numsE; rw [if_pos hk1]
    have hl : ∀ m ∈ [e.a, e.b, e.n], i64B m := by
      intro m hm
      simp only [List.mem_cons, List.not_mem_nil, or_false] at hm
      rcases hm with rfl | rfl | rfl
      · exact h.a
      · exact h.b
      · exact h.n
    have z2 := tl_size (l := [e.a, e.b, e.n]) (by simp) hl
    simp only [List.map_cons, List.map_nil] at z2
    refine acond_i (fun hb => absurd hb (by rw [hk1]; decide)) (fun _ => ?_)
    simp only [go_sem]
    refine acond_i (fun hb => absurd hb (by rw [hk1]; decide)) (fun _ => ?_)
    simp only [go_sem]
    refine acond_i (fun _ => ?_) (fun hb => absurd hb (by rw [hk1]; decide))
    simp only [go_sem]
    refine PC.use (refDecimals_c [e.a, e.b, e.n] (by simp) hl) ?_
    simp only [go_sem]
    refine ⟨by rw [i64max]; first | omega | (simp only [ByteArray.size_append, List.size_toArray, List.length_cons, List.length_nil]; omega), ?_⟩
    rw [← evT0 hn]
    exact .refl _
  · rw [if_neg (by omega)]
    have hn : numsE e = e.at_ :: [e.a] := by unfold numsE; rw [if_neg (by omega), if_neg (by omega), if_pos hk1]
    have z2 := tl_size (l := [e.a]) (by simp) (one_ok h.a)
    simp only [List.map_cons, List.map_nil] at z2
    refine acond_i (fun hb => absurd hb (by rw [hk1]; decide)) (fun _ => ?_)
    simp only [go_sem]
    refine acond_i (fun _ => ?_) (fun hb => absurd hb (by rw [hk1]; decide))
    simp only [go_sem]
    refine PC.use (refDecimals_c [e.a] (by simp) (one_ok h.a)) ?_
    simp only [go_sem]
    refine ⟨by rw [i64max]; first | omega | (simp only [ByteArray.size_append, List.size_toArray, List.length_cons, List.length_nil]; omega), ?_⟩
    rw [← evT0 hn]
    exact .refl _
  · rw [if_neg (by omega)]
    have hn : numsE e = e.at_ :: [e.a, e.n] := by unfold numsE; rw [if_neg (by omega), if_pos hk1]
    have hl : ∀ m ∈ [e.a, e.n], i64B m := by
      intro m hm
      simp only [List.mem_cons, List.not_mem_nil, or_false] at hm
      rcases hm with rfl | rfl
      · exact h.a
      · exact h.n
    have z2 := tl_size (l := [e.a, e.n]) (by simp) hl
    simp only [List.map_cons, List.map_nil] at z2
    refine acond_i (fun hb => absurd hb (by rw [hk1]; decide)) (fun _ => ?_)
    simp only [go_sem]
    refine acond_i (fun hb => absurd hb (by rw [hk1]; decide)) (fun _ => ?_)
    simp only [go_sem]
    refine acond_i (fun hb => absurd hb (by rw [hk1]; decide)) (fun _ => ?_)
    simp only [go_sem]
    refine acond_i (fun _ => ?_) (fun hb => absurd hb (by rw [hk1]; decide))
    simp only [go_sem]
    refine PC.use (refDecimals_c [e.a, e.n] (by simp) hl) ?_
    simp only [go_sem]
    refine ⟨by rw [i64max]; first | omega | (simp only [ByteArray.size_append, List.size_toArray, List.length_cons, List.length_nil]; omega), ?_⟩
    rw [← evT0 hn]
    exact .refl _
end Go.Proofs.YtjohkkigiacbjaaGreatDoor.Sc
end
