/- Texts joined by a program: SbB, SbC, SbD. -/
import Derived.RangeFuncBox
import Derived.RangeFuncNested
import Derived.RangeFuncLeaves
import Derived.Shelf.Abstract
import Derived.WalkKit
import Derived.OwnWalkIn
import Derived.TacticsInMore
import Derived.LoopNIn
import Derived.LoopIn
import Derived.Maps.AppendAt
import Derived.Test.YtbcfajfngdmgnaaGreatDoorZh14
import Derived.Test.YtbcfajfngdmgnaaGreatDoorZh32

section
set_option linter.unusedSimpArgs false
set_option linter.unusedVariables false
namespace Go.Proofs.YtbcfajfngdmgnaaGreatDoor.Nu
open Go.Aw Go.Aw.D Go.Proofs Ty Go.Nu Go.Sb Go.RowKit Go.Shelf
attribute [local go_sem] Oper.semAt_some
def KeepB (b : Nat) (A B : World) : Prop := ∀ v, Boxed A b 3 v → Boxed B b 3 v
structure Enum (s N : Nat) (e : Nat → Nat) : Prop where
  pos : 0 < N
  zero : e 0 = 0
  le : ∀ i, e i ≤ s
  mono : ∀ i, i + 1 < N → e i < e (i + 1)
  last : ∀ i, i < N → (e i = s ↔ i + 1 = N)
  step : ∀ i, i + 1 < N → bits .and .i64 (wrap64 ((e i : Int) - (s : Int))) (s : Int) = (e (i + 1) : Nat)
set_option maxRecDepth 100000 in
set_option maxHeartbeats 1000000 in
theorem sub1_in (F : Fence) (n : Nat) (h6 : F.fn 289) (hro : F.round = none) (hn : 1 ≤ n) (l Bn : Nat) (s N : Nat) (e : Nat → Nat) (hE : Enum s N e) (J Jx : List Nat → World → Prop)
    (hY : ∀ pre x W, J pre W → pre.length < N → YieldAt F (n - 1) Tryz.prog l #[.int .i64 (x : Nat)] W fun r W' =>
      (r = .returned (.bool true) ∧ J (pre ++ [x]) W' ∧ KeepB Bn W W') ∨ (r = .returned (.bool false) ∧ Jx (pre ++ [x]) W'))
    (W : World) (hBn : Boxed W Bn 3 (.int .i64 s)) (h0 : J [] W) :
    CallsIn F n Tryz.prog 289 #[.func (.yield l) #[] #[], .pointer (some ⟨Bn, 0, none⟩)] W fun r W' => (∃ v, r = .returned v) ∧
      ((∃ ys, ys = (List.range N).map e ∧ J ys W') ∨ (∃ pre, pre <+: (List.range N).map e ∧ Jx pre W')) := by
  refine callsIn_of_wp Tryz.func289 rfl h6 ?_ hro
  simp only [Tryz.ntmps289, List.size_toArray, List.length_cons, List.length_nil, Nat.reduceAdd, Nat.reduceSub, Array.replicate_succ, Array.replicate_zero, List.push_toArray, List.append_toArray, List.nil_append, List.cons_append]
  gi_wp2
  gi_loopw [3] (fun p wr => ∃ i v : Nat, p = .int .i64 (v : Nat) ∧ e i = v ∧ i < N ∧ Boxed wr Bn 3 (.int .i64 s) ∧ J ((List.range i).map e) wr)
    (fun p wr => s - (intOf p).toNat)
  case atStart =>
    exact ⟨0, 0, rfl, hE.zero, hE.pos, hBn, h0⟩
  case round =>
    obtain ⟨i, v, rfl, hv, hi, hB, hJs⟩ := hrel
    have hpre : (List.range i).map e ++ [v] = (List.range (i + 1)).map e := by rw [List.range_succ, List.map_append, ← hv]; rfl
    obtain ⟨fn, tmps, assign, body, hy, hR⟩ := hY _ v wr hJs (by simp; exact hi)
    gi_wp2
    refine hR.mono ?_
    rintro r W3 (⟨rfl, hJ3, hk3⟩ | ⟨rfl, hJx3⟩)
    · have hB3' := hk3 _ hB
      have hB3 := hB3'.cell
      gi_wp2
      · have hx : v ≠ s := fun h => by subst h; rename_i hh; simp at hh
        have hi1 : i + 1 < N := by
          rcases (by omega : i + 1 < N ∨ i + 1 = N) with h | h
          · exact h
          · exact absurd (hv ▸ (hE.last i hi).2 h) hx
        have hst := hE.step i hi1
        have hmo := hE.mono i hi1
        have hle := hE.le (i + 1)
        rw [hv] at hst hmo
        rw [hst]
        refine ⟨⟨i + 1, e (i + 1), rfl, rfl, hi1, hB3', hpre ▸ hJ3⟩, ?_⟩
        simp only [intOf]
        omega
      · have hx : v = s := by rename_i hh; simp at hh; omega
        have hN : i + 1 = N := (hE.last i hi).1 (hv.trans hx)
        go_end0
        exact ⟨⟨_, rfl⟩, .inl ⟨_, rfl, by rw [← hN, ← hpre]; exact hJ3⟩⟩
    · gi_wp2
      go_end0
      refine ⟨⟨_, rfl⟩, .inr ⟨_, ?_, hJx3⟩⟩
      rw [hpre]
      rw [show List.range (i + 1) = (List.range N).take (i + 1) by rw [List.take_range, Nat.min_eq_left (by omega)], List.map_take]
      exact List.take_prefix _ _
set_option maxHeartbeats 1000000 in
theorem subs_in (F : Fence) (n : Nat) (h5 : F.fn 258) (hro : F.round = none) (s : Nat) (w : World) :
    CallsIn F n Tryz.prog 258 #[.int .i64 s] w fun e w' => e = .returned (.func (.func 289) #[] #[.pointer (some ⟨w.heap.size, 0, none⟩)]) ∧ w' = w.alloc (.cells #[.int .i64 s] 3) := by
  refine callsIn_of_wp Tryz.func258 rfl h5 ?_ hro
  simp only [Tryz.ntmps258, List.size_toArray, List.length_cons, List.length_nil, Nat.reduceAdd, Nat.reduceSub, Array.replicate_succ, Array.replicate_zero, List.push_toArray, List.append_toArray, List.nil_append, List.cons_append]
  gi_wp2
  go_ret
  exact ⟨rfl, rfl⟩
theorem sub_stops (F : Fence) (n : Nat) (h6 : F.fn 289) (hro : F.round = none) (hn : 1 ≤ n) (Bn : Nat) (s N : Nat) (e : Nat → Nat) (hE : Enum s N e) (w : World) (hc : Boxed w Bn 3 (.int .i64 s)) :
    SeqStopsK F n Tryz.prog 289 #[.pointer (some ⟨Bn, 0, none⟩)] (fun x : Nat => #[Value.int .i64 x]) (KeepB Bn) (fun ys => ys = (List.range N).map e) (fun pre => pre <+: (List.range N).map e) N w := fun l J Jx W hW _ _ hY h0 =>
  sub1_in F n h6 hro hn l Bn s N e hE J Jx hY W ((hW.block Bn hc.lt).trans hc) h0
theorem keepB_t {b : Nat} {A B C : World} (h : KeepB b A B) (k : KeepB b B C) : KeepB b A C := fun v hv => k v (h v hv)
theorem keepB_b {b : Nat} (W : World) (l : Nat) (o o' : Obj) (hl : W.heap[l]? = some o) (ho : o.isCells = false) : KeepB b W (W.putObj l o') := fun v hv =>
  hv.kept (grownBy_putObj' W l o') (fun e => by
    cases e
    rw [show W.heap[b]? = _ from hv] at hl
    cases hl
    cases ho)
theorem ownsRow_weak {W : World} {b b' : Nat} {e : TypeId} {size : Nat} {v : Value} {k : Nat} {xs : List Value} (h : W.ownsRow b e size v k xs) (hb : b' ≤ b) : W.ownsRow b' e size v k xs := by
  refine ⟨h.1, ?_⟩
  rcases h.2 with h0 | ⟨g, cap, cur, hv, hg, r⟩
  · exact .inl h0
  · exact .inr ⟨g, cap, cur, hv, Nat.le_trans hb hg, r⟩
theorem always_in (F : Fence) (n : Nat) (h5 : F.fn 212) (hro : F.round = none) (s : Nat) (w : World) :
    CallsIn F n Tryz.prog 212 #[.int .i64 s] w fun e w' => e = .returned (.bool true) ∧ w' = w := by
  refine callsIn_of_wp Tryz.func212 rfl h5 ?_ hro
  simp only [Tryz.ntmps212, List.size_toArray, List.length_cons, List.length_nil, Nat.reduceAdd, Nat.reduceSub, Array.replicate_succ, Array.replicate_zero, List.push_toArray, List.append_toArray, List.nil_append, List.cons_append]
  gi_wp2
  go_ret
  exact ⟨rfl, rfl⟩
theorem slice_of {W : World} {base : Nat} {e : TypeId} {size : Nat} {v : Value} {k : Nat} {xs : List Value} (h : W.ownsRow base e size v k xs) : ∃ ad cap, v = .slice ad k cap := by
  rcases h.2 with ⟨rfl, h0⟩ | ⟨g, cap, _, rfl, _⟩
  · exact ⟨none, 0, by rw [h0]⟩
  · exact ⟨_, cap, rfl⟩
theorem infoInt : (Tryz.prog.info? 3).map (fun i => (i.zero, i.size, i.bytes)) = some (some (.int .i64 0), 1, 8) := by kernel_rfl
set_option maxRecDepth 100000 in
set_option maxHeartbeats 4000000 in
theorem such_in (F : Fence) (n : Nat) (h0 : F.fn 211) (h3 : F.fn 212) (h4 : F.fn 258) (h5 : F.fn 289) (hro : F.round = none) (hn : 3 ≤ n) (s N : Nat) (e : Nat → Nat) (hE : Enum s N e) (hN : N ≤ 8192) (w : World) :
    CallsIn F n Tryz.prog 211 #[.int .i64 s, .func (.func 212) #[] #[]] w fun r W' => ∃ v, r = .returned (.tuple #[v, .int .i64 0]) ∧ W'.ownsRow w.heap.size 3 1 v N (((List.range N).map e).map fun x : Nat => Value.int .i64 x) ∧ Below w.heap.size w W' := by
  have h1 : 1 ≤ n := by omega
  obtain ⟨i0, hi, hz0, hz1, hz2⟩ := info_parts infoInt
  refine callsIn_of_wp_marks Tryz.func211 rfl h0 ?_ hro
  simp only [Tryz.ntmps211, List.size_toArray, List.length_cons, List.length_nil, Nat.reduceAdd, Nat.reduceSub, Array.replicate_succ, Array.replicate_zero, List.push_toArray, List.append_toArray, List.nil_append, List.cons_append]
  gi_wp2_with (gi_at_call 258; refine (subs_in F (n - 1) h4 hro s _).mono ?_; rintro r w' ⟨rfl, rfl⟩)
  have bH := Boxed.new w 193 (.func (.func 212) #[] #[])
  have bR := Boxed.new (w.alloc (.cells #[.func (.func 212) #[] #[]] 193)) 51 (.slice none 0 0)
  have bE := Boxed.new ((w.alloc (.cells #[.func (.func 212) #[] #[]] 193)).alloc (.cells #[.slice none 0 0] 51)) 29 (.int .i64 0)
  have bO := Boxed.new (((w.alloc (.cells #[.func (.func 212) #[] #[]] 193)).alloc (.cells #[.slice none 0 0] 51)).alloc (.cells #[.int .i64 0] 29)) 51 (.slice none 0 0)
  have bS := Boxed.new ((((w.alloc (.cells #[.func (.func 212) #[] #[]] 193)).alloc (.cells #[.slice none 0 0] 51)).alloc (.cells #[.int .i64 0] 29)).alloc (.cells #[.slice none 0 0] 51)) 3 (.int .i64 s)
  simp only [World.size_alloc] at bR bE bO bS
  have hB0 : Below w.heap.size w (((((w.alloc (.cells #[.func (.func 212) #[] #[]] 193)).alloc (.cells #[.slice none 0 0] 51)).alloc (.cells #[.int .i64 0] 29)).alloc (.cells #[.slice none 0 0] 51)).alloc (.cells #[.int .i64 s] 3)) :=
    (((((Below.refl _ w).alloc (Nat.le_refl _) _).alloc (by simp) _).alloc (by simp; omega) _).alloc (by simp; omega) _).alloc (by simp; omega) _
  refine wpIn_rangeFunc_ownG hro h1 (gf := 289) (lb := #[.pointer (some ⟨w.heap.size + 1 + 1 + 1 + 1, 0, none⟩)]) rfl h5 (enters_of Tryz.func289 (by kernel_rfl) rfl)
    (sub_stops F (n - 1) h5 hro (by omega) (w.heap.size + 1 + 1 + 1 + 1) s N e hE _ bS) (fun h k => keepB_t h k) (fun W l o o' _ hl ho _ => keepB_b W l o o' hl ho) (Below.refl _ _) (fun _ => rfl)
    (fun pre W => (((((∃ v, Boxed W (w.heap.size + 1 + 1 + 1) 51 v ∧ W.ownsRow (w.heap.size + 1 + 1 + 1 + 1 + 1) 3 1 v pre.length (pre.map fun x : Nat => Value.int .i64 x) ∧ True) ∧ Boxed W w.heap.size 193 (.func (.func 212) #[] #[])) ∧ Boxed W (w.heap.size + 1) 51 (.slice none 0 0)) ∧ Boxed W (w.heap.size + 1 + 1) 29 (.int .i64 0)) ∧ Boxed W (w.heap.size + 1 + 1 + 1 + 1) 3 (.int .i64 s)) ∧ Below w.heap.size w W)
    (fun _ _ _ => False)
    (OwnFrom.and (OwnFrom.and (OwnFrom.and (OwnFrom.and (OwnFrom.and (Own.from (holdsRow_own (w.heap.size + 1 + 1 + 1 + 1 + 1) (w.heap.size + 1 + 1 + 1) 51 3 1 (fun pre : List Nat => pre.length) (fun pre => pre.map fun x : Nat => Value.int .i64 x) (fun _ _ => True)) _) (Own.from (boxed_own _ _ _) _)) (Own.from (boxed_own _ _ _) _)) (Own.from (boxed_own _ _ _) _)) (Own.from (boxed_own _ _ _) _)) (ownFrom_below (Nat.le_refl _) (by simp; omega)))
    (fun _ _ _ _ _ hs _ _ => hs)
    ⟨⟨⟨⟨⟨⟨_, bO.alloc _, World.ownsRow_nil _ _ _ _, trivial⟩, (((bH.alloc _).alloc _).alloc _).alloc _⟩, ((bR.alloc _).alloc _).alloc _⟩, (bE.alloc _).alloc _⟩, bS⟩, hB0⟩
    (fun x => { tmps := #[.int .i64 s, .func (.func 212) #[] #[], undef, .pointer (some ⟨w.heap.size, 0, none⟩), .pointer (some ⟨w.heap.size + 1, 0, none⟩), .pointer (some ⟨w.heap.size + 1 + 1, 0, none⟩), .pointer (some ⟨w.heap.size + 1 + 1 + 1, 0, none⟩), .int .i64 x, .int .i64 s, .func (.func 289) #[] #[.pointer (some ⟨w.heap.size + 1 + 1 + 1 + 1, 0, none⟩)], .int .i64 x, undef, undef, undef, undef, undef, undef, undef, undef, undef, undef, undef, undef], defers := [] }) ?assign ?body ?done ?stop
  case assign =>
    intro l x W K hK
    gi_wp2
    exact hK
  case body =>
    rintro l pre x W ⟨⟨⟨⟨⟨⟨v, hv, hrow, _⟩, hh⟩, hr⟩, he⟩, hS⟩, hB⟩ hlt
    have hSl := hS.lt
    have hc := hv.cell
    have hhc := hh.cell
    have hd : 1 ≤ n - 1 - 1 := by omega
    have hlen8 : ((pre.length : Int) == 8192) = false := by rw [beq_eq_false_iff_ne]; omega
    obtain ⟨ad, cap, rfl⟩ := slice_of hrow
    gi_wp2_with (first | (gi_at_call 212; refine (CallsIn.inRound l (always_in F _ h3 hro x _)).mono ?_; rintro r w' ⟨rfl, rfl⟩) | (gi_at_builtin; refine wpListIn_append_own _ rfl _ _ 51 rfl (w.heap.size + 1 + 1 + 1 + 1 + 1) 3 i0 (.int .i64 0) 1 8 Tryz.underlying51 hi hz0 hz1 hz2 rfl (by decide) _ _ _ rfl (hrow.alloc _) ⟨w'.heap.size, 0, none⟩ 1 1 [.int .i64 x] rfl rfl (cell_one_new _ _ _) (by simp [Value.oneCell']) (by simp [maxLen]; omega) (by omega) (by simp; omega) ?_; intro v' w1 hown' hgrow _; obtain ⟨g', cap', rfl⟩ := ownsRow_succ hown'; obtain ⟨hv1, hv2, hr2, hk2, hb2⟩ := hv.appended (by decide) (ownsRow_weak hrow (show w.heap.size ≤ _ by omega)) hB.size (by omega) (ownsRow_weak hown' (show w.heap.size ≤ _ by omega)) hgrow; have hc1 := hv1.cell; have hf1 := hv1.frozen))
    have hrow' := hown'.kept (grownBy_setCell' w1 (w.heap.size + 1 + 1 + 1) (.slice (some ⟨g', 0, none⟩) (pre.length + 1) cap')) (.inr (hv1.not_row (by decide) hown').symm)
    have hgrow' : (w'.alloc (.cells #[.int .i64 x] 3)).grownBy w1 (Value.slice ad pre.length cap).ownBlock := hgrow
    have other : ∀ {b : Nat} {t : TypeId} {u : Value}, b < w.heap.size + 1 + 1 + 1 + 1 + 1 → b ≠ w.heap.size + 1 + 1 + 1 → Boxed w' b t u → Boxed (w1.setCell ⟨w.heap.size + 1 + 1 + 1, 0, none⟩ (.slice (some ⟨g', 0, none⟩) (pre.length + 1) cap')) b t u := by
      intro b t u hb hne hbx
      refine Boxed.other ((hbx.alloc _).kept hgrow' (fun e => ?_)) hne _
      rcases hrow.2 with ⟨h0, _⟩ | ⟨g, cap2, cur, h0, hg, _⟩
      · rw [h0] at e; simp [Value.ownBlock] at e
      · rw [h0] at e
        have : b = g := by simpa [Value.ownBlock] using e
        omega
    have hxs : List.map (fun x : Nat => Value.int .i64 x) (pre ++ [x]) = List.map (fun x : Nat => Value.int .i64 x) pre ++ [Value.int .i64 x] := by simp
    refine ⟨hk2.from _, fun u hu => other (by omega) (by omega) hu, ⟨⟨⟨⟨⟨_, hv2, ?_, trivial⟩, other (by omega) (by omega) hh⟩, other (by omega) (by omega) hr⟩, other (by omega) (by omega) he⟩, other (by omega) (by omega) hS⟩, hB.trans hb2⟩
    rw [hxs, List.length_append]
    exact hrow'
  case done =>
    rintro D ys W hD rfl ⟨⟨⟨⟨⟨⟨v, hv, hrow, _⟩, hh⟩, hr⟩, he⟩, hS⟩, hB⟩ hK
    have hc := hv.cell
    obtain ⟨ad, cap, rfl⟩ := slice_of hrow
    have hrc := hr.cell
    have hrf := hr.frozen
    have hec := he.cell
    have hef := he.frozen
    gi_wp2
    have hr2 := (hr.set (.slice ad N cap)).other (show w.heap.size + 1 ≠ w.heap.size + 1 + 1 by omega) (.int .i64 0)
    have he2 := (he.other (show w.heap.size + 1 + 1 ≠ w.heap.size + 1 by omega) (.slice ad N cap)).set (.int .i64 0)
    have hlenN : ((List.range N).map e).length = N := by simp
    rw [hlenN] at hrow
    have ho2 := ownsRow_setCell_below (ownsRow_setCell_below hrow (a := ⟨w.heap.size + 1, 0, none⟩) (by show w.heap.size + 1 < _; omega) (.slice ad N cap)) (a := ⟨w.heap.size + 1 + 1, 0, none⟩) (by show w.heap.size + 1 + 1 < _; omega) (.int .i64 0)
    have hB2 := (hB.setCell (p := ⟨w.heap.size + 1, 0, none⟩) (by show w.heap.size ≤ w.heap.size + 1; omega) (.slice ad N cap)).setCell (p := ⟨w.heap.size + 1 + 1, 0, none⟩) (by show w.heap.size ≤ w.heap.size + 1 + 1; omega) (.int .i64 0)
    have hK2 := ((KeepsOthers.setCell W ⟨w.heap.size + 1, 0, none⟩ (.slice ad N cap)).trans (KeepsOthers.setCell _ ⟨w.heap.size + 1 + 1, 0, none⟩ (.int .i64 0))).same D _ hK rfl
    generalize (W.setCell ⟨w.heap.size + 1, 0, none⟩ (.slice ad N cap)).setCell ⟨w.heap.size + 1 + 1, 0, none⟩ (.int .i64 0) = W2 at *
    refine ⟨by simp, .inl ⟨_, _, rfl, run_takeDeferred hK2, ?_⟩⟩
    have c1 := cell_kept hr2.cell (grownBy_putObj' _ D (.deferred none)) (fun r e => by cases e; exact ⟨_, hK2, rfl⟩)
    have c2 := cell_kept he2.cell (grownBy_putObj' _ D (.deferred none)) (fun r e => by cases e; exact ⟨_, hK2, rfl⟩)
    refine ⟨.tuple #[.slice ad N cap, .int .i64 0], ?_, _, rfl, ownsRow_weak (ownsRow_putObj ho2 _ hK2 rfl) (by omega), hB2.trans (belowK_b (w := w) (Nat.le_refl _) W2 D _ _ (by simp at hD; omega) hK2 rfl rfl)⟩
    simp [results, Tryz.f211, go_sem, c1, c2]
  case stop =>
    rintro D c pre W _ _ h _
    exact h.elim
end Go.Proofs.YtbcfajfngdmgnaaGreatDoor.Nu
end

section
set_option linter.unusedSimpArgs false
set_option linter.unusedVariables false
namespace Go.Proofs.YtbcfajfngdmgnaaGreatDoor.Nu
open Go.Aw Go.Aw.D Go.Proofs Ty Go.Nu Go.Sb Go.RowKit
set_option maxRecDepth 100000
theorem els_cells {S : Sg} {w : World} {g : Nat} : ∀ (xs : List Nat) (o : Nat), (∀ i x, xs[i]? = some x → w.cell? ⟨g, o + i, none⟩ = some (.int .i64 (x : Nat))) → elsAt S w g 1 o (xs.map fun x : Nat => encInt (x : Int))
  | [], _, _ => by simp [elsAt]
  | x :: xs, o, h => by
    simp only [List.map_cons, elsAt]
    refine ⟨rfl, ?_, els_cells xs (o + 1) fun i y hy => by have := h (i + 1) y (by simpa using hy); rw [show o + 1 + i = o + (i + 1) by omega]; exact this⟩
    simp only [encInt, cellsAt]
    exact ⟨⟨_, by have := h 0 x rfl; simpa using this, rfl, by simp [rep]⟩, trivial⟩
theorem PC.libRow {f : FuncId} {a : List Value} {xs : List Nat} {t : TypeId} (h0 : xs ≠ []) (h : ∀ w, Calls Tryz.prog f a.toArray w fun r w' => ∃ v, r = .returned (.tuple #[v, .int .i64 0]) ∧ w'.ownsRow w.heap.size t 1 v xs.length (xs.map fun x : Nat => Value.int .i64 x) ∧ Below w.heap.size w w') :
    PC Tryz.prog f (a.map .v) (.tup [.sl (xs.map fun x : Nat => encInt (x : Int)), int 0]) := by
  intro S w vals hS hf ha
  obtain rfl : vals = a := by
    clear h
    induction a generalizing vals with
    | nil =>
      cases vals with
      | nil => rfl
      | cons x r => simp [repL] at ha
    | cons x a ih =>
      simp only [List.map_cons, repL] at ha
      obtain ⟨u, t, rfl, h1, h2⟩ := ha
      simp only [rep] at h1
      subst h1
      rw [ih t h2]
  refine (h w).mono fun e w' ⟨v, he, hr, hb⟩ => ?_
  have hne : xs.length ≠ 0 := fun h => h0 (List.length_eq_zero_iff.1 h)
  rcases hr.2 with ⟨_, hz⟩ | ⟨g, cap, cur, rfl, hg, hgb, hc1, hc2, hc3, hc4⟩
  · exact absurd hz hne
  have hcell := hr.cellAt
  have hgl : g < w'.heap.size := (Array.getElem?_eq_some_iff.1 hgb).1
  have hkept : Kept S w w' := fun k hk => hb.block k (hS.fz_lt k (hS.ro_fz k hk))
  have hel : elsAt (S.addRo g) w' g 1 0 (xs.map fun x : Nat => encInt (x : Int)) := by
    refine els_cells xs 0 fun i x hx => ?_
    have hi := (List.getElem?_eq_some_iff.1 hx).1
    rw [Nat.zero_add, hcell i (by omega), List.getElem?_map, hx]; rfl
  refine ⟨_, _, noRows, S.addRo g, he, rfl, ⟨?_, ?_, fun k r hk => by simp [noRows] at hk, fun k r hk => by simp [noRows] at hk, fun k k' r r' hk => by simp [noRows] at hk, hS.tabs.keep (S.le_addRo g) hkept⟩, ?_, ⟨S.le_addRo g, fun k hk => .inl hk, hb.os, hb.tape, hb.output, hb.size, fun k hk => hb.block k (hS.fz_lt k hk), ?_⟩, NewK.refl _ _⟩
  · rintro k (hk | hk)
    · exact .inl (hS.ro_fz k hk)
    · exact .inr hk
  · rintro k (hk | rfl)
    · exact Nat.lt_of_lt_of_le (hS.fz_lt k hk) hb.size
    · exact hgl
  · simp only [rep, repL]
    refine ⟨[_, _], rfl, _, [_], rfl, ⟨_, _, _, rfl, by simp, hc1, hc2, .inr ⟨g, 0, 1, rfl, .inr rfl, by decide, hel⟩⟩, _, [], rfl, rfl, rfl⟩
  · rintro k (hk | rfl)
    · exact .inl hk
    · exact .inr fun hk => by have := hS.fz_lt _ hk; omega
theorem enum_dep {s : Nat} (hs : s < 2 ^ 62) : Enum s (2 ^ pop 64 s) (dep 64 s) where
  pos := Nat.two_pow_pos _
  zero := dep_zero _ _
  le := dep_le _ _
  mono i h := dep_mono _ _ _ _ (by omega) h
  last i h := by
    constructor
    · intro e
      have h2 := dep_top (w := 64) (s := s) (by omega)
      have := dep_inj h (by omega) (e.trans h2.symm)
      omega
    · intro e
      have h2 := dep_top (w := 64) (s := s) (by omega)
      rw [show i = 2 ^ pop 64 s - 1 by omega]; exact h2
  step i h := by
    have h1 := dep_step 64 s i (by omega) h
    have hle := dep_le 64 s i
    have hle2 := dep_le 64 s (i + 1)
    have hmo := dep_mono 64 s i (i + 1) (by omega) h
    have hw : wrap64 ((dep 64 s i : Int) - (s : Int)) = (dep 64 s i : Int) - (s : Int) := by unfold wrap64; omega
    rw [hw]
    show IntKind.i64.wrap ((BitVec.ofInt 64 ((dep 64 s i : Int) - (s : Int)) &&& BitVec.ofInt 64 (s : Int)).toNat : Nat) = _
    rw [BitVec.toNat_and, BitVec.toNat_ofInt, BitVec.toNat_ofInt]
    have e1 : (((dep 64 s i : Int) - (s : Int)) % ((2 ^ 64 : Nat) : Int)).toNat = dep 64 s i + 2 ^ 64 - s := by
      rw [← Int.add_emod_right]
      rw [Int.emod_eq_of_lt (by omega) (by omega)]
      omega
    have e2 : ((s : Int) % ((2 ^ 64 : Nat) : Int)).toNat = s := by omega
    rw [e1, e2, h1]
    exact wrap_in (by omega)
theorem setsSuch_c (s : Nat) (hs : s < 2 ^ 62) (hN : 2 ^ pop 64 s ≤ 8192) : PC Tryz.prog 211 [int s, .v (.func (.func 212) #[] #[])] (.tup [.sl ((subsL s).map fun x : Nat => encInt (x : Int)), int 0]) := by
  have hne : subsL s ≠ [] := by
    intro h
    have := congrArg List.length h
    simp [subsL] at this
  refine PC.libRow (a := [.int .i64 s, .func (.func 212) #[] #[]]) (t := 3) hne fun w => ?_
  have hlen : (subsL s).length = 2 ^ pop 64 s := by simp [subsL]
  rw [hlen]
  exact (callsIn_wide (n := 3)).1 (such_in Fence.wide 3 trivial trivial trivial trivial rfl (by omega) s _ _ (enum_dep hs) hN w)
theorem subsets_c (s : Nat) (hs : s < 2 ^ 62) (hN : 2 ^ pop 64 s ≤ 8192) : PC Tryz.prog 144 [int s] (.tup [.sl ((subsL s).map fun x : Nat => encInt (x : Int)), int 0]) := by
  refine PC.body (c := Tryz.f144.body.getD .skip) (fun _ => false) mixed Tryz.func144 rfl (by kernel_rfl) ?_
  unfold Tryz.f144
  simp only [Option.getD_some]
  simp only [go_sem]
  refine acond_i (fun hb => by have := of_decide_eq_true hb; omega) (fun hb => ?_)
  simp only [go_sem]
  refine PC.use (setsSuch_c s hs hN) ?_
  simp only [go_sem]
  exact .refl _
end Go.Proofs.YtbcfajfngdmgnaaGreatDoor.Nu
end

section
set_option linter.unusedSimpArgs false
set_option linter.unusedVariables false
namespace Go.Proofs.YtbcfajfngdmgnaaGreatDoor.Nu
open Go.Aw Go.Aw.D Go.Proofs Ty Go.Nu Go.Sb
set_option maxRecDepth 100000
theorem popK_pop : ∀ k n : Nat, popK k n = pop k n
  | 0, _ => rfl
  | k + 1, n => by rw [popK, pop, popK_pop k]
theorem pop64 {s : Nat} (hs : s < 2 ^ 63) : pop 64 s = popK 63 s := by rw [popK_pop, pop_more hs]
theorem memS_pop {s : Nat} (hs : s < 2 ^ 63) : (memS (s : Int)).length = pop 64 s := by rw [pop64 hs]; exact memU_pop s 63 (Nat.le_refl _)
def memR : Nat → Nat → Nat → List Nat
  | 0, _, _ => []
  | w + 1, s, o => if s % 2 = 1 then o :: memR w (s / 2) (o + 1) else memR w (s / 2) (o + 1)
theorem memR_eq : ∀ (w s o : Nat), memR w s o = ((List.range w).filter fun i => s.testBit i).map (· + o)
  | 0, _, _ => rfl
  | w + 1, s, o => by
    have ih := memR_eq w (s / 2) (o + 1)
    have h1 : (List.filter (fun i => s.testBit i) ((List.range w).map Nat.succ)).map (· + o) = memR w (s / 2) (o + 1) := by
      rw [ih, List.filter_map, List.map_map]
      have : (fun i => s.testBit i) ∘ Nat.succ = fun i => (s / 2).testBit i := by funext i; exact Nat.testBit_succ s i
      rw [this]
      refine List.map_congr_left fun i _ => ?_
      show i + 1 + o = i + (o + 1)
      omega
    rw [memR, List.range_succ_eq_map, List.filter_cons, ← h1]
    have h0 : s.testBit 0 = decide (s % 2 = 1) := Nat.testBit_zero s
    rw [h0]
    by_cases h : s % 2 = 1
    · rw [if_pos h, if_pos (by simpa using h), List.map_cons, Nat.zero_add]
    · rw [if_neg h, if_neg (by simpa using h)]
theorem memS_memR {s : Nat} : memS (s : Int) = (memR 63 s 0).map fun i : Nat => (i : Int) := by
  unfold memS memU
  rw [memR_eq, List.map_map]
  have : List.filter (fun i : Nat => hasR (s : Int) (i : Int)) (List.range 63) = List.filter (fun i => s.testBit i) (List.range 63) := List.filter_congr fun i hi => hasR_nat (by have := List.mem_range.1 hi; omega)
  rw [this]
  refine List.map_congr_left fun i _ => ?_
  show (i : Int) = ((i + 0 : Nat) : Int)
  rw [Nat.add_zero]
def spr : List Nat → Nat → Nat
  | [], _ => 0
  | x :: r, p => (if p % 2 = 1 then 2 ^ x else 0) + spr r (p / 2)
theorem spr_snoc : ∀ (l : List Nat) (x p : Nat), spr (l ++ [x]) p = spr l p + (if (p / 2 ^ l.length) % 2 = 1 then 2 ^ x else 0)
  | [], x, p => by simp [spr]
  | y :: l, x, p => by
    rw [List.cons_append, spr, spr_snoc l x (p / 2), spr, Nat.div_div_eq_div_mul, List.length_cons, show 2 * 2 ^ l.length = 2 ^ (l.length + 1) by rw [Nat.pow_succ, Nat.mul_comm], Nat.add_assoc]
theorem spr_dep : ∀ (w s o p : Nat), spr (memR w s o) p = 2 ^ o * dep w s p
  | 0, s, o, p => by simp [memR, spr, dep]
  | w + 1, s, o, p => by
    rw [memR, dep]
    split
    · rw [spr, spr_dep w (s / 2) (o + 1) (p / 2), Nat.pow_succ]
      rcases (by omega : p % 2 = 0 ∨ p % 2 = 1) with e | e <;> rw [e]
      · simp [Nat.mul_assoc]
      · simp [Nat.mul_add, Nat.mul_assoc, Nat.add_comm]
    · rw [spr_dep w (s / 2) (o + 1) p, Nat.pow_succ, Nat.mul_assoc]
theorem dep_more {w s p : Nat} (hs : s < 2 ^ w) (hp : p < 2 ^ pop w s) : ∀ w', w ≤ w' → dep w' s p = dep w s p := by
  induction w generalizing s p with
  | zero =>
    intro w' _
    have : s = 0 := by simp at hs; omega
    subst this
    have h1 := dep_le w' 0 p
    have h2 := dep_le 0 0 p
    omega
  | succ w ih =>
    intro w' hw
    obtain ⟨v, rfl⟩ : ∃ v, w' = v + 1 := ⟨w' - 1, by omega⟩
    rw [Nat.pow_succ] at hs
    unfold dep
    split
    · next h => rw [ih (by omega) (pop_pos hp h w rfl) v (by omega)]
    · next h => rw [ih (by omega) (pop_even hp h) v (by omega)]
theorem spr_mem {s p : Nat} (hs : s < 2 ^ 63) (hp : p < 2 ^ pop 64 s) : spr (memR 63 s 0) p = dep 64 s p := by
  rw [spr_dep, Nat.pow_zero, Nat.one_mul]
  refine (dep_more hs ?_ 64 (by omega)).symm
  rw [pop_more hs] at hp
  exact hp
theorem memR_up : ∀ (w s o : Nat), (memR w s o).Pairwise (· < ·) ∧ ∀ x ∈ memR w s o, o ≤ x ∧ x < o + w
  | 0, _, _ => by simp [memR]
  | w + 1, s, o => by
    have ih := memR_up w (s / 2) (o + 1)
    rw [memR]
    split
    · refine ⟨List.pairwise_cons.2 ⟨fun x hx => by have := ih.2 x hx; omega, ih.1⟩, fun x hx => ?_⟩
      rcases List.mem_cons.1 hx with rfl | hx
      · omega
      · have := ih.2 x hx; omega
    · exact ⟨ih.1, fun x hx => by have := ih.2 x hx; omega⟩
theorem spr_lt : ∀ (l : List Nat) (x p : Nat), (l ++ [x]).Pairwise (· < ·) → spr l p < 2 ^ x
  | [], x, p, _ => Nat.two_pow_pos x
  | y :: l, x, p, h => by
    rw [List.cons_append] at h
    have h' := List.pairwise_cons.1 h
    have hyx : y < x := h'.1 x (by simp)
    -- all further members are multiples of 2 ^ (y + 1)
    have : ∀ (l : List Nat) (p x y : Nat), (l ++ [x]).Pairwise (· < ·) → (∀ z ∈ l, y < z) → y < x → spr l p + 2 ^ (y + 1) ≤ 2 ^ x := by
      intro l
      induction l with
      | nil => intro p x y _ _ hyx; simp only [spr, Nat.zero_add]; exact Nat.pow_le_pow_right (by decide) hyx
      | cons z l ih =>
        intro p x y h hz hyx
        rw [List.cons_append] at h
        have h2 := List.pairwise_cons.1 h
        have i1 := ih (p / 2) x z h2.2 (fun u hu => h2.1 u (by simp [hu])) (h2.1 x (by simp))
        have i2 : 2 ^ (y + 1) ≤ 2 ^ z := Nat.pow_le_pow_right (by decide) (hz z (by simp))
        rw [Nat.pow_succ] at i1
        rw [spr]
        split <;> omega
    have h3 := this l (p / 2) x y h'.2 (fun z hz => h'.1 z (by simp [hz])) hyx
    have h4 := Nat.two_pow_pos y
    rw [Nat.pow_succ] at h3
    rw [spr]
    split <;> omega
theorem spread_c (l : List Nat) (p : Nat) (hl : l.length ≤ 62) (hu : l.Pairwise (· < ·)) (hm : ∀ x ∈ l, x ≤ 61) (hp : p < 2 ^ 62) : PC Tryz.prog 210 [.sl (l.map fun i : Nat => encInt (i : Int)), int p] (int (spr l p : Nat)) := by
  refine PC.body (c := Tryz.f210.body.getD .skip) (fun _ => false) mixed Tryz.func210 rfl (by kernel_rfl) ?_
  unfold Tryz.f210
  simp only [Option.getD_some]
  simp only [go_sem]
  refine ⟨fun ρ H => ∃ (k : Nat), k ≤ l.length ∧ ρ 1 = int p ∧ ρ 8 = .sl (l.map fun i : Nat => encInt (i : Int)) ∧ ρ 9 = int (l.length : Nat) ∧ ρ 10 = int k ∧ ρ 5 = int (spr (l.take k) p : Nat), fun ρ _ => l.length - natOf (ρ 10), ⟨0, Nat.zero_le _, by simp only [go_sem], by simp only [go_sem], by simp only [go_sem, List.length_map], (by simp only [go_sem]; rfl), by simp only [go_sem]; rfl⟩, ?_⟩
  rintro ρ H ⟨k, hk, e1, e8, e9, e10, e5⟩
  simp only [go_sem, e1, e8, e9, e10, e5]
  refine acond_i (fun hlt => ?_) (fun hge => ?_)
  · have hlt := ltB hlt
    obtain ⟨x, hx⟩ := getIn hlt
    have b1 := inB hlt
    have hx61 := hm x (List.mem_of_getElem? hx)
    have hpw : (l.take k ++ [x]).Pairwise (· < ·) := by rw [← take_succ hx]; exact hu.sublist (List.take_sublist _ _)
    have hsl := spr_lt (l.take k) x p hpw
    have hpx : 2 ^ x ≤ 2 ^ 61 := Nat.pow_le_pow_right (by decide) hx61
    have hsn := spr_snoc (l.take k) x p
    rw [← take_succ hx, show (l.take k).length = k by rw [List.length_take]; omega] at hsn
    have q1 := shr_in (x := (p : Int)) (i := k) (by omega)
    have h3 : ((2 : Int) ^ k) = ((2 ^ k : Nat) : Int) := by norm_cast
    rw [h3] at q1
    have q2 : bitV .and .i64 ((p : Int) / ((2 ^ k : Nat) : Int)) 1 = ((p / 2 ^ k % 2 : Nat) : Int) := and1 _
    simp only [go_sem, e1, e8, e9, e10, e5, getD_map (f := fun i : Nat => encInt (i : Int)) hx, b1, q1, q2]
    refine acond_i (fun hb => ?_) (fun hb => ?_)
    · have hb : p / 2 ^ k % 2 = 1 := by have := eq_of_beq hb; omega
      have q3 := shl_in (i := x) (by omega)
      have q4 := or_nat (a := spr (l.take k) p) (b := 2 ^ x) (by omega) (by omega)
      rw [or_low hsl] at q4
      rw [if_pos hb] at hsn
      simp only [go_sem, e1, e8, e9, e10, e5, q3, q4, wrapS (show k ≤ 4611686018427387904 by omega)]
      exact ⟨by omega, ⟨k + 1, hlt, rfl, by rw [hsn]⟩, by simp only [natOf_int]; omega⟩
    · have hb : ¬ p / 2 ^ k % 2 = 1 := fun h => by rw [h] at hb; cases hb
      rw [if_neg hb, Nat.add_zero] at hsn
      simp only [go_sem, e1, e8, e9, e10, e5, wrapS (show k ≤ 4611686018427387904 by omega)]
      exact ⟨⟨k + 1, hlt, rfl, by rw [hsn]; rfl⟩, by simp only [natOf_int]; omega⟩
  · have hge := geB hk hge
    subst hge
    rw [List.take_length] at e5
    simp only [go_sem, e1, e8, e9, e10, e5]
    exact .refl _
def g3 : List Nat := (List.range 1024).filter fun p => pop 10 p == 3
def gosB (k : Nat) : Bool :=
  let p : Int := ((g3.getD k 0 : Nat) : Int)
  let lo := bitV .and .i64 p (IntKind.i64.wrap (0 - p))
  let up := IntKind.i64.wrap (p + lo)
  let q := IntKind.i64.wrap ((bitV .xor .i64 p up).tdiv lo)
  (bitV .or .i64 up (shV .shr .i64 q 2) == ((g3.getD (k + 1) 0 : Nat) : Int)) && !(lo == 0)
def cnt3 (n : Nat) : Nat := (g3.filter fun p => decide (p < 2 ^ n)).length
def endB (n k : Nat) : Bool :=
  let p : Int := ((g3.getD k 0 : Nat) : Int)
  let lo := bitV .and .i64 p (IntKind.i64.wrap (0 - p))
  decide (p < ((2 ^ n : Nat) : Int)) && ((lo == 0 || p == IntKind.i64.wrap (((2 ^ n : Nat) : Int) - lo)) == decide (k + 1 = cnt3 n))
theorem g3_len : g3.length = 120 := by decide +kernel
theorem gos_all : ((List.range 119).all gosB) = true := by decide +kernel
theorem end_all : ((List.range 11).all fun n => (List.range (cnt3 n)).all (endB n)) = true := by decide +kernel
theorem cnt_all : ((List.range 11).all fun n => decide (cnt3 n ≤ 120) && (decide (n < 3) || decide (0 < cnt3 n)) && (decide (3 ≤ n) || decide (cnt3 n = 0)) && (g3.take (cnt3 n) == (List.range (2 ^ n)).filter fun p => pop 10 p == 3)) = true := by decide +kernel
theorem memR_len {s : Nat} (hs : s < 2 ^ 63) : (memR 63 s 0).length = pop 64 s := by rw [← memS_pop hs, memS_memR, List.length_map]
def threeL (s : Nat) : List Nat := ((List.range (2 ^ pop 64 s)).filter fun p => pop 10 p == 3).map (dep 64 s)
theorem sized_c (s : Nat) (hs : s < 2 ^ 10) : PC Tryz.prog 143 [int s, int 3] (.tup [.sl ((threeL s).map fun x : Nat => encInt (x : Int)), int 0]) := by
  have hs63 : s < 2 ^ 63 := by omega
  have hl := memR_len hs63
  obtain ⟨hup, hin⟩ := memR_up 63 s 0
  have hn10 : pop 64 s ≤ 10 := by
    have h1 := pop_le 10 s
    have : ∀ k, 10 ≤ k → pop k s = pop 10 s := by
      intro k hk
      induction k with
      | zero => omega
      | succ k ih =>
        rcases (by omega : 10 ≤ k ∨ k = 9) with h | h
        · rw [pop_more (Nat.lt_of_lt_of_le hs (Nat.pow_le_pow_right (by decide) h)), ih h]
        · rw [h]
    rw [this 64 (by omega)]; exact h1
  have hmem : ∀ x ∈ memR 63 s 0, x ≤ 61 := by
    intro x hx
    have h1 : (x : Int) ∈ memS (s : Int) := by rw [memS_memR]; exact List.mem_map_of_mem hx
    have := memS_in (n := 10) hs (by omega) _ h1
    omega
  have hcnt := List.all_eq_true.1 cnt_all (pop 64 s) (List.mem_range.2 (by omega))
  simp only [Bool.and_eq_true, Bool.or_eq_true, decide_eq_true_eq, beq_iff_eq] at hcnt
  obtain ⟨⟨⟨c1, c2⟩, c3⟩, c4⟩ := hcnt
  have hthree : threeL s = (g3.take (cnt3 (pop 64 s))).map (spr (memR 63 s 0)) := by
    unfold threeL
    rw [c4]
    refine List.map_congr_left fun p hp => (spr_mem hs63 ?_).symm
    exact List.mem_range.1 (List.mem_filter.1 hp).1
  have hms : (memS (s : Int)).map encInt = (memR 63 s 0).map fun i : Nat => encInt (i : Int) := by rw [memS_memR, List.map_map]; rfl
  rw [hthree]
  have hmc := members_c (s : Int)
  rw [hms] at hmc
  generalize memR 63 s 0 = l at *
  generalize pop 64 s = n at *
  refine PC.body (c := Tryz.f143.body.getD .skip) (fun t => t == 7) mixed Tryz.func143 rfl (by kernel_rfl) ?_
  unfold Tryz.f143
  simp only [Option.getD_some]
  simp only [go_sem]
  refine PC.use hmc ?_
  simp only [go_sem, List.length_map, hl]
  refine acond_i (fun hb => ?_) (fun hb => ?_)
  · have hb : n < 3 := by simp at hb; omega
    rw [c3.resolve_left (by omega)]
    simp only [go_sem]
    exact .refl _
  have hn3 : 3 ≤ n := by simp at hb; omega
  have hpos := c2.resolve_left (by omega)
  have q1 := shl_in (i := n) (by omega)
  have q2 : shV .shl .i64 1 3 = 8 := rfl
  have q3 : IntKind.i64.wrap (8 - 1) = 7 := rfl
  simp only [go_sem]
  refine anew_i fun j hj => ?_
  simp only [go_sem, List.length_map, hl, q1, q2, q3]
  refine ⟨by omega, by decide, ?_⟩
  have hlast := end_all
  have g7 : g3.getD 0 0 = 7 := by decide +kernel
  have hl62 : decide (((n : Nat) : Int) > 62) = false := by simp; omega
  refine ⟨fun ρ H => ∃ (k j : Nat), k < cnt3 n ∧ ρ 6 = .sl (l.map fun i : Nat => encInt (i : Int)) ∧ ρ 8 = int (2 ^ n : Nat) ∧ ρ 7 = .os j ∧ ρ 9 = int (g3.getD k 0 : Nat) ∧ H j = some (⟨3, 1, ((g3.take k).map (spr l)).map fun x : Nat => encInt (x : Int)⟩ : Row), fun ρ _ => 1024 - natOf (ρ 9),
    ⟨0, j, hpos, by simp only [go_sem], by simp only [go_sem], by simp only [go_sem], by simp only [go_sem, g7]; rfl, updH_same _ _ _⟩, ?_⟩
  clear hj j
  rintro ρ H ⟨k, j, hk, e6, e8, e7, e9, R⟩
  have hend := List.all_eq_true.1 (List.all_eq_true.1 end_all n (List.mem_range.2 (by omega))) k (List.mem_range.2 hk)
  obtain ⟨p, hp⟩ := getIn (l := g3) (k := k) (by rw [g3_len]; omega)
  have hpd : g3.getD k 0 = p := by rw [List.getD, hp]; rfl
  have hp1024 : p < 1024 := List.mem_range.1 (List.mem_filter.1 (List.mem_of_getElem? hp)).1
  rw [hpd] at e9
  unfold endB at hend
  rw [hpd] at hend
  simp only [Bool.and_eq_true, decide_eq_true_eq, beq_iff_eq] at hend
  obtain ⟨hlt, hfin⟩ := hend
  have hltb : decide ((p : Int) < ((2 ^ n : Nat) : Int)) = true := by simpa using hlt
  have hkl : ((g3.take k).map (spr l)).length = k := by rw [List.length_map, List.length_take, g3_len]; omega
  have h8192 : ((k : Int) == 8192) = false := by rw [beq_eq_false_iff_ne]; omega
  obtain ⟨lo, hlo⟩ : ∃ lo, bitV .and .i64 (p : Int) (IntKind.i64.wrap (0 - (p : Int))) = lo := ⟨_, rfl⟩
  rw [hlo] at hfin
  simp only [go_sem, e6, e8, e7, e9, List.length_map, hl, hl62, hltb]
  refine acond_i (fun _ => ?_) (fun hb => by cases hb)
  simp only [go_sem, e6, e8, e7, e9, R, List.length_map, List.length_take, g3_len, show min k 120 = k by omega, h8192]
  refine acond_i (fun hb => by cases hb) (fun _ => ?_)
  simp only [go_sem, e6, e8, e7, e9]
  refine PC.use (spread_c l p (by omega) hup hmem (by omega)) ?_
  simp only [go_sem, e6, e8, e7, e9]
  refine wappE_i R ⟨rfl, rfl⟩ ⟨rfl, trivial⟩ (by simp; omega) (fun j' hj' => ?_)
  simp only [go_sem, e6, e8, e7, e9, hlo]
  have R' : updH (updH H j none) j' (some (⟨3, 1, (((g3.take k).map (spr l)).map fun x : Nat => encInt (x : Int)) ++ [[int (spr l p : Nat)]]⟩ : Row)) j' = some (⟨3, 1, ((g3.take (k + 1)).map (spr l)).map fun x : Nat => encInt (x : Int)⟩ : Row) := by
    rw [updH_same, take_succ hp]
    simp only [List.map_append, List.map_cons, List.map_nil]
    rfl
  refine acond_i (fun hb => ?_) (fun hb => ?_)
  · have hk1 : k + 1 = cnt3 n := by
      rw [hb] at hfin
      exact of_decide_eq_true hfin.symm
    simp only [go_sem, e6, e8, e7, e9]
    rw [← hk1]
    exact .tup _ _ (.cons _ _ _ _ (.row _ _ _ R' (ConvE.refl _)) (.cons _ _ _ _ (.refl _) .nil))
  · have hk1 : k + 1 < cnt3 n := by
      rw [hb] at hfin
      have := of_decide_eq_false hfin.symm
      omega
    have hg := List.all_eq_true.1 gos_all k (List.mem_range.2 (by omega))
    unfold gosB at hg
    rw [hpd] at hg
    simp only [hlo, Bool.and_eq_true, beq_iff_eq, Bool.not_eq_true'] at hg
    have hlo0 : lo ≠ 0 := by have := hg.2; simpa using this
    simp only [go_sem, e6, e8, e7, e9]
    refine ⟨hlo0, by decide, ?_⟩
    simp only [go_sem, e6, e8, e7, e9, hg.1]
    obtain ⟨p', hp'⟩ := getIn (l := g3) (k := k + 1) (by rw [g3_len]; omega)
    have hpd' : g3.getD (k + 1) 0 = p' := by rw [List.getD, hp']; rfl
    have hup2 : p < p' := by
      have hs2 : g3.Pairwise (· < ·) := List.Pairwise.filter _ List.pairwise_lt_range
      obtain ⟨h1, h1'⟩ := List.getElem?_eq_some_iff.1 hp
      obtain ⟨h2, h2'⟩ := List.getElem?_eq_some_iff.1 hp'
      have := List.pairwise_iff_getElem.1 hs2 k (k + 1) h1 h2 (by omega)
      rw [h1', h2'] at this; exact this
    exact ⟨⟨k + 1, j', hk1, rfl, rfl, R'⟩, by simp only [natOf_int, hpd']; omega⟩
end Go.Proofs.YtbcfajfngdmgnaaGreatDoor.Nu
end
