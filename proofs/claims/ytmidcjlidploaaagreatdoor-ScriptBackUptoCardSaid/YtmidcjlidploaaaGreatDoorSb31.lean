/- Texts joined by a program: TkA, ScJ, ScK, ScL, ScM. -/
import Derived.Test.YtmidcjlidploaaaGreatDoorSb29
import Derived.Test.YtmidcjlidploaaaGreatDoorSb30

section
set_option linter.unusedSimpArgs false
set_option linter.unusedVariables false
namespace Go.Proofs.YtmidcjlidploaaaGreatDoor.Sk
open Go.Aw Go.Aw.D Go.Proofs Ty
open Go.Proofs.YtmidcjlidploaaaGreatDoor
open Go.Proofs.YtmidcjlidploaaaGreatDoor.Nw (ltB geB cB)
open Go.Proofs.YtmidcjlidploaaaGreatDoor.Sc hiding wordR
set_option maxRecDepth 100000
theorem kind_word : ∀ k < 6, 0 < k → wordR (Sc.wordR (k : Nat)) = true := by decide +kernel
theorem pe_of {e : D.Event} (h : OkE e) (h0 : (evR e).2 = 0) : ∃ (kind : Nat) (ws : List ByteArray), PE kind ws e ∧ (evR e).1 = joinB spB (Sc.wordR (kind : Nat) :: ws) ∧ ∀ w ∈ ws, wordR w = true := by
  obtain ⟨t, kind, a, b, n, o⟩ := e
  unfold evR at h0 ⊢
  simp only at h0 ⊢
  by_cases hk : kind < 1 ∨ 5 < kind
  · rw [if_pos hk] at h0; cases h0
  rw [if_neg hk] at h0 ⊢
  by_cases hc : cleanE ⟨t, kind, a, b, n, o⟩ = false
  · rw [if_pos hc] at h0; cases h0
  rw [if_neg hc] at h0 ⊢
  have hc : cleanE ⟨t, kind, a, b, n, o⟩ = true := by simpa using hc
  unfold cleanE at hc
  simp only at hc
  have hd : ∀ l : List Int, ∀ w ∈ l.map decZ, wordR w = true := fun l w hw => by
    obtain ⟨n, _, rfl⟩ := List.mem_map.1 hw
    exact decZ_word n
  have hk5 : kind = 1 ∨ kind = 2 ∨ kind = 3 ∨ kind = 4 ∨ kind = 5 := by omega
  rcases hk5 with rfl | rfl | rfl | rfl | rfl
  · rw [if_pos rfl] at hc h0 ⊢
    simp only [Bool.and_eq_true, beq_iff_eq] at hc
    obtain ⟨⟨rfl, rfl⟩, rfl⟩ := hc
    by_cases h1 : o.off = true
    · rw [if_pos h1] at h0; cases h0
    rw [if_neg h1] at h0 ⊢
    by_cases h2 : nameR o.name = false
    · rw [if_pos h2] at h0; cases h0
    rw [if_neg h2] at h0 ⊢
    by_cases h3 : 3 < o.load.length
    · rw [if_pos h3] at h0; cases h0
    rw [if_neg h3]
    refine ⟨1, decZ t :: o.name :: (orderN o).map decZ, .inl ⟨rfl, t, o, h.at_, h.order, by omega, by simpa using h1, rfl, rfl⟩, rfl, fun w hw => ?_⟩
    rcases List.mem_cons.1 hw with rfl | hw
    · exact decZ_word t
    rcases List.mem_cons.1 hw with rfl | hw
    · exact name_word (by simpa using h2)
    · exact hd _ w hw
  · rw [if_neg (by decide), if_neg (by decide), if_neg (by decide)] at hc
    simp only [Bool.and_eq_true, beq_iff_eq] at hc
    obtain ⟨⟨rfl, rfl⟩, hz⟩ := hc
    rw [zeroO_eq hz] at *
    exact ⟨2, _, .inr (.inl ⟨rfl, t, a, h.at_, h.a, rfl, rfl⟩), rfl, hd [t, a]⟩
  · rw [if_neg (by decide), if_pos rfl] at hc
    rw [zeroO_eq hc] at *
    exact ⟨3, _, .inr (.inr (.inl ⟨rfl, t, a, b, n, h.at_, h.a, h.b, h.n, rfl, rfl⟩)), rfl, hd [t, a, b, n]⟩
  · rw [if_neg (by decide), if_neg (by decide), if_neg (by decide)] at hc
    simp only [Bool.and_eq_true, beq_iff_eq] at hc
    obtain ⟨⟨rfl, rfl⟩, hz⟩ := hc
    rw [zeroO_eq hz] at *
    exact ⟨4, _, .inr (.inr (.inr (.inl ⟨rfl, t, a, h.at_, h.a, rfl, rfl⟩))), rfl, hd [t, a]⟩
  · rw [if_neg (by decide), if_neg (by decide), if_pos rfl] at hc
    simp only [Bool.and_eq_true, beq_iff_eq] at hc
    obtain ⟨rfl, hz⟩ := hc
    rw [zeroO_eq hz] at *
    exact ⟨5, _, .inr (.inr (.inr (.inr ⟨rfl, t, a, n, h.at_, h.a, h.n, rfl, rfl⟩))), rfl, hd [t, a, n]⟩
theorem eparse_c (e : D.Event) (h : OkE e) (h0 : (evR e).2 = 0) (hs : (evR e).1.size ≤ 65536) : PC Tryz.prog 44 [str (evR e).1] (.tup [.agg (encEvent e), int 0]) := by
  obtain ⟨kind, ws, hp, hj, hw⟩ := pe_of h h0
  obtain ⟨hk0, hk6, hpos, hl⟩ := hp.pos
  have hpr := ePrint_c e h
  rw [h0] at hpr
  have hwc := words_c (Sc.wordR (kind : Nat) :: ws) (by simp) (fun w hm => by
    rcases List.mem_cons.1 hm with rfl | hm
    · exact kind_word kind hk6 hk0
    · exact hw w hm) (by rw [← hj]; omega) (by simp only [List.length_cons]; omega)
  rw [← hj] at hwc
  generalize (evR e).1 = s at *
  refine PC.body (c := Tryz.f44.body.getD .skip) (fun _ => false) mixed Tryz.func44 rfl (by kernel_rfl) ?_
  unfold Tryz.f44
  simp only [Option.getD_some]
  simp only [go_sem]
  refine anew_g fun p G hp0 (P : G p = some (evRow 0 0 0 0 0 o0)) N => ?_
  clear N hp0
  simp only [go_sem, P]
  refine acond_i (fun hb => absurd (of_decide_eq_true hb) (by omega)) (fun _ => ?_)
  simp only [go_sem, P]
  refine PC.use hwc ?_
  simp only [go_sem, P]
  refine acond_i (fun hb => absurd hb (by decide)) (fun _ => ?_)
  simp only [go_sem, P]
  refine PC.use (parse_c hp) ?_
  simp only [go_sem, P]
  refine anew_g fun q G hq0 (Q : G q = some (evRow 0 0 0 0 0 o0)) N => ?_
  obtain ⟨npq, P⟩ := N P
  clear N hq0
  simp only [go_sem, P, Q]
  refine putn Q ⟨Nat.zero_lt_one, rfl, Nat.le_of_ble_eq_true rfl⟩ fun G Q1 F => ?_
  replace P := F _ _ npq P
  replace Q : G q = some ⟨51, 21, [encEvent e]⟩ := Q1
  clear F Q1
  simp only [go_sem, P, Q]
  refine acond_i (fun hb => absurd hb (by decide)) (fun _ => ?_)
  simp only [go_sem, P, Q]
  refine PC.use hpr ?_
  simp only [go_sem, P, Q]
  refine acond_i (fun hb => absurd hb (by simp)) (fun _ => ?_)
  simp only [go_sem, P, Q]
  refine putn P ⟨Nat.zero_lt_one, rfl, Nat.le_of_ble_eq_true rfl⟩ fun G P1 F => ?_
  simp only [go_sem, P1]
  exact .refl _
end Go.Proofs.YtmidcjlidploaaaGreatDoor.Sk
end

section
set_option linter.unusedSimpArgs false
set_option linter.unusedVariables false
namespace Go.Proofs.YtmidcjlidploaaaGreatDoor.Sc
open Go.Aw Go.Aw.D Go.Proofs Ty
open Go.RowKit (Below)
open Go.Proofs.YtmidcjlidploaaaGreatDoor
open Go.Proofs.YtmidcjlidploaaaGreatDoor.Nw (ltB geB cB)
set_option maxRecDepth 100000
end Go.Proofs.YtmidcjlidploaaaGreatDoor.Sc
end

section
set_option linter.unusedSimpArgs false
set_option linter.unusedVariables false
namespace Go.Proofs.YtmidcjlidploaaaGreatDoor.Sc
open Go.Aw Go.Aw.D Go.Proofs Ty
open Go.RowKit (Below)
open Go.Proofs.YtmidcjlidploaaaGreatDoor
open Go.Proofs.YtmidcjlidploaaaGreatDoor.Nw (ltB geB cB)
set_option maxRecDepth 100000
def noneE (e : D.Event) : Bool := zeroO e.order && (e.at_ == 0) && (e.kind == 0) && (e.a == 0) && (e.b == 0) && (e.n == 0)
theorem blank_c (e : D.Event) : PC Tryz.prog 32 [.agg (encEvent e)] (boo (noneE e)) := by
  refine PC.body (c := Tryz.f32.body.getD .skip) (fun _ => false) mixed Tryz.func32 rfl (by kernel_rfl) ?_
  unfold Tryz.f32
  simp only [Option.getD_some]
  simp only [go_sem]
  refine anew_i fun p hp0 => ?_
  simp only [go_sem]
  refine wputE_v hp0 (by simp [encOrder]) fun HGp (Rp : HGp p = some (⟨49, 16, [encOrder e.order]⟩)) N => ?_
  clear N hp0
  simp only [go_sem, Rp]
  refine cB ?_
  unfold noneE zeroO
  simp only [zeroStp, Bool.and_true]
  ac_rfl
def OkC (c : D.Command) : Prop := i64B c.n ∧ OkE c.event
def cmdR (c : D.Command) : ByteArray × Int :=
  if c.kind = 1 then (if (noneE c.event && c.n == 0) = true then (⟨#[112, 108, 97, 110]⟩, 0) else (⟨#[]⟩, 2))
  else if c.kind = 4 then (if (noneE c.event && c.n == 0) = true then (⟨#[112, 114, 111, 118, 101]⟩, 0) else (⟨#[]⟩, 2))
  else if c.kind = 6 then (if (noneE c.event && c.n == 0) = true then (⟨#[110, 101, 120, 116]⟩, 0) else (⟨#[]⟩, 2))
  else if c.kind = 2 then (if noneE c.event = true then (⟨#[97, 100, 118, 97, 110, 99, 101]⟩ ++ (⟨#[32]⟩ ++ decZ c.n), 0) else (⟨#[]⟩, 2))
  else if c.kind = 5 then (if noneE c.event = true then (⟨#[101, 120, 112, 108, 97, 105, 110]⟩ ++ (⟨#[32]⟩ ++ decZ c.n), 0) else (⟨#[]⟩, 2))
  else if c.kind = 3 then (if c.n = 0 then (if (evR c.event).2 = 0 then (⟨#[104, 97, 112, 112, 101, 110, 32]⟩ ++ (evR c.event).1, 0) else (⟨#[]⟩, (evR c.event).2)) else (⟨#[]⟩, 2))
  else (⟨#[]⟩, 8)
def wrR (c : D.Command) : ByteArray × Int := if (cmdR c).2 = 0 then ((cmdR c).1 ++ ⟨#[10]⟩, 0) else (⟨#[]⟩, (cmdR c).2)
theorem evR_size {e : D.Event} (h : OkE e) : (evR e).1.size ≤ 25000000 := by
  unfold evR
  split
  · exact (by decide : (0 : Nat) ≤ 25000000)
  split
  · exact (by decide : (0 : Nat) ≤ 25000000)
  split
  · split
    · exact (by decide : (0 : Nat) ≤ 25000000)
    split
    · exact (by decide : (0 : Nat) ≤ 25000000)
    split
    · exact (by decide : (0 : Nat) ≤ 25000000)
    · rename_i h3
      have hl := wordsO_len h (by omega)
      refine Nat.le_trans (joinB_size (s := spB) (wordsO e) (wordsO_size h (by omega))) ?_
      show (wordsO e).length * (1 + 1048576) ≤ _
      omega
  · have hl := wordsE_len h
    refine Nat.le_trans (joinB_size (s := spB) (wordsE e) (wordsE_size h)) ?_
    show (wordsE e).length * (1 + 1048576) ≤ _
    omega
theorem cmdR_size {c : D.Command} (h : OkC c) : (cmdR c).1.size ≤ 30000000 := by
  have h1 := decZ_size h.1
  have h2 := evR_size h.2
  have k0 : (⟨#[]⟩ : ByteArray).size ≤ 30000000 := by decide
  have q1 : (⟨#[97, 100, 118, 97, 110, 99, 101]⟩ : ByteArray).size = 7 := rfl
  have q2 : (⟨#[101, 120, 112, 108, 97, 105, 110]⟩ : ByteArray).size = 7 := rfl
  have q3 : (⟨#[104, 97, 112, 112, 101, 110, 32]⟩ : ByteArray).size = 7 := rfl
  have q4 : (⟨#[32]⟩ : ByteArray).size = 1 := rfl
  unfold cmdR
  repeat' split
  all_goals first | exact k0 | (show (4 : Nat) ≤ 30000000; decide) | (show (5 : Nat) ≤ 30000000; decide) | (show (_ ++ _ : ByteArray).size ≤ _; simp only [ByteArray.size_append, List.size_toArray, List.length_cons, List.length_nil]; omega)
theorem notB {b : Bool} (h : (!b) = true) : ¬ b = true := by cases b with | true => cases h | false => simp
theorem wr_ok {c : D.Command} {t : ByteArray} (h : cmdR c = (t, 0)) : wrR c = (t ++ ⟨#[10]⟩, 0) := by unfold wrR; rw [h]; rfl
theorem wr_bad {c : D.Command} {n : Int} (h : cmdR c = (⟨#[]⟩, n)) (hn : n ≠ 0) : wrR c = (⟨#[]⟩, n) := by unfold wrR; rw [h, if_neg hn]
theorem written_c (c : D.Command) (h : OkC c) : PC Tryz.prog 13 [.agg (encCommand c)] (.tup [str (wrR c).1, int (wrR c).2]) := by
  have z1 := decZ_size h.1
  have z2 := evR_size h.2
  refine PC.body (c := Tryz.f13.body.getD .skip) (fun _ => false) mixed Tryz.func13 rfl (by kernel_rfl) ?_
  unfold Tryz.f13
  simp only [Option.getD_some]
  simp only [go_sem]
  refine PC.use (blank_c c.event) ?_
  simp only [go_sem]
  by_cases hk0 : c.kind = 1 ∨ c.kind = 4 ∨ c.kind = 6 ∨ c.kind = 2 ∨ c.kind = 5 ∨ c.kind = 3
  · rcases hk0 with hk | hk | hk | hk | hk | hk
    · have hc : cmdR c = (if (noneE c.event && c.n == 0) = true then (⟨#[112, 108, 97, 110]⟩, 0) else (⟨#[]⟩, 2)) := by unfold cmdR; rw [if_pos hk]
      refine acond_i (fun _ => ?_) (fun hb => absurd hb (by rw [hk]; decide))
      simp only [go_sem]
      refine adraw_m [(0, true), (1, true), (2, true), (3, true), (4, true), (5, true), (6, true), (7, true)] (by kernel_rfl) ?_
      simp only [go_sem]
      refine acond_i (fun hb => ?_) (fun hb => ?_)
      · simp only [go_sem]
        rw [wr_bad (hc.trans (if_neg (notB hb))) (by decide)]; exact .refl _
      · simp only [go_sem]
        rw [wr_ok (hc.trans (if_pos (by simpa using hb)))]
        refine ⟨by rw [i64max]; first | omega | (simp only [ByteArray.size_append, List.size_toArray, List.length_cons, List.length_nil]; omega), by rw [i64max]; first | omega | (simp only [ByteArray.size_append, List.size_toArray, List.length_cons, List.length_nil]; omega), ?_⟩
        rw [app_nil]; exact .refl _
    · have hc : cmdR c = (if (noneE c.event && c.n == 0) = true then (⟨#[112, 114, 111, 118, 101]⟩, 0) else (⟨#[]⟩, 2)) := by unfold cmdR; rw [if_neg (by omega), if_pos hk]
      refine acond_i (fun hb => absurd hb (by rw [hk]; decide)) (fun _ => ?_)
      simp only [go_sem]
      refine acond_i (fun _ => ?_) (fun hb => absurd hb (by rw [hk]; decide))
      simp only [go_sem]
      refine adraw_m [(0, true), (1, true), (2, true), (3, true), (4, true), (5, true), (6, true), (7, true)] (by kernel_rfl) ?_
      simp only [go_sem]
      refine acond_i (fun hb => ?_) (fun hb => ?_)
      · simp only [go_sem]
        rw [wr_bad (hc.trans (if_neg (notB hb))) (by decide)]; exact .refl _
      · simp only [go_sem]
        rw [wr_ok (hc.trans (if_pos (by simpa using hb)))]
        refine ⟨by rw [i64max]; first | omega | (simp only [ByteArray.size_append, List.size_toArray, List.length_cons, List.length_nil]; omega), by rw [i64max]; first | omega | (simp only [ByteArray.size_append, List.size_toArray, List.length_cons, List.length_nil]; omega), ?_⟩
        rw [app_nil]; exact .refl _
    · have hc : cmdR c = (if (noneE c.event && c.n == 0) = true then (⟨#[110, 101, 120, 116]⟩, 0) else (⟨#[]⟩, 2)) := by unfold cmdR; rw [if_neg (by omega), if_neg (by omega), if_pos hk]
      refine acond_i (fun hb => absurd hb (by rw [hk]; decide)) (fun _ => ?_)
      simp only [go_sem]
      refine acond_i (fun hb => absurd hb (by rw [hk]; decide)) (fun _ => ?_)
      simp only [go_sem]
      refine acond_i (fun _ => ?_) (fun hb => absurd hb (by rw [hk]; decide))
      simp only [go_sem]
      refine adraw_m [(0, true), (1, true), (2, true), (3, true), (4, true), (5, true), (6, true), (7, true)] (by kernel_rfl) ?_
      simp only [go_sem]
      refine acond_i (fun hb => ?_) (fun hb => ?_)
      · simp only [go_sem]
        rw [wr_bad (hc.trans (if_neg (notB hb))) (by decide)]; exact .refl _
      · simp only [go_sem]
        rw [wr_ok (hc.trans (if_pos (by simpa using hb)))]
        refine ⟨by rw [i64max]; first | omega | (simp only [ByteArray.size_append, List.size_toArray, List.length_cons, List.length_nil]; omega), by rw [i64max]; first | omega | (simp only [ByteArray.size_append, List.size_toArray, List.length_cons, List.length_nil]; omega), ?_⟩
        rw [app_nil]; exact .refl _
    · have hc : cmdR c = (if noneE c.event = true then (⟨#[97, 100, 118, 97, 110, 99, 101]⟩ ++ (⟨#[32]⟩ ++ decZ c.n), 0) else (⟨#[]⟩, 2)) := by unfold cmdR; rw [if_neg (by omega), if_neg (by omega), if_neg (by omega), if_pos hk]
      refine acond_i (fun hb => absurd hb (by rw [hk]; decide)) (fun _ => ?_)
      simp only [go_sem]
      refine acond_i (fun hb => absurd hb (by rw [hk]; decide)) (fun _ => ?_)
      simp only [go_sem]
      refine acond_i (fun hb => absurd hb (by rw [hk]; decide)) (fun _ => ?_)
      simp only [go_sem]
      refine acond_i (fun _ => ?_) (fun hb => absurd hb (by rw [hk]; decide))
      simp only [go_sem]
      refine PC.use (decimalZ_c c.n h.1) ?_
      simp only [go_sem]
      refine ⟨by rw [i64max]; first | omega | (simp only [ByteArray.size_append, List.size_toArray, List.length_cons, List.length_nil]; omega), ?_⟩
      refine acond_i (fun hb => ?_) (fun hb => ?_)
      · simp only [go_sem]
        rw [wr_bad (hc.trans (if_neg (notB hb))) (by decide)]; exact .refl _
      · simp only [go_sem]
        rw [wr_ok (hc.trans (if_pos (by simpa using hb)))]
        exact ⟨by rw [i64max]; first | omega | (simp only [ByteArray.size_append, List.size_toArray, List.length_cons, List.length_nil]; omega), by rw [i64max]; first | omega | (simp only [ByteArray.size_append, List.size_toArray, List.length_cons, List.length_nil]; omega), .refl _⟩
    · have hc : cmdR c = (if noneE c.event = true then (⟨#[101, 120, 112, 108, 97, 105, 110]⟩ ++ (⟨#[32]⟩ ++ decZ c.n), 0) else (⟨#[]⟩, 2)) := by unfold cmdR; rw [if_neg (by omega), if_neg (by omega), if_neg (by omega), if_neg (by omega), if_pos hk]
      refine acond_i (fun hb => absurd hb (by rw [hk]; decide)) (fun _ => ?_)
      simp only [go_sem]
      refine acond_i (fun hb => absurd hb (by rw [hk]; decide)) (fun _ => ?_)
      simp only [go_sem]
      refine acond_i (fun hb => absurd hb (by rw [hk]; decide)) (fun _ => ?_)
      simp only [go_sem]
      refine acond_i (fun hb => absurd hb (by rw [hk]; decide)) (fun _ => ?_)
      simp only [go_sem]
      refine acond_i (fun _ => ?_) (fun hb => absurd hb (by rw [hk]; decide))
      simp only [go_sem]
      refine PC.use (decimalZ_c c.n h.1) ?_
      simp only [go_sem]
      refine ⟨by rw [i64max]; first | omega | (simp only [ByteArray.size_append, List.size_toArray, List.length_cons, List.length_nil]; omega), ?_⟩
      refine acond_i (fun hb => ?_) (fun hb => ?_)
      · simp only [go_sem]
        rw [wr_bad (hc.trans (if_neg (notB hb))) (by decide)]; exact .refl _
      · simp only [go_sem]
        rw [wr_ok (hc.trans (if_pos (by simpa using hb)))]
        exact ⟨by rw [i64max]; first | omega | (simp only [ByteArray.size_append, List.size_toArray, List.length_cons, List.length_nil]; omega), by rw [i64max]; first | omega | (simp only [ByteArray.size_append, List.size_toArray, List.length_cons, List.length_nil]; omega), .refl _⟩
    · have hc : cmdR c = (if c.n = 0 then (if (evR c.event).2 = 0 then (⟨#[104, 97, 112, 112, 101, 110, 32]⟩ ++ (evR c.event).1, 0) else (⟨#[]⟩, (evR c.event).2)) else (⟨#[]⟩, 2)) := by unfold cmdR; rw [if_neg (by omega), if_neg (by omega), if_neg (by omega), if_neg (by omega), if_neg (by omega), if_pos hk]
      refine acond_i (fun hb => absurd hb (by rw [hk]; decide)) (fun _ => ?_)
      simp only [go_sem]
      refine acond_i (fun hb => absurd hb (by rw [hk]; decide)) (fun _ => ?_)
      simp only [go_sem]
      refine acond_i (fun hb => absurd hb (by rw [hk]; decide)) (fun _ => ?_)
      simp only [go_sem]
      refine acond_i (fun hb => absurd hb (by rw [hk]; decide)) (fun _ => ?_)
      simp only [go_sem]
      refine acond_i (fun hb => absurd hb (by rw [hk]; decide)) (fun _ => ?_)
      simp only [go_sem]
      refine acond_i (fun _ => ?_) (fun hb => absurd hb (by rw [hk]; decide))
      simp only [go_sem]
      refine acond_i (fun hb => ?_) (fun hb => ?_)
      · simp only [go_sem]
        rw [wr_bad (hc.trans (if_neg (by simpa using hb))) (by decide)]; exact .refl _
      have hn : c.n = 0 := by simpa using hb
      rw [if_pos hn] at hc
      simp only [go_sem]
      refine PC.use (ePrint_c c.event h.2) ?_
      simp only [go_sem]
      refine acond_i (fun hb => ?_) (fun hb => ?_)
      · simp only [go_sem]
        have he : ¬ (evR c.event).2 = 0 := by simpa using hb
        rw [wr_bad (hc.trans (if_neg he)) he]; exact .refl _
      have he : (evR c.event).2 = 0 := by simpa using hb
      simp only [go_sem]
      rw [wr_ok (hc.trans (if_pos he))]
      exact ⟨by rw [i64max]; first | omega | (simp only [ByteArray.size_append, List.size_toArray, List.length_cons, List.length_nil]; omega), by rw [i64max]; first | omega | (simp only [ByteArray.size_append, List.size_toArray, List.length_cons, List.length_nil]; omega), .refl _⟩
  · have hc : cmdR c = (⟨#[]⟩, 8) := by unfold cmdR; rw [if_neg (by omega), if_neg (by omega), if_neg (by omega), if_neg (by omega), if_neg (by omega), if_neg (by omega)]
    refine acond_i (fun hb => absurd (by simpa using hb) (show ¬ c.kind = 1 by omega)) (fun _ => ?_)
    simp only [go_sem]
    refine acond_i (fun hb => absurd (by simpa using hb) (show ¬ c.kind = 4 by omega)) (fun _ => ?_)
    simp only [go_sem]
    refine acond_i (fun hb => absurd (by simpa using hb) (show ¬ c.kind = 6 by omega)) (fun _ => ?_)
    simp only [go_sem]
    refine acond_i (fun hb => absurd (by simpa using hb) (show ¬ c.kind = 2 by omega)) (fun _ => ?_)
    simp only [go_sem]
    refine acond_i (fun hb => absurd (by simpa using hb) (show ¬ c.kind = 5 by omega)) (fun _ => ?_)
    simp only [go_sem]
    refine acond_i (fun hb => absurd (by simpa using hb) (show ¬ c.kind = 3 by omega)) (fun _ => ?_)
    simp only [go_sem]
    rw [wr_bad hc (by decide)]; exact .refl _
end Go.Proofs.YtmidcjlidploaaaGreatDoor.Sc
end

section
set_option linter.unusedSimpArgs false
set_option linter.unusedVariables false
namespace Go.Proofs.YtmidcjlidploaaaGreatDoor.Sc
open Go.Aw Go.Aw.D Go.Proofs Ty
open Go.RowKit (Below)
open Go.Proofs.YtmidcjlidploaaaGreatDoor
open Go.Proofs.YtmidcjlidploaaaGreatDoor.Nw (ltB geB cB)
set_option maxRecDepth 100000
def errC : List D.Command → Int
  | [] => 0
  | c :: r => if (cmdR c).2 = 0 then errC r else (cmdR c).2
theorem errC_all : ∀ {l : List D.Command}, (∀ c ∈ l, (cmdR c).2 = 0) → errC l = 0
  | [], _ => rfl
  | c :: r, h => by rw [errC, if_pos (h c (by simp)), errC_all fun x hx => h x (by simp [hx])]
theorem errC_at : ∀ {l : List D.Command} {k : Nat} {c : D.Command}, (∀ c ∈ l.take k, (cmdR c).2 = 0) → l[k]? = some c → (cmdR c).2 ≠ 0 → errC l = (cmdR c).2
  | [], _, _, _, h, _ => by simp at h
  | a :: r, 0, c, _, h, hc => by
    simp at h
    subst h
    rw [errC, if_neg hc]
  | a :: r, k + 1, c, h0, h, hc => by
    rw [errC, if_pos (h0 a (by simp)), errC_at (k := k) (fun x hx => h0 x (by simp [hx])) (by simpa using h) hc]
def cmdL (c : D.Command) : ByteArray := (cmdR c).1 ++ ⟨#[10]⟩
def beginB : ByteArray := ⟨#[98, 101, 103, 105, 110, 10]⟩
def scrT (s : D.Script) : ByteArray := (printR s.inst).1 ++ beginB ++ catB (s.commands.map cmdL)
def scrR (s : D.Script) : ByteArray × Int :=
  if (printR s.inst).2 = 0 then (if errC s.commands = 0 then (if 65536 < (scrT s).size then (⟨#[]⟩, 4) else (scrT s, 0)) else (⟨#[]⟩, errC s.commands)) else (⟨#[]⟩, (printR s.inst).2)
structure OkS (s : D.Script) : Prop where
  inst : OkI s.inst
  cl : s.commands.length ≤ 100
  cmd : ∀ c ∈ s.commands, OkC c
theorem textI_size {x : Instance} (h : OkI x) : (textI x).size ≤ 1200000000010 := by
  have := (text_sizes x h).2.2.2.2.2
  unfold textI
  rw [ByteArray.size_append]
  have : endL.size = 4 := rfl
  omega
theorem printR_size {x : Instance} (h : OkI x) : (printR x).1.size ≤ 1200000000010 := by
  have := textI_size h
  unfold printR
  split
  · exact (by decide : (0 : Nat) ≤ 1200000000010)
  split
  · exact (by decide : (0 : Nat) ≤ 1200000000010)
  · exact this
theorem cmdL_size {c : D.Command} (h : OkC c) : (cmdL c).size ≤ 2000000000 := by
  have := cmdR_size h
  unfold cmdL
  rw [ByteArray.size_append]
  have : (⟨#[10]⟩ : ByteArray).size = 1 := rfl
  omega
theorem sPrint_c (s : D.Script) (h : OkS s) : PC Tryz.prog 6 [.agg (encScript s)] (.tup [str (scrR s).1, int (scrR s).2]) := by
  have z1 := printR_size h.inst
  refine PC.body (c := Tryz.f6.body.getD .skip) (fun t => t == 6) mixed Tryz.func6 rfl (by kernel_rfl) ?_
  unfold Tryz.f6
  simp only [Option.getD_some]
  simp only [go_sem]
  refine PC.use (print_c s.inst h.inst) ?_
  simp only [go_sem]
  unfold scrR
  refine acond_i (fun hb => ?_) (fun hb => ?_)
  · simp only [go_sem]
    rw [if_neg (by simpa using hb)]; exact .refl _
  rw [if_pos (by simpa using hb)]
  simp only [go_sem]
  refine anew_g fun j HGj hj0 (Rj : HGj j = some (⟨5, 1, []⟩)) N0 => ?_
  clear N0 hj0
  refine anew_g fun b HGb hb0 (Rb : HGb b = some (⟨65, 2, [[.v (.pointer none), .os j]]⟩)) N => ?_
  replace Rj := N Rj
  obtain ⟨ne_j_b, Rj⟩ := Rj
  clear N hb0
  simp only [go_sem, Rb, Rj]
  refine ⟨by rw [i64max]; first | omega | (simp only [ByteArray.size_append, List.size_toArray, List.length_cons, List.length_nil]; omega), ?_⟩
  refine wstr_c (t := ⟨#[]⟩) Rb Rj (.inl rfl) btB (by rw [ByteArray.size_append]; show 0 + (_ + 6) ≤ _; omega) fun H1 j1 hbj1 hb1 hj1 _ => ?_
  replace hj1 : H1 j1 = some (tRow ((printR s.inst).1 ++ beginB)) := by rw [nil_app] at hj1; exact hj1
  simp only [go_sem, List.length_map]
  refine ⟨fun ρ H => ∃ (k : Nat) (j : Nat) (a : AV), k ≤ s.commands.length ∧ ρ 6 = .op b 0 0 ∧ ρ 24 = .sl (s.commands.map encCommand) ∧ ρ 25 = int (s.commands.length : Nat) ∧ ρ 26 = int k ∧ H b = some (bRow 65 a j) ∧ Fu a b ∧ H j = some (tRow ((printR s.inst).1 ++ beginB ++ catB ((s.commands.take k).map cmdL))) ∧ (∀ c ∈ s.commands.take k, (cmdR c).2 = 0), fun ρ _ => s.commands.length - natOf (ρ 26), ⟨0, j1, .op b 0 0, Nat.zero_le _, by simp only [go_sem], by simp only [go_sem], by simp only [go_sem, List.length_map], (by simp only [go_sem]; rfl), hb1, .inr rfl, (by rw [List.take_zero, List.map_nil, catB, app_nil]; exact hj1), by simp⟩, ?_⟩
  rintro ρ H ⟨k, j, a, hk, e6, e24, e25, e26, hb, ha, hj, hz⟩
  simp only [go_sem, e6, e24, e25, e26]
  refine acond_i (fun hlt => ?_) (fun hge => ?_)
  · have hlt := ltB hlt
    obtain ⟨y, hy⟩ := getIn hlt
    have b1 := inB hlt
    have hwr := wrapS (show k ≤ 4611686018427387904 by have := h.cl; omega)
    have hmy := mem_of_get hy
    have hoy := h.cmd y hmy
    have hct := catB_take (f := cmdL) hy
    have hsz := catT (f := cmdL) h.cl (fun a ha => cmdL_size (h.cmd a ha)) k
    have hys := cmdL_size hoy
    simp only [go_sem, e6, e24, e25, e26, getD_map hy, b1]
    refine anew_i fun p hp0 => ?_
    simp only [go_sem, e6, e24, e25, e26, hwr, hb, hj]
    refine wputE_v hp0 (by simp [encCommand]) fun HGp (Rp : HGp p = some (⟨70, 23, [encCommand y]⟩)) N => ?_
    replace hb := N hb
    obtain ⟨ne_b_p, hb⟩ := hb
    replace hj := N hj
    obtain ⟨ne_j_p, hj⟩ := hj
    clear N hp0
    simp only [go_sem, e6, e24, e25, e26, hwr, Rp, hb, hj]
    refine PC.use (written_c y hoy) ?_
    simp only [go_sem, e6, e24, e25, e26, Rp]
    by_cases he : (cmdR y).2 = 0
    · have hw : wrR y = (cmdL y, 0) := wr_ok (t := (cmdR y).1) (Prod.ext rfl he)
      rw [hw]
      refine acond_i (fun hb => absurd hb (by simp)) (fun _ => ?_)
      simp only [go_sem, e6, e24, e25, e26]
      have hq : beginB.size = 6 := rfl
      refine wstr_c hb hj ha btB (by simp only [ByteArray.size_append]; omega) fun H2 j2 hbj2 hb2 hj2 _ => ?_
      simp only [go_sem, e6, e24, e25, e26, hwr]
      exact ⟨⟨k + 1, j2, .op b 0 0, hlt, rfl, hb2, .inr rfl, hj2.trans (by rw [hct, ← app_assoc]), Nw.take_allP hy he hz⟩, by simp only [natOf_int]; omega⟩
    · have hw : wrR y = (⟨#[]⟩, (cmdR y).2) := by unfold wrR; rw [if_neg he]
      rw [hw]
      refine acond_i (fun _ => ?_) (fun hb => absurd hb (by simpa using he))
      simp only [go_sem]
      have hE := errC_at hz hy he
      rw [if_neg (by rw [hE]; exact he), hE]
      exact .refl _
  have hge := geB hk hge
  subst hge
  rw [List.take_of_length_le (Nat.le_refl _)] at hj hz
  replace hj : H j = some (tRow (scrT s)) := hj
  rw [if_pos (errC_all hz)]
  have hsz := catT (f := cmdL) h.cl (fun a ha => cmdL_size (h.cmd a ha)) s.commands.length
  rw [List.take_of_length_le (Nat.le_refl _)] at hsz
  have hT : (scrT s).size ≤ 2000000000000 := by
    unfold scrT
    rw [ByteArray.size_append, ByteArray.size_append]
    have hq : beginB.size = 6 := rfl
    omega
  have hP : 0 < (scrT s).size := by
    unfold scrT
    rw [ByteArray.size_append, ByteArray.size_append]
    have hq : beginB.size = 6 := rfl
    omega
  simp only [go_sem, e6, e24, e25, e26]
  refine len_c hb hj ?_
  simp only [go_sem, e6, e24, e25, e26]
  refine acond_i (fun hb2 => ?_) (fun hb2 => ?_)
  · have hb3 : ((scrT s).size : Int) > 65536 := by simpa using hb2
    simp only [go_sem]
    rw [if_pos (by omega)]
    exact .refl _
  · have hb3 : ¬ ((scrT s).size : Int) > 65536 := by simpa using hb2
    simp only [go_sem, e6, e24, e25, e26]
    refine str_c hb hj hP (by omega) fun H2 _ => ?_
    simp only [go_sem]
    rw [if_neg (by omega)]
    exact .refl _
def itemS (i : D.Item) : ByteArray := decZ i.kind ++ (⟨#[58]⟩ ++ decZ i.a)
def repL (r : D.Reply) : List ByteArray := decZ r.err :: decZ r.price :: r.items.map itemS
structure OkR (r : D.Reply) : Prop where
  err : i64B r.err
  price : i64B r.price
  il : r.items.length ≤ 100
  item : ∀ i ∈ r.items, i64B i.kind ∧ i64B i.a
theorem itemS_size {i : D.Item} (h : i64B i.kind ∧ i64B i.a) : (itemS i).size ≤ 43 := by
  have h1 := decZ_size h.1
  have h2 := decZ_size h.2
  unfold itemS
  rw [ByteArray.size_append, ByteArray.size_append]
  show _ + (1 + _) ≤ _
  omega
theorem repL_ok {r : D.Reply} (h : OkR r) : (∀ a ∈ repL r, a.size ≤ 43) ∧ (repL r).length ≤ 102 := by
  refine ⟨fun a ha => ?_, by have := h.il; simp [repL]; omega⟩
  simp only [repL, List.mem_cons, List.mem_map] at ha
  rcases ha with rfl | rfl | ⟨i, hi, rfl⟩
  · exact Nat.le_trans (decZ_size h.err) (by decide)
  · exact Nat.le_trans (decZ_size h.price) (by decide)
  · exact itemS_size (h.item i hi)
theorem line54_c (r : D.Reply) (h : OkR r) : PC Tryz.prog 10 [.agg (encReply r)] (str (joinB spB (repL r))) := by
  refine PC.body (c := Tryz.f10.body.getD .skip) (fun t => t == 12) mixed Tryz.func10 rfl (by kernel_rfl) ?_
  unfold Tryz.f10
  simp only [Option.getD_some]
  simp only [go_sem]
  refine adraw_m [(0, true), (1, true), (2, true), (3, true), (4, true), (5, true), (6, false), (7, true)] (by kernel_rfl) ?_
  simp only [go_sem]
  refine ⟨_, qi (code_c r.err h.err), ?_⟩
  simp only [go_sem]
  refine ⟨_, qi (decimalZ_c r.price h.price), ?_⟩
  simp only [go_sem]
  refine anew_g fun i HGi hi0 (Ri : HGi i = some (strRow [decZ r.err, decZ r.price])) N => ?_
  clear N hi0
  simp only [go_sem, Ri]
  refine ⟨fun ρ H => ∃ (k : Nat) (i : Nat), k ≤ r.items.length ∧ ρ 14 = .sl (r.items.map encItem) ∧ ρ 15 = int (r.items.length : Nat) ∧ ρ 16 = int k ∧ ρ 3 = .os i ∧ H i = some (strRow (decZ r.err :: decZ r.price :: (r.items.take k).map itemS)), fun ρ _ => r.items.length - natOf (ρ 16), ⟨0, i, Nat.zero_le _, by simp only [go_sem], by simp only [go_sem, List.length_map], (by simp only [go_sem]; rfl), by simp only [go_sem], Ri⟩, ?_⟩
  rintro ρ H ⟨k, i, hk, e14, e15, e16, e3, Ri⟩
  simp only [go_sem, e14, e15, e16, e3]
  refine acond_i (fun hlt => ?_) (fun hge => ?_)
  · have hlt := ltB hlt
    obtain ⟨y, hy⟩ := getIn hlt
    have b1 := inB hlt
    have hwr := wrapS (show k ≤ 4611686018427387904 by have := h.il; omega)
    have hst : (r.items.take (k + 1)).map itemS = (r.items.take k).map itemS ++ [itemS y] := by rw [take_succ hy]; simp
    have hok := h.item y (mem_of_get hy)
    have s1 := decZ_size hok.1
    have s2 := decZ_size hok.2
    have hil := h.il
    simp only [go_sem, e14, e15, e16, e3, getD_map hy, b1]
    refine anew_i fun p hp0 => ?_
    simp only [go_sem, e14, e15, e16, e3, hwr, Ri]
    refine wputE_v hp0 (by simp [encItem]) fun HGp (Rp : HGp p = some (⟨57, 2, [encItem y]⟩)) N => ?_
    replace Ri := N Ri
    obtain ⟨ne_i_p, Ri⟩ := Ri
    clear N hp0
    simp only [go_sem, e14, e15, e16, e3, hwr, Rp, Ri]
    refine adraw_p [p] [(0, true), (1, true), (2, true), (3, true), (4, true), (5, true), (6, true), (7, true), (8, true), (9, false), (10, false), (11, true)] (by simp [Rp]) (by kernel_rfl) fun Hp Hr hp hr _ hr0 => ?_
    have P_Rp := (hp p (by simp)).trans Rp
    have Q_Ri := (hr i (by simp [ne_i_p])).trans Ri
    simp only [go_sem, e14, e15, e16, e3, P_Rp, Q_Ri]
    refine ⟨_, qi (decimalZ_c y.kind hok.1), ?_⟩
    simp only [go_sem, e14, e15, e16, e3, P_Rp]
    refine ⟨by rw [i64max]; first | omega | (simp only [ByteArray.size_append, List.size_toArray, List.length_cons, List.length_nil]; omega), _, qi (decimalZ_c y.a hok.2), ?_⟩
    simp only [go_sem, e14, e15, e16, e3, P_Rp]
    refine ⟨by rw [i64max]; first | omega | (simp only [ByteArray.size_append, List.size_toArray, List.length_cons, List.length_nil]; omega), ?_⟩
    refine wappE_i Q_Ri ⟨rfl, rfl⟩ (by simp only [go_sem]) (by simp only [List.length_map, List.length_cons, List.length_nil, List.length_take]; omega) fun j' hj' => ?_
    simp only [go_sem, e14, e15, e16, e3]
    refine pinEnd_i fun h0 Hm hm1 hm2 => ?_
    have hjp : j' ≠ p := fun e => by have := h0 p (by simp); rw [← e, updH_same] at this; cases this
    have g1 := (hm2 j' (by simp [hjp])).trans (updH_same _ _ _)
    simp only [go_sem, e14, e15, e16, e3, hwr]
    refine ⟨⟨k + 1, j', hlt, rfl, rfl, g1.trans ?_⟩, by simp only [natOf_int]; omega⟩
    rw [hst]
    simp only [strRow, List.map_append, List.map_cons, List.cons_append, itemS, app_assoc]
    rfl
  have hge := geB hk hge
  subst hge
  rw [List.take_of_length_le (Nat.le_refl _)] at Ri
  replace Ri : H i = some (strRow (repL r)) := Ri
  obtain ⟨q1, q2⟩ := repL_ok h
  simp only [go_sem, e14, e15, e16, e3]
  refine QFlat.use ⟨[.sl ((repL r).map D.encStr)], .cons _ _ _ _ (.row _ _ _ Ri (ConvE.refl _)) .nil, tjoin_c _ (by omega) ?_, rfl⟩ ?_
  · refine Nat.le_trans (joinB_size (s := spB) (repL r) q1) ?_
    show (repL r).length * (1 + 43) ≤ _
    omega
  · simp only [go_sem]
    exact .refl _
end Go.Proofs.YtmidcjlidploaaaGreatDoor.Sc
end

section
set_option linter.unusedSimpArgs false
set_option linter.unusedVariables false
namespace Go.Proofs.YtmidcjlidploaaaGreatDoor.Sc
open Go.Aw Go.Aw.D Go.Proofs Ty
open Go.RowKit (Below)
open Go.Proofs.YtmidcjlidploaaaGreatDoor
open Go.Proofs.YtmidcjlidploaaaGreatDoor.Nw (ltB geB cB)
set_option maxRecDepth 100000
def bigS (s : D.Script) : Bool := decide ((s.commands.length : Int) > 10) || decide ((s.inst.orders.length : Int) > 6) || decide ((s.inst.types.length : Int) > 4) || decide ((s.inst.net.arcs.length : Int) > 50) || decide ((s.inst.net.places.length : Int) > 10) || decide ((s.inst.apart.length : Int) > 6) || decide ((s.inst.before.length : Int) > 6)
def badC (c : D.Command) : Bool := decide ((c.event.order.load.length : Int) > 4) || decide ((c.event.order.name.size : Int) > 40)
def smallS (s : D.Script) : Bool := !bigS s && !(s.commands.any badC)
theorem small_c (s : D.Script) (hl : s.commands.length ≤ 1048576) : PC Tryz.prog 4 [.agg (encScript s)] (boo (smallS s)) := by
  refine PC.body (c := Tryz.f4.body.getD .skip) (fun _ => false) mixed Tryz.func4 rfl (by kernel_rfl) ?_
  unfold Tryz.f4
  simp only [Option.getD_some]
  simp only [go_sem]
  refine anew_i fun p hp0 => ?_
  simp only [go_sem]
  refine wputE_v hp0 (by simp [encInstance]) fun HGp (Rp : HGp p = some (⟨30, 6, [encInstance s.inst]⟩)) N => ?_
  clear N hp0
  simp only [go_sem, Rp]
  refine acond_i (fun hb => ?_) (fun hb => ?_)
  · simp only [go_sem]
    refine cB ?_
    have h1 : bigS s = true := hb
    unfold smallS
    rw [h1]; rfl
  have h1 : bigS s = false := hb
  simp only [go_sem]
  refine ⟨fun ρ H => ∃ (k : Nat), k ≤ s.commands.length ∧ ρ 1 = .rp (encScript s) 0 ∧ ρ 4 = int k ∧ (∀ c ∈ s.commands.take k, badC c = false), fun ρ _ => s.commands.length - natOf (ρ 4), ⟨0, Nat.zero_le _, by simp only [go_sem], (by simp only [go_sem]; rfl), by simp⟩, ?_⟩
  rintro ρ H ⟨k, hk, e1, e4, hz⟩
  simp only [go_sem, e1, e4]
  refine acond_i (fun hlt => ?_) (fun hge => ?_)
  · have hlt := ltB hlt
    obtain ⟨y, hy⟩ := getIn hlt
    have b1 := inB hlt
    have hwr := wrapS (show k ≤ 4611686018427387904 by omega)
    simp only [go_sem, e1, e4, getD_map hy, b1]
    refine acond_i (fun hb => ?_) (fun hb => ?_)
    · simp only [go_sem]
      refine cB ?_
      have h2 : s.commands.any badC = true := List.any_eq_true.2 ⟨y, mem_of_get hy, by unfold badC; simpa using hb⟩
      unfold smallS
      rw [h2, Bool.and_comm]; rfl
    · simp only [go_sem, e1, e4, hwr]
      exact ⟨⟨k + 1, hlt, rfl, Nw.take_allP hy (by unfold badC; simpa using hb) hz⟩, by simp only [natOf_int]; omega⟩
  have hge := geB hk hge
  subst hge
  rw [List.take_of_length_le (Nat.le_refl _)] at hz
  simp only [go_sem, e1, e4]
  refine cB ?_
  have h2 : s.commands.any badC = false := by
    rw [List.any_eq_false]
    intro c hc
    rw [hz c hc]; simp
  unfold smallS
  rw [h1, h2]; rfl
theorem divide0_c : PC Tryz.prog 16 [str ⟨#[]⟩] (.tup [str ⟨#[]⟩, str ⟨#[]⟩, boo false]) := by
  refine PC.body (c := Tryz.f16.body.getD .skip) (fun _ => false) mixed Tryz.func16 rfl (by kernel_rfl) ?_
  unfold Tryz.f16
  simp only [Option.getD_some]
  simp only [go_sem]
  refine ⟨fun ρ _ => ρ 0 = str ⟨#[]⟩ ∧ ρ 5 = int 0, fun _ _ => 0, ⟨by simp only [go_sem], by simp only [go_sem]⟩, ?_⟩
  rintro ρ H ⟨e0, e5⟩
  simp only [go_sem, e0, e5]
  refine acond_i (fun hb => absurd hb (by decide)) (fun _ => ?_)
  simp only [go_sem]
  exact .refl _
theorem count0_c : PC Tryz.prog 17 [str ⟨#[]⟩, str ⟨#[10]⟩] (int 0) := by
  refine PC.lib (a := [.string ⟨#[]⟩, .string ⟨#[10]⟩]) (v := .int .i64 0) (fun S w => rfl) fun w ht => ?_
  exact (Tryz.strings_Count_one ⟨#[]⟩ 10 w).mono fun e w' ⟨he, hw⟩ => ⟨he, hw ▸ Below.refl _ _⟩
def scr0 : D.Script := ⟨⟨⟨[], []⟩, [], [], [], []⟩, []⟩
theorem parse0_c : PC Tryz.prog 8 [str ⟨#[]⟩] (.tup [.agg (encScript scr0), int 1, int 3]) := by
  refine PC.body (c := Tryz.f8.body.getD .skip) (fun _ => false) mixed Tryz.func8 rfl (by kernel_rfl) ?_
  unfold Tryz.f8
  simp only [Option.getD_some]
  simp only [go_sem]
  refine anew_g fun r HGr hr0 (R : HGr r = some (⟨41, 7, [encScript scr0]⟩)) N => ?_
  clear N hr0
  simp only [go_sem, R]
  refine acond_i (fun hb => absurd hb (by decide)) (fun _ => ?_)
  simp only [go_sem, R]
  refine PC.use divide0_c ?_
  simp only [go_sem, R]
  refine acond_i (fun _ => ?_) (fun hb => absurd hb (by decide))
  simp only [go_sem, R]
  refine PC.use count0_c ?_
  simp only [go_sem, R]
  refine wputE_n R ⟨by simp, rfl, by simp⟩ ?_
  simp only [go_sem]
  exact .refl _
theorem run0_c : PC Tryz.prog 9 [str ⟨#[]⟩] (.sl [[str ⟨#[108, 105, 110, 101, 32, 49, 32, 51]⟩]]) := by
  refine PC.body (c := Tryz.f9.body.getD .skip) (fun _ => false) mixed Tryz.func9 rfl (by kernel_rfl) ?_
  unfold Tryz.f9
  simp only [Option.getD_some]
  simp only [go_sem]
  refine PC.use parse0_c ?_
  simp only [go_sem]
  refine anew_i fun r hr0 => ?_
  simp only [go_sem]
  refine wputE_v hr0 (by simp [encScript]) fun HGr (R : HGr r = some (⟨41, 7, [encScript scr0]⟩)) N => ?_
  clear N hr0
  simp only [go_sem, R]
  refine acond_i (fun _ => ?_) (fun hb => absurd hb (by decide))
  simp only [go_sem, R]
  refine PC.use (decimalZ_c 1 ⟨by decide, by decide⟩) ?_
  simp only [go_sem]
  refine PC.use (code_c 3 ⟨by decide, by decide⟩) ?_
  simp only [go_sem]
  refine PC.use (tjoin_c [⟨#[108, 105, 110, 101]⟩, decZ 1, decZ 3] (by decide) (by decide +kernel)) ?_
  simp only [go_sem]
  rw [show joinB spB [⟨#[108, 105, 110, 101]⟩, decZ 1, decZ 3] = ⟨#[108, 105, 110, 101, 32, 49, 32, 51]⟩ by decide +kernel]
  exact .refl _
abbrev cellsP (x : Instance) (n : Nat) : List AV := [.sl (x.net.places.map D.encStr), .sl (x.net.arcs.map encArc), .sl (x.types.map encVType), .sl (x.orders.map encOrder), .sl (x.apart.map encPair), .sl (x.before.map encPair), .os n]
abbrev cmdRow (l : List D.Command) : Row := ⟨70, 23, l.map encCommand⟩
theorem program_c (s : D.Script) (hl : s.commands.length ≤ 100) : PC Tryz.prog 7 [.agg (encScript s)] (.agg (encScript s)) := by
  refine PC.body (c := Tryz.f7.body.getD .skip) (fun t => t == 7) mixed Tryz.func7 rfl (by kernel_rfl) ?_
  unfold Tryz.f7
  simp only [Option.getD_some]
  simp only [go_sem]
  refine anew_g fun r2 HGr2 hr20 (R2 : HGr2 r2 = some (⟨41, 7, [encScript scr0]⟩)) N => ?_
  clear N hr20
  simp only [go_sem, R2]
  refine anew_g fun n1 G1 _ _ N => ?_
  replace R2 := N R2
  obtain ⟨q1, R2⟩ := R2
  clear N
  refine anew_g fun n2 G2 _ _ N => ?_
  replace R2 := N R2
  obtain ⟨q2, R2⟩ := R2
  clear N
  refine anew_g fun n3 G3 _ _ N => ?_
  replace R2 := N R2
  obtain ⟨q3, R2⟩ := R2
  clear N
  refine anew_g fun n4 G4 _ _ N => ?_
  replace R2 := N R2
  obtain ⟨q4, R2⟩ := R2
  clear N
  refine anew_g fun n5 G5 _ _ N => ?_
  replace R2 := N R2
  obtain ⟨q5, R2⟩ := R2
  clear N
  refine anew_g fun n6 G6 _ _ N => ?_
  replace R2 := N R2
  obtain ⟨q6, R2⟩ := R2
  clear N
  refine anew_g fun n7 G7 _ (C : G7 n7 = some ⟨70, 23, []⟩) N => ?_
  replace R2 := N R2
  obtain ⟨q7, R2⟩ := R2
  clear N
  refine anew_i fun r3 hr30 => ?_
  simp only [go_sem, R2, C]
  refine wputE_v hr30 (by simp [encInstance]) fun HGr3 (R3 : HGr3 r3 = some (⟨41, 7, [cellsP s.inst n7]⟩)) N => ?_
  replace R2 := N R2
  obtain ⟨ne_r2_r3, R2⟩ := R2
  replace C := N C
  obtain ⟨ne_n7_r3, C⟩ := C
  clear N hr30
  simp only [go_sem, R3, R2, C]
  have h23 : r2 ≠ r3 := ne_r2_r3
  refine ⟨fun ρ H => ∃ (k : Nat) (n : Nat), k ≤ s.commands.length ∧ ρ 1 = .rp (encScript s) 0 ∧ ρ 2 = .op r2 0 0 ∧ ρ 3 = .op r3 0 0 ∧ ρ 4 = int k ∧ H r3 = some ⟨41, 7, [cellsP s.inst n]⟩ ∧ H n = some (cmdRow (s.commands.take k)) ∧ H r2 = some ⟨41, 7, [encScript scr0]⟩ ∧ r3 ≠ n ∧ r2 ≠ n, fun ρ _ => s.commands.length - natOf (ρ 4), ⟨0, n7, Nat.zero_le _, by simp only [go_sem], by simp only [go_sem], by simp only [go_sem], (by simp only [go_sem]; rfl), R3, C, R2, ne_n7_r3.symm, q7⟩, ?_⟩
  rintro ρ H ⟨k, n, hk, e1, e2, e3, e4, R3, C, R2, h3n, h2n⟩
  simp only [go_sem, e1, e2, e3, e4]
  refine acond_i (fun hlt => ?_) (fun hge => ?_)
  · have hlt := ltB hlt
    obtain ⟨y, hy⟩ := getIn hlt
    have b1 := inB hlt
    have hwr := wrapS (show k ≤ 4611686018427387904 by omega)
    simp only [go_sem, e1, e2, e3, e4, R3]
    refine adraw_tj [] (.q 0 (.q 2 (.q 3 (.q 4 (.q 5 (.q 6 (.a2 1 (.a1 7 (.a1 8 (.q 9 (.a1 10 .nil)))) 7 (.a1 1 (.a1 8 (.q 9 (.a1 10 .nil))))))))))) (fun ρ' H' => ρ' 1 = .rp (encScript s) 0 ∧ ρ' 2 = .op r2 0 0 ∧ ρ' 3 = .op r3 0 0 ∧ ρ' 4 = int (k : Nat) ∧ ∃ n', H' r3 = some ⟨41, 7, [cellsP s.inst n']⟩ ∧ H' n' = some (cmdRow (s.commands.take (k + 1))) ∧ H' r2 = some ⟨41, 7, [encScript scr0]⟩ ∧ r3 ≠ n' ∧ r2 ≠ n') (by simp) (by kernel_rfl) (fun K' hK' Hp Hr hp hr _ hr0 => ?_) ?_
    · have Q3 := (hr r3 (by simp)).trans R3
      have QC := (hr n (by simp)).trans C
      have Q2 := (hr r2 (by simp)).trans R2
      have hst : (s.commands.take (k + 1)).map encCommand = (s.commands.take k).map encCommand ++ [encCommand y] := by rw [take_succ hy]; simp
      simp only [go_sem, e1, e2, e3, e4, Q3, getD_map hy, b1]
      refine ⟨?_, ?_⟩
      all_goals
        simp only [go_sem, e1, e2, e3, e4, Q3, getD_map hy, b1]
        refine wappE_i QC ⟨rfl, rfl⟩ (by simp only [go_sem, encCommand]) (by simp only [List.length_map, List.length_cons, List.length_nil, List.length_take]; omega) fun j' hj' => ?_
        have P3 := keep_app (r' := ⟨70, 23, (s.commands.take k).map encCommand ++ [encCommand y]⟩) Q3 h3n.symm hj'
        have P2 := keep_app (r' := ⟨70, 23, (s.commands.take k).map encCommand ++ [encCommand y]⟩) Q2 h2n.symm hj'
        have PC2 : updH (updH Hr n none) j' (some ⟨70, 23, (s.commands.take k).map encCommand ++ [encCommand y]⟩) j' = some (cmdRow (s.commands.take (k + 1))) := by rw [updH_same]; simp only [cmdRow, hst]
        have w3 := ne_new Q3 hj'
        have w2 := ne_new Q2 hj'
        generalize updH (updH Hr n none) j' _ = HQ at *
        simp only [go_sem, e1, e2, e3, e4, P3]
        refine wputE_1 so39 P3 ⟨by simp, rfl, by simp⟩ ?_
        simp only [go_sem, e1, e2, e3, e4]
        refine pinEnd_i fun _ Hm _ hm2 => hK' _ _ ⟨?_, ?_, ?_, ?_, j', ?_, ?_, ?_, w3, w2⟩
        · simp only [go_sem, e1, e2, e3, e4]
        · simp only [go_sem, e1, e2, e3, e4]
        · simp only [go_sem, e1, e2, e3, e4]
        · simp only [go_sem, e1, e2, e3, e4]
        · exact (hm2 r3 (by simp)).trans (updH_same _ _ _)
        · exact (hm2 j' (by simp)).trans ((updH_ne _ _ _ _ w3.symm).trans PC2)
        · exact (hm2 r2 (by simp)).trans ((updH_ne _ _ _ _ h23).trans P2)
    · rintro ρ' H' ⟨e1, e2, e3, e4, n', R3, C, R2, h3n, h2n⟩
      simp only [go_sem, e1, e2, e3, e4, hwr]
      exact ⟨⟨k + 1, n', hlt, rfl, R3, C, R2, h3n, h2n⟩, by simp only [natOf_int]; omega⟩
  have hge := geB hk hge
  subst hge
  rw [List.take_of_length_le (Nat.le_refl _)] at C
  simp only [go_sem, e1, e2, e3, e4, R3]
  refine wputE_n R2 ⟨by simp, rfl, by simp⟩ ?_
  simp only [go_sem, e1, e2, e3, e4]
  have C2 : updH H r2 (some ⟨41, 7, [cellsP s.inst n]⟩) n = some (cmdRow s.commands) := by rw [updH_ne _ _ _ _ h2n.symm]; exact C
  exact .agg _ _ (.cons _ _ _ _ (.refl _) (.cons _ _ _ _ (.refl _) (.cons _ _ _ _ (.refl _) (.cons _ _ _ _ (.refl _) (.cons _ _ _ _ (.refl _) (.cons _ _ _ _ (.refl _) (.cons _ _ _ _ (.row _ _ _ C2 (ConvE.refl _)) .nil)))))))
def rep0 : D.Reply := ⟨0, 7, [⟨3, 0⟩]⟩
theorem rep0_ok : OkR rep0 := ⟨⟨by decide, by decide⟩, ⟨by decide, by decide⟩, by decide, fun i hi => by
  simp only [rep0, List.mem_cons, List.not_mem_nil, or_false] at hi
  subst hi
  exact ⟨⟨by decide, by decide⟩, ⟨by decide, by decide⟩⟩⟩
theorem line0_c : PC Tryz.prog 10 [.agg (encReply rep0)] (str ⟨#[48, 32, 55, 32, 51, 58, 48]⟩) := by
  have := line54_c rep0 rep0_ok
  rwa [show joinB spB (repL rep0) = ⟨#[48, 32, 55, 32, 51, 58, 48]⟩ by decide +kernel] at this
theorem example54_c : PC Tryz.prog 5 [] (boo true) := by
  refine PC.body (c := Tryz.f5.body.getD .skip) (fun _ => false) mixed Tryz.func5 rfl (by kernel_rfl) ?_
  unfold Tryz.f5
  simp only [Option.getD_some]
  simp only [go_sem]
  refine PC.use run0_c ?_
  simp only [go_sem]
  refine ⟨fun _ => by omega, _, fun _ => qi line0_c, ?_⟩
  simp only [go_sem]
  exact cB (by decide +kernel)
end Go.Proofs.YtmidcjlidploaaaGreatDoor.Sc
end
