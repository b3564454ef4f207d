/- AW: append onto a row of the call's own. -/
import Derived.Test.YtjlbikpgjejkjaaAwState
set_option linter.unusedSimpArgs false
set_option linter.unusedVariables false
namespace Go.Aw
open Go.RowKit

section
variable {P : Program} {S S' : Sg} {w w' : World} {H H' : Heap}

/-- what is appended: where it lies -/
def SrcOK (S : Sg) (w : World) (u : Value) (news : List (List AV)) : Prop :=
  ∃ ad c l, u = .slice ad news.length c ∧ repL S w news.flatten l ∧ (∀ x ∈ l, x.oneCell' = true) ∧
    (news = [] ∨ ∃ b o, ad = some ⟨b, o, none⟩ ∧ ∀ j x, l[j]? = some x → w.cell? ⟨b, o + j, none⟩ = some x)
theorem src_sl {es : List (List AV)} {u : Value} (h : rep S w (.sl es) u) : SrcOK S w u es := by
  simp only [rep] at h
  obtain ⟨ad, n, c, rfl, rfl, _, _, h4⟩ := h
  rcases h4 with rfl | ⟨b, o, sz, rfl, hb, hs, hels⟩
  · exact ⟨ad, c, [], rfl, by simp [repL], by simp, .inl rfl⟩
  · obtain ⟨l, e1, e2, e3, e4⟩ := cellsAt_vals _ _ (elsAt_flat es o hels)
    exact ⟨_, c, l, rfl, e2, e3, .inr ⟨b, o, rfl, e4⟩⟩
theorem src_os {k : Nat} {r : Row} (h : RowOK S w k r) : SrcOK S w (S.loc k) r.es := by
  obtain ⟨xs, ho, hr, h1⟩ := h.own
  rcases ho.2 with ⟨hv, hn⟩ | ⟨g, cap, cur, hv, _⟩
  · have he := List.eq_nil_of_length_eq_zero hn
    have hx : xs = [] := List.eq_nil_of_length_eq_zero (by rw [ho.1, hn]; simp)
    exact ⟨none, 0, xs, by rw [hv, hn], hr, h1, .inl he⟩
  · refine ⟨some ⟨g, 0, none⟩, cap, xs, hv, hr, h1, .inr ⟨g, 0, rfl, fun j x hj => ?_⟩⟩
    have := ho.cells (g := g) (by rw [hv]; rfl) j x hj
    rwa [Addr.add_lit] at this

theorem run_append_empty {t ty e : TypeId} {i : TypeInfo} {size n c : Nat} {v : Value} {xs : List Value} (ht : P.underlying t = some (.slice e)) (hi : P.info? e = some i) (hown : w.ownsRow 0 e size v n xs) :
    (Builtin.append_ #[t, t] ty #[v, .slice none 0 c]).run P w = .ok v w := by
  rcases hown.2 with ⟨rfl, rfl⟩ | ⟨g, cap, cur, rfl, _, _, hnc, _⟩
  · simp [Builtin.append_, run_underlying ht, sizeOf, typeInfo, hi, Builtin.lenOf, Builtin.firstCells]
  · simp [Builtin.append_, run_underlying ht, sizeOf, typeInfo, hi, Builtin.lenOf, Builtin.firstCells, hnc, storeCells]

theorem St.append (hS : St S w H) {k : Nat} {r : Row} (hk : H k = some r) {t ty : TypeId} {bytes : Nat} (he : elemT P t = some (r.e, r.sz, bytes)) {news : List (List AV)} {u : Value} (hu : SrcOK S w u news)
    (hlen : allLen r.sz news) (hb : (r.es.length + news.length) * bytes ≤ 140737488355328) :
    ∃ v' w', (Builtin.append_ #[t, t] ty #[S.loc k, u]).run P w = .ok v' w' ∧ (∃ a n c, v' = .slice a n c) ∧
      St (S.addRow v' r.sz) w' (updH (updH H k none) S.N (some ⟨r.e, r.sz, r.es ++ news⟩)) ∧ Grow S w (S.addRow v' r.sz) w' := by
  have hR := hS.rows k r hk
  obtain ⟨inf, z, hut, hi, hsz, hby, hpos, hbpos, hz, hzs⟩ := elemT_spec he
  obtain ⟨xs, ho, hr, h1⟩ := hR.own
  obtain ⟨ad, c, l, rfl, hl, hl1, hsrc⟩ := hu
  have hlen' := allLen_iff.1 hlen
  have hll : l.length = news.length * r.sz := by rw [repL_len _ _ hl, flat_len news hlen']
  have hnm : r.es.length + news.length ≤ 140737488355328 := Nat.le_trans (Nat.le_mul_of_pos_right _ hbpos) hb
  have key : ∃ v' w', (Builtin.append_ #[t, t] ty #[S.loc k, .slice ad news.length c]).run P w = .ok v' w' ∧ w'.ownsRow 0 r.e r.sz v' (r.es.length + news.length) (xs ++ l) ∧ w.grownBy w' (S.loc k).ownBlock ∧
      (v'.ownBlock = (S.loc k).ownBlock ∨ v'.ownBlock = some w.heap.size) := by
    cases ad with
    | none =>
      have hn : news = [] := by
        rcases hsrc with h | ⟨b, o, h, _⟩
        · exact h
        · simp at h
      subst hn
      have hl0 : l = [] := List.eq_nil_of_length_eq_zero (by rw [hll]; simp)
      subst hl0
      exact ⟨S.loc k, w, run_append_empty hut hi ho, by simpa using ho, World.grownBy.refl w _, .inl rfl⟩
    | some a =>
      have hcells : ∀ j x, l[j]? = some x → w.cell? (a.add j) = some x := by
        rcases hsrc with h | ⟨b, o, h, hc⟩
        · subst h
          have hl0 : l = [] := List.eq_nil_of_length_eq_zero (by rw [hll]; simp)
          subst hl0
          simp
        · injection h with h
          subst h
          intro j x hj
          rw [Addr.add_lit]
          exact hc j x hj
      obtain ⟨v', w', q1, q2, q3, _, q5⟩ := run_append_own_at (P := P) w 0 t ty r.e inf z r.sz bytes hut hi hz hsz hby hzs hpos (S.loc k) r.es.length xs ho a news.length c l hll hcells hl1
        (by simp only [maxLen]; omega) hb (Nat.zero_le _)
      exact ⟨v', w', q1, q2, q3, q5⟩
  obtain ⟨v', w', q1, q2, q3, q4⟩ := key
  have hfree := hS.free k r hk
  have hsame : ∀ j, S.fz j → w'.heap[j]? = w.heap[j]? := fun j hj => q3.block j (hS.fz_lt j hj) (fun e => hfree j e.symm hj)
  have hkept : Kept S w w' := hS.kept hsame
  have hle := S.le_addRow v' r.sz
  have hlocN : (S.addRow v' r.sz).loc S.N = v' := by simp [Sg.addRow]
  have hnf : ∀ g, v'.ownBlock = some g → ¬ S.fz g := fun g hg hf => by
    rcases q4 with e | e
    · exact hfree g (e ▸ hg) hf
    · rw [e] at hg; injection hg with hg; subst hg; exact Nat.lt_irrefl _ (hS.fz_lt _ hf)
  have hold : ∀ j r', j ≠ S.N → updH (updH H k none) S.N (some ⟨r.e, r.sz, r.es ++ news⟩) j = some r' → j ≠ k ∧ H j = some r' := fun j r' hj h => by
    rw [updH_ne _ _ _ _ hj] at h
    by_cases e : j = k
    · subst e; rw [updH_same] at h; simp at h
    · rw [updH_ne _ _ _ _ e] at h; exact ⟨e, h⟩
  have hblk : ∀ j r', j ≠ k → H j = some r' → ∀ g, (S.loc j).ownBlock = some g → some g ≠ (S.loc k).ownBlock ∧ g < w.heap.size := fun j r' hj hj' g hg =>
    ⟨fun e => hS.disj j k r' r hj' hk hj g hg e.symm, (hS.rows j r' hj').block_lt hg⟩
  have hvN : ∀ j r', j ≠ k → H j = some r' → ∀ g, (S.loc j).ownBlock = some g → v'.ownBlock ≠ some g := fun j r' hj hj' g hg e => by
    obtain ⟨e1, e2⟩ := hblk j r' hj hj' g hg
    rcases q4 with e' | e'
    · exact e1 (by rw [← e', e])
    · rw [e'] at e; injection e with e; omega
  refine ⟨v', w', q1, ?_, ⟨hS.ro_fz, fun j hj => Nat.lt_of_lt_of_le (hS.fz_lt j hj) q3.size, ?_, ?_, ?_⟩, ⟨hle, fun _ h => h, q3.os, q3.tape, q3.output, q3.size, hsame, fun _ h => .inl h, fun _ h => .inl h⟩⟩
  · rcases q2.2 with ⟨h, _⟩ | ⟨g, cap, cur, h, _⟩
    · exact ⟨_, _, _, h⟩
    · exact ⟨_, _, _, h⟩
  · intro j r' hj
    by_cases e : j = S.N
    · subst e
      rw [updH_same] at hj
      injection hj with hj
      subst hj
      refine ⟨Nat.lt_succ_self _, by simp [Sg.addRow], hpos, ?_, xs ++ l, ?_, ?_, ?_⟩
      · intro cs hcs
        rcases List.mem_append.1 hcs with hcs | hcs
        · exact hR.len cs hcs
        · exact hlen' cs hcs
      · rw [hlocN, List.length_append]; exact q2
      · rw [List.flatten_append]
        exact repL_append _ _ _ _ (repL_mono hle hkept _ _ hr) (repL_mono hle hkept _ _ hl)
      · intro x hx
        rcases List.mem_append.1 hx with hx | hx
        · exact h1 x hx
        · exact hl1 x hx
    · obtain ⟨e1, e2⟩ := hold j r' e hj
      exact (hS.rows j r' e2).keep hle hkept fun g hg => q3.block g (hblk j r' e1 e2 g hg).2 (hblk j r' e1 e2 g hg).1
  · intro j r' hj g hg
    by_cases e : j = S.N
    · subst e; rw [hlocN] at hg; exact hnf g hg
    · obtain ⟨e1, e2⟩ := hold j r' e hj
      rw [hle.loc j (hS.rows j r' e2).lt] at hg
      exact hS.free j r' e2 g hg
  · intro j j' r1 r2 hj hj' hne g hg hg2
    by_cases e : j = S.N
    · subst e
      rw [hlocN] at hg
      obtain ⟨e1, e2⟩ := hold j' r2 (Ne.symm hne) hj'
      rw [hle.loc j' (hS.rows j' r2 e2).lt] at hg2
      exact hvN j' r2 e1 e2 g hg2 hg
    · obtain ⟨e1, e2⟩ := hold j r1 e hj
      rw [hle.loc j (hS.rows j r1 e2).lt] at hg
      by_cases e' : j' = S.N
      · subst e'
        rw [hlocN] at hg2
        exact hvN j r1 e1 e2 g hg hg2
      · obtain ⟨e3, e4⟩ := hold j' r2 e' hj'
        rw [hle.loc j' (hS.rows j' r2 e4).lt] at hg2
        exact hS.disj j j' r1 r2 e2 e4 hne g hg hg2
end
end Go.Aw
