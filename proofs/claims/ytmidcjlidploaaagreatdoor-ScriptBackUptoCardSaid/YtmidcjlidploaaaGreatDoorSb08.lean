/- Texts joined by a program: AwAppend. -/
import Derived.ArgAppend
import Derived.Lib.AppendStr
import Derived.Test.YtmidcjlidploaaaGreatDoorSb07

set_option linter.unusedSimpArgs false
set_option linter.unusedVariables false
namespace Go.Aw
open Go.RowKit
section
variable {P : Program} {S S' : Sg} {w w' : World} {H H' : Heap}
def SrcOK (S : Sg) (w : World) (u : Value) (news : List (List AV)) : Prop :=
  ∃ ad c l, u = .slice ad news.length c ∧ repL S w news.flatten l ∧ (∀ x ∈ l, x.oneCell' = true) ∧
    (news = [] ∨ ∃ b o, ad = some ⟨b, o, none⟩ ∧ ∀ j x, l[j]? = some x → w.cell? ⟨b, o + j, none⟩ = some x)
theorem src_sl {es : List (List AV)} {u : Value} (h : rep S w (.sl es) u) : SrcOK S w u es := by
  simp only [rep] at h
  obtain ⟨ad, n, c, rfl, rfl, _, _, h4⟩ := h
  rcases h4 with rfl | ⟨b, o, sz, rfl, hb, hs, hels⟩
  · exact ⟨ad, c, [], rfl, by simp [repL], by simp, .inl rfl⟩
  · obtain ⟨l, e1, e2, e3, e4⟩ := cellsAt_vals _ _ (elsAt_flat es o hels)
    exact ⟨_, c, l, rfl, e2, e3, .inr ⟨b, o, rfl, e4⟩⟩
theorem src_os {k : Nat} {r : Row} (h : RowOK S w k r) {a0 : Option Addr} {n0 c0 : Nat} (hs : S.loc k = .slice a0 n0 c0) : SrcOK S w (S.loc k) r.es := by
  obtain ⟨xs, ho, hr, h1⟩ := h.sl hs
  rcases ho.2 with ⟨hv, hn⟩ | ⟨g, cap, cur, hv, _⟩
  · have he := List.eq_nil_of_length_eq_zero hn
    have hx : xs = [] := List.eq_nil_of_length_eq_zero (by rw [ho.1, hn]; simp)
    exact ⟨none, 0, xs, by rw [hv, hn], hr, h1, .inl he⟩
  · refine ⟨some ⟨g, 0, none⟩, cap, xs, hv, hr, h1, .inr ⟨g, 0, rfl, fun j x hj => ?_⟩⟩
    have := ho.cells (g := g) (by rw [hv]; rfl) j x hj
    rwa [Addr.add_lit] at this
theorem src_oz {k a b : Nat} {r : Row} {u : Value} (hk : RowOK S w k r) (hu : rep S w (.oz k a b) u) : SrcOK S w u ((r.es.take b).drop a) ∧ b ≤ r.es.length ∧ a ≤ b := by
  simp only [rep] at hu
  obtain ⟨_, ad, n, c, ad', cc, hloc, rfl, hab, hbn, hpos, _, hnc0, _, _⟩ := hu
  obtain ⟨xs, ho, hr, h1⟩ := hk.sl hloc
  have hn : n = r.es.length := by
    rcases ho.2 with ⟨hv, hn⟩ | ⟨g, cap, cur, hv, _⟩
    · rw [hloc] at hv; injection hv with _ h2 _; omega
    · rw [hloc] at hv; injection hv
  subst hn
  refine ⟨?_, hbn, hab⟩
  have hlen : ((r.es.take b).drop a).length = b - a := by simp; omega
  rcases Nat.lt_or_ge a b with hlt | hge
  · obtain ⟨g, rfl, rfl⟩ := hpos (by omega)
    have hne : r.es ≠ [] := fun e => by rw [e] at hbn; simp at hbn; omega
    obtain ⟨g', n', c', hl', hels, _⟩ := hk.els hloc hne
    rw [hloc] at hl'
    injection hl' with e1 _ _
    injection e1 with e1
    injection e1 with e1
    subst e1
    have h2 := elsAt_drop _ 0 a (elsAt_take r.es 0 b hels)
    rw [Nat.zero_add, hk.sz] at h2
    obtain ⟨l, q1, q2, q3, q4⟩ := cellsAt_vals _ _ (elsAt_flat _ _ h2)
    exact ⟨_, cc, l, by rw [hlen], q2, q3, .inr ⟨g, a * S.sz k, rfl, q4⟩⟩
  · have he : (r.es.take b).drop a = [] := List.eq_nil_of_length_eq_zero (by omega)
    exact ⟨ad', cc, [], by rw [hlen], by rw [he]; simp [repL], by simp, .inl he⟩
theorem flatten_take : ∀ (es : List (List AV)) (a : Nat) {sz : Nat}, (∀ c ∈ es, c.length = sz) → (es.take a).flatten = es.flatten.take (a * sz)
  | [], _, _, _ => by simp
  | x :: r, 0, _, _ => by simp
  | x :: r, a + 1, sz, hl => by
    have hx := hl x (by simp)
    rw [List.take_succ_cons, List.flatten_cons, List.flatten_cons, flatten_take r a (fun c hc => hl c (by simp [hc])), Nat.add_mul, Nat.one_mul, List.take_append, hx]
    rw [List.take_of_length_le (l := x) (by omega)]
    congr 2
    omega
theorem flatten_drop : ∀ (es : List (List AV)) (a : Nat) {sz : Nat}, (∀ c ∈ es, c.length = sz) → (es.drop a).flatten = es.flatten.drop (a * sz)
  | [], _, _, _ => by simp
  | x :: r, 0, _, _ => by simp
  | x :: r, a + 1, sz, hl => by
    have hx := hl x (by simp)
    rw [List.drop_succ_cons, List.flatten_cons, flatten_drop r a (fun c hc => hl c (by simp [hc])), Nat.add_mul, Nat.one_mul, List.drop_append, hx]
    rw [List.drop_eq_nil_of_le (as := x) (by omega), List.nil_append]
    congr 1
    omega
theorem St.storeE (hS : St S w H) {k : Nat} {r : Row} (hk : H k = some r) {a : Nat} {news : List (List AV)} {l : List Value} (hlen : ∀ c ∈ news, c.length = r.sz) (ha : a + news.length ≤ r.es.length) (hne0 : r.es ≠ []) {ad0 : Option Addr} {n0 c0 : Nat} (hs0 : S.loc k = .slice ad0 n0 c0)
    (hr : repL S w news.flatten l) (h1 : ∀ u ∈ l, u.oneCell' = true) :
    ∃ g n c w', S.loc k = .slice (some ⟨g, 0, none⟩) n c ∧ (∀ P : Program, (storeCells ⟨g, a * r.sz, none⟩ l).run P w = .ok () w') ∧
      St S w' (updH H k (some { r with es := r.es.take a ++ news ++ r.es.drop (a + news.length) })) ∧ Grow S w S w' := by
  have hR := hS.rows k r hk
  obtain ⟨g, cap, cur, hloc, hg, hnc, hcm, hcs, hrep, hone⟩ := hR.open hs0 hne0
  have hll : l.length = news.length * r.sz := by rw [repL_len _ _ hr, flat_len news hlen]
  have hmul : (a + news.length) * r.sz ≤ r.es.length * r.sz := Nat.mul_le_mul_right _ ha
  have hmul2 : r.es.length * r.sz ≤ cap * r.sz := Nat.mul_le_mul_right _ hnc
  rw [Nat.add_mul] at hmul
  have hst : ∀ P : Program, _ := fun P => run_storeCells_at (P := P) g (a * r.sz) r.e l 0 cur w hg (by rw [hll, hcs]; omega) h1
  simp only [Nat.add_zero] at hst
  refine ⟨g, _, cap, _, hloc, hst, ?_, ?_⟩
  · have hsame : ∀ j, j ≠ g → (w.setRow g (List.take (a * r.sz) cur.toList ++ l ++ List.drop (a * r.sz + l.length) cur.toList).toArray).heap[j]? = w.heap[j]? := fun j hj => setRow_other w g j _ hj
    have hgf : ¬ S.fz g := hS.free k r hk g (by rw [hloc]; rfl)
    have hkept : Kept S w (w.setRow g (List.take (a * r.sz) cur.toList ++ l ++ List.drop (a * r.sz + l.length) cur.toList).toArray) := fun j hj => hsame j (fun e => hgf (e ▸ hS.ro_fz j hj))
    have hnl : (r.es.take a ++ news ++ r.es.drop (a + news.length)).length = r.es.length := by simp; omega
    have e2 : List.take (r.es.length * r.sz) (List.take (a * r.sz) cur.toList ++ l ++ List.drop (a * r.sz + l.length) cur.toList) =
        (cur.toList.take (r.es.length * r.sz)).take (a * r.sz) ++ l ++ (cur.toList.take (r.es.length * r.sz)).drop (a * r.sz + l.length) := by
      rw [List.take_take, Nat.min_eq_left (by omega), List.drop_take]
      rw [List.take_append, List.take_append]
      simp only [List.length_append, List.length_take, Array.length_toList]
      rw [Nat.min_eq_left (by omega : a * r.sz ≤ cur.size)]
      rw [List.take_of_length_le (l := List.take (a * r.sz) cur.toList) (by simp; omega), List.take_of_length_le (l := l) (by omega)]
    refine ⟨hS.ro_fz, fun j hj => by simpa using hS.fz_lt j hj, ?_, ?_, ?_, hS.tabs.keep S.le_refl hkept⟩
    · intro j r' hj
      by_cases e : j = k
      · subst e
        rw [updH_self] at hj
        injection hj with hj
        subst hj
        refine ⟨hR.lt, hR.sz, hR.pos, ?_, .inl ?_⟩
        · intro c hc
          rcases List.mem_append.1 hc with hc | hc
          · rcases List.mem_append.1 hc with hc | hc
            · exact hR.len c (List.mem_of_mem_take hc)
            · exact hlen c hc
          · exact hR.len c (List.mem_of_mem_drop hc)
        · refine ⟨(List.take (a * r.sz) cur.toList ++ l ++ List.drop (a * r.sz + l.length) cur.toList).take (r.es.length * r.sz), ⟨?_, .inr ⟨g, cap, _, by rw [hnl]; exact hloc, Nat.zero_le _, setRow_heap w g cur _ _ _ hg, by rw [hnl]; exact hnc, hcm, ?_, by rw [hnl]⟩⟩, ?_, ?_⟩
          · rw [hnl]
            simp only [List.length_take, List.length_append, List.length_drop, Array.length_toList]
            omega
          · simp only [List.size_toArray, List.length_append, List.length_take, List.length_drop, Array.length_toList]
            omega
          · have hx := (repL_mono (S.le_refl) hkept _ _ hrep)
            have hy := (repL_mono (S.le_refl) hkept _ _ hr)
            have e1 : (r.es.take a ++ news ++ r.es.drop (a + news.length)).flatten = r.es.flatten.take (a * r.sz) ++ news.flatten ++ r.es.flatten.drop (a * r.sz + l.length) := by
              rw [List.flatten_append, List.flatten_append, flatten_take _ _ hR.len, flatten_drop _ _ hR.len, Nat.add_mul, hll]
            rw [e1, e2]
            exact repL_append _ _ _ _ (repL_append _ _ _ _ (repL_take _ _ _ hx) hy) (repL_drop _ _ _ hx)
          · intro u hu
            rw [e2] at hu
            simp only [List.mem_append] at hu
            rcases hu with (hu | hu) | hu
            · exact hone u (List.mem_of_mem_take hu)
            · exact h1 u hu
            · exact hone u (List.mem_of_mem_drop hu)
      · rw [updH_ne _ _ _ _ e] at hj
        exact (hS.rows j r' hj).keep S.le_refl hkept fun g' hg' => hsame g' (fun e' => hS.disj j k r' r hj hk e g' hg' (by rw [hloc, e']; rfl))
    · intro j r' hj g' hg'
      by_cases e : j = k
      · subst e; exact hS.free j r hk g' hg'
      · rw [updH_ne _ _ _ _ e] at hj; exact hS.free j r' hj g' hg'
    · intro j j' r1 r2 hj hj' hne' g' hg' hg2
      have p : ∀ j r', updH H k (some { r with es := r.es.take a ++ news ++ r.es.drop (a + news.length) }) j = some r' → ∃ r'', H j = some r'' := fun j r' hj => by
        by_cases e : j = k
        · subst e; exact ⟨r, hk⟩
        · rw [updH_ne _ _ _ _ e] at hj; exact ⟨_, hj⟩
      obtain ⟨q1, hq1⟩ := p j r1 hj
      obtain ⟨q2, hq2⟩ := p j' r2 hj'
      exact hS.disj j j' q1 q2 hq1 hq2 hne' g' hg' hg2
  · refine ⟨S.le_refl, fun _ h => h, rfl, rfl, rfl, by simp, fun j hj => setRow_other w g j _ (fun e => hS.free k r hk g (by rw [hloc]; rfl) (e ▸ hj)), fun _ h => .inl h⟩
theorem updH_id {k : Nat} {r : Row} (hk : H k = some r) : updH H k (some r) = H := by
  funext j
  by_cases e : j = k
  · subst e; rw [updH_same, hk]
  · rw [updH_ne _ _ _ _ e]
theorem St.copy (hS : St S w H) {k : Nat} {r : Row} (hk : H k = some r) {t e sz bytes : Nat} {t' ty : TypeId} (he : elemT P t = some (e, sz, bytes)) (hsz : r.sz = sz) {a n : Nat} (han : a + n ≤ r.es.length) {x u : Value} {news : List (List AV)} (hu : SrcOK S w u news) (hlen : allLen sz news)
    (hx : ∃ ad cc, x = .slice ad n cc ∧ (0 < n → ∃ g n' c', S.loc k = .slice (some ⟨g, 0, none⟩) n' c' ∧ ad = some ⟨g, a * r.sz, none⟩)) :
    ∃ w', (Builtin.copy_ #[t, t'] ty #[x, u]).run P w = .ok (goInt (min news.length n : Nat)) w' ∧ St S w' (updH H k (some { r with es := r.es.take a ++ news.take (min news.length n) ++ r.es.drop (a + min news.length n) })) ∧ Grow S w S w' := by
  obtain ⟨inf, z, hut, hi, hsz', hby, hpos, hbpos, hz, hzs⟩ := elemT_spec he
  obtain ⟨ad, cc, rfl, hxp⟩ := hx
  obtain ⟨sa, sc, l, rfl, hl, hl1, hsrc⟩ := hu
  have hlen' := allLen_iff.1 hlen
  rcases Nat.eq_zero_or_pos (min news.length n) with h0 | h0
  · refine ⟨w, ?_, ?_, Grow.refl S w⟩
    · have hm0 : Nat.min news.length n = 0 := h0
      have hlz : ∀ a : Addr, (loadCells a 0).run P w = .ok #[] w := fun a => by simpa using run_loadCells_list (P := P) w a [] (by simp)
      rw [h0]
      cases ad <;> cases sa <;> simp [Builtin.copy_, run_underlying hut, Builtin.lenOf, Builtin.firstCells, sizeOf, typeInfo, hi, hm0, hlz, storeCells]
    · rw [h0]
      have : ({ r with es := r.es.take a ++ news.take 0 ++ r.es.drop (a + 0) } : Row) = r := by simp
      rw [this, updH_id hk]
      exact hS
  · have hn0 : 0 < n := by omega
    obtain ⟨g, n', c', hloc, rfl⟩ := hxp hn0
    have hne0 : r.es ≠ [] := fun e => by rw [e] at han; simp at han; omega
    have hm : (news.take (min news.length n)).length = min news.length n := by simp
    have hfl : (news.take (min news.length n)).flatten = news.flatten.take (min news.length n * sz) := flatten_take _ _ hlen'
    have hr' : repL S w (news.take (min news.length n)).flatten (l.take (min news.length n * sz)) := by rw [hfl]; exact repL_take _ _ _ hl
    obtain ⟨g', n2, c2, w', hloc', hst, q1, q2⟩ := hS.storeE hk (a := a) (news := news.take (min news.length n)) (l := l.take (min news.length n * sz)) (fun c hc => by rw [hsz]; exact hlen' c (List.mem_of_mem_take hc)) (by rw [hm]; omega) hne0 hloc hr' (fun u hu => hl1 u (List.mem_of_mem_take hu))
    rw [hloc] at hloc'
    injection hloc' with i1 _ _
    injection i1 with i1
    injection i1 with i1
    subst i1
    rw [hm] at q1
    refine ⟨w', ?_, q1, q2⟩
    rcases hsrc with hsrc | ⟨b, o, rfl, hcells⟩
    · rw [hsrc] at h0; simp at h0
    · have hll : l.length = news.length * sz := by rw [repL_len _ _ hl, flat_len news hlen']
      have hlt : (l.take (min news.length n * sz)).length = min news.length n * sz := by
        rw [List.length_take, hll]
        exact Nat.min_eq_left (Nat.mul_le_mul_right _ (Nat.min_le_left _ _))
      have hld := run_loadCells_list (P := P) w ⟨b, o, none⟩ (l.take (min news.length n * sz)) (fun j v hj => by
        rw [Addr.add_lit]
        refine hcells j v ?_
        rw [List.getElem?_take] at hj
        split at hj
        · exact hj
        · simp at hj)
      rw [hlt] at hld
      have hmin : Nat.min news.length n = min news.length n := rfl
      simp [Builtin.copy_, run_underlying hut, Builtin.lenOf, Builtin.firstCells, sizeOf, typeInfo, hi, hsz', hmin, hld, hst P]
theorem zeroCells_list (z : Array Value) (hz : 0 < z.size) : ∀ m, (Builtin.zeroCells z m).toList = (List.replicate m z.toList).flatten
  | 0 => by simp [Builtin.zeroCells]
  | m + 1 => by
    have ih := zeroCells_list z hz m
    rw [show List.replicate (m + 1) z.toList = List.replicate m z.toList ++ [z.toList] from List.replicate_succ', List.flatten_append, ← ih]
    simp only [Builtin.zeroCells, Array.toList_map, Array.toList_range, Nat.add_mul, Nat.one_mul, List.flatten_cons, List.flatten_nil, List.append_nil]
    rw [List.range_add, List.map_append]
    congr 1
    apply List.ext_getElem
    · simp
    · intro i h1 h2
      simp only [List.length_map, List.length_range] at h1
      simp [Nat.add_comm (m * z.size), Nat.add_mul_mod_self_right, Nat.mod_eq_of_lt h1, h1]
theorem St.clear (hS : St S w H) {k : Nat} {r : Row} (hk : H k = some r) {t e sz bytes : Nat} {ty : TypeId} {zs : List AV} (he : elemT P t = some (e, sz, bytes)) (hzs : zeroT P e = some zs) (hsz : r.sz = sz) {a n : Nat} (han : a + n ≤ r.es.length) {x : Value}
    (hx : ∃ ad cc, x = .slice ad n cc ∧ (0 < n → ∃ g n' c', S.loc k = .slice (some ⟨g, 0, none⟩) n' c' ∧ ad = some ⟨g, a * r.sz, none⟩)) :
    ∃ w', (Builtin.clear_ #[t] ty #[x]).run P w = .ok (.tuple #[]) w' ∧ St S w' (updH H k (some { r with es := r.es.take a ++ List.replicate n zs ++ r.es.drop (a + n) })) ∧ Grow S w S w' := by
  obtain ⟨inf, z, hut, hi, hsz', hby, hpos, hbpos, hz, hzsz⟩ := elemT_spec he
  obtain ⟨i', v, hi', hiz, rfl, hvs, hne, h1⟩ := zeroT_spec hzs
  rw [hi] at hi'
  injection hi' with hi'
  subst hi'
  rw [hz] at hiz
  injection hiz with hiz
  subst hiz
  obtain ⟨ad, cc, rfl, hxp⟩ := hx
  rcases Nat.eq_zero_or_pos n with h0 | h0
  · subst h0
    refine ⟨w, ?_, ?_, Grow.refl S w⟩
    · cases ad <;> simp [Builtin.clear_, run_underlying hut]
    · have : ({ r with es := r.es.take a ++ List.replicate 0 (z.cells.toList.map zeroV) ++ r.es.drop (a + 0) } : Row) = r := by simp
      rw [this, updH_id hk]
      exact hS
  · obtain ⟨g, n', c', hloc, rfl⟩ := hxp h0
    have hne0 : r.es ≠ [] := fun e => by rw [e] at han; simp at han; omega
    have hrep : ∀ m, repL S w (List.replicate m (z.cells.toList.map zeroV)).flatten (List.replicate m z.cells.toList).flatten := by
      intro m
      induction m with
      | zero => simp [repL]
      | succ m ih => simp only [List.replicate_succ, List.flatten_cons]; exact repL_append _ _ _ _ (zeroL_rep _) ih
    obtain ⟨g', n2, c2, w', hloc', hst, q1, q2⟩ := hS.storeE hk (a := a) (news := List.replicate n (z.cells.toList.map zeroV)) (l := (List.replicate n z.cells.toList).flatten) (fun c hc => by rw [List.eq_of_mem_replicate hc]; simp; omega) (by rw [List.length_replicate]; omega) hne0 hloc (hrep n) (fun u hu => by
      obtain ⟨l, hl, hu⟩ := List.mem_flatten.1 hu
      rw [List.eq_of_mem_replicate hl] at hu
      exact h1 u hu)
    rw [hloc] at hloc'
    injection hloc' with i1 _ _
    injection i1 with i1
    injection i1 with i1
    subst i1
    rw [List.length_replicate] at q1
    refine ⟨w', ?_, q1, q2⟩
    obtain ⟨m, rfl⟩ : ∃ m, n = m + 1 := ⟨n - 1, by omega⟩
    simp [Builtin.clear_, run_underlying hut, zeroValue, typeInfo, hi, hz, zeroCells_list z.cells (by omega) (m + 1), hst P]
theorem run_append_empty {t ty e : TypeId} {i : TypeInfo} {size n c : Nat} {v : Value} {xs : List Value} (ht : P.underlying t = some (.slice e)) (hi : P.info? e = some i) (hown : w.ownsRow 0 e size v n xs) :
    (Builtin.append_ #[t, t] ty #[v, .slice none 0 c]).run P w = .ok v w := by
  rcases hown.2 with ⟨rfl, rfl⟩ | ⟨g, cap, cur, rfl, _, _, hnc, _⟩
  · simp [Builtin.append_, run_underlying ht, sizeOf, typeInfo, hi, Builtin.lenOf, Builtin.firstCells]
  · simp [Builtin.append_, run_underlying ht, sizeOf, typeInfo, hi, Builtin.lenOf, Builtin.firstCells, hnc, storeCells]
theorem run_append_nothing {t ty e : TypeId} {i : TypeInfo} {n c c2 : Nat} {b ad : Option Addr} (ht : P.underlying t = some (.slice e)) (hi : P.info? e = some i) (hnc : n ≤ c) :
    (Builtin.append_ #[t, t] ty #[.slice b n c, .slice ad 0 c2]).run P w = .ok (.slice b n c) w := by
  have hfc : (Builtin.firstCells i.size 0 (.slice ad 0 c2)).run P w = .ok #[] w := by
    cases ad with
    | none => rfl
    | some a => exact run_firstCells_some (P := P) w i.size 0 a 0 c2 [] (by simp) (by simp)
  cases b <;> simp [Builtin.append_, run_underlying ht, sizeOf, typeInfo, hi, Builtin.lenOf, hfc, hnc, storeCells]
theorem St.appendFin (hS : St S w H) {k : Nat} {r : Row} (hk : H k = some r) {xs l : List Value} {news : List (List AV)} (hr : repL S w r.es.flatten xs) (h1 : ∀ x ∈ xs, x.oneCell' = true) (hpos : 0 < r.sz)
    (hlen' : ∀ c ∈ news, c.length = r.sz) (hl : repL S w news.flatten l) (hl1 : ∀ x ∈ l, x.oneCell' = true) {v' : Value} {w' : World}
    (q2 : w'.ownsRow 0 r.e r.sz v' (r.es.length + news.length) (xs ++ l)) (q3 : w.grownBy w' (blk (S.loc k))) (q4 : blk v' = blk (S.loc k) ∨ blk v' = some w.heap.size) :
    (∃ a n c, v' = .slice a n c) ∧ St (S.addRow v' r.sz) w' (updH (updH H k none) S.N (some ⟨r.e, r.sz, r.es ++ news⟩)) ∧ Grow S w (S.addRow v' r.sz) w' := by
  have hR := hS.rows k r hk
  have hfree := hS.free k r hk
  have hsame : ∀ j, S.fz j → w'.heap[j]? = w.heap[j]? := fun j hj => q3.block j (hS.fz_lt j hj) (fun e => hfree j e.symm hj)
  have hkept : Kept S w w' := hS.kept hsame
  have hle := S.le_addRow v' r.sz
  have hlocN : (S.addRow v' r.sz).loc S.N = v' := by simp [Sg.addRow]
  have hnf : ∀ g, blk v' = some g → ¬ S.fz g := fun g hg hf => by
    rcases q4 with e | e
    · exact hfree g (e ▸ hg) hf
    · rw [e] at hg; injection hg with hg; subst hg; exact Nat.lt_irrefl _ (hS.fz_lt _ hf)
  have hold : ∀ j r', j ≠ S.N → updH (updH H k none) S.N (some ⟨r.e, r.sz, r.es ++ news⟩) j = some r' → j ≠ k ∧ H j = some r' := fun j r' hj h => by
    rw [updH_ne _ _ _ _ hj] at h
    by_cases e : j = k
    · subst e; rw [updH_same] at h; simp at h
    · rw [updH_ne _ _ _ _ e] at h; exact ⟨e, h⟩
  have hblk : ∀ j r', j ≠ k → H j = some r' → ∀ g, blk (S.loc j) = some g → some g ≠ blk (S.loc k) ∧ g < w.heap.size := fun j r' hj hj' g hg =>
    ⟨fun e => hS.disj j k r' r hj' hk hj g hg e.symm, (hS.rows j r' hj').block_lt hg⟩
  have hvN : ∀ j r', j ≠ k → H j = some r' → ∀ g, blk (S.loc j) = some g → blk v' ≠ some g := fun j r' hj hj' g hg e => by
    obtain ⟨e1, e2⟩ := hblk j r' hj hj' g hg
    rcases q4 with e' | e'
    · exact e1 (by rw [← e', e])
    · rw [e'] at e; injection e with e; omega
  refine ⟨?_, ⟨hS.ro_fz, fun j hj => Nat.lt_of_lt_of_le (hS.fz_lt j hj) q3.size, ?_, ?_, ?_, hS.tabs.keep hle hkept⟩, ⟨hle, fun _ h => h, q3.os, q3.tape, q3.output, q3.size, hsame, fun _ h => .inl h⟩⟩
  · rcases q2.2 with ⟨h, _⟩ | ⟨g, cap, cur, h, _⟩
    · exact ⟨_, _, _, h⟩
    · exact ⟨_, _, _, h⟩
  · intro j r' hj
    by_cases e : j = S.N
    · subst e
      rw [updH_same] at hj
      injection hj with hj
      subst hj
      refine ⟨Nat.lt_succ_self _, by simp [Sg.addRow], hpos, ?_, .inl ⟨xs ++ l, ?_, ?_, ?_⟩⟩
      · intro cs hcs
        rcases List.mem_append.1 hcs with hcs | hcs
        · exact hR.len cs hcs
        · exact hlen' cs hcs
      · rw [hlocN, List.length_append]; exact q2
      · rw [List.flatten_append]
        exact repL_append _ _ _ _ (repL_mono hle hkept _ _ hr) (repL_mono hle hkept _ _ hl)
      · intro x hx
        rcases List.mem_append.1 hx with hx | hx
        · exact h1 x hx
        · exact hl1 x hx
    · obtain ⟨e1, e2⟩ := hold j r' e hj
      exact (hS.rows j r' e2).keep hle hkept fun g hg => q3.block g (hblk j r' e1 e2 g hg).2 (hblk j r' e1 e2 g hg).1
  · intro j r' hj g hg
    by_cases e : j = S.N
    · subst e; rw [hlocN] at hg; exact hnf g hg
    · obtain ⟨e1, e2⟩ := hold j r' e hj
      rw [hle.loc j (hS.rows j r' e2).lt] at hg
      exact hS.free j r' e2 g hg
  · intro j j' r1 r2 hj hj' hne g hg hg2
    by_cases e : j = S.N
    · subst e
      rw [hlocN] at hg
      obtain ⟨e1, e2⟩ := hold j' r2 (Ne.symm hne) hj'
      rw [hle.loc j' (hS.rows j' r2 e2).lt] at hg2
      exact hvN j' r2 e1 e2 g hg2 hg
    · obtain ⟨e1, e2⟩ := hold j r1 e hj
      rw [hle.loc j (hS.rows j r1 e2).lt] at hg
      by_cases e' : j' = S.N
      · subst e'
        rw [hlocN] at hg2
        exact hvN j r1 e1 e2 g hg hg2
      · obtain ⟨e3, e4⟩ := hold j' r2 e' hj'
        rw [hle.loc j' (hS.rows j' r2 e4).lt] at hg2
        exact hS.disj j j' r1 r2 e2 e4 hne g hg hg2
theorem St.append (hS : St S w H) {k : Nat} {r : Row} (hk : H k = some r) {ad0 : Option Addr} {n0 c0 : Nat} (hs0 : S.loc k = .slice ad0 n0 c0) {t ty : TypeId} {bytes : Nat} (he : elemT P t = some (r.e, r.sz, bytes)) {news : List (List AV)} {u : Value} (hu : SrcOK S w u news)
    (hlen : allLen r.sz news) (hb : (r.es.length + news.length) * bytes ≤ 140737488355328) :
    ∃ v' w', (Builtin.append_ #[t, t] ty #[S.loc k, u]).run P w = .ok v' w' ∧ (∃ a n c, v' = .slice a n c) ∧
      St (S.addRow v' r.sz) w' (updH (updH H k none) S.N (some ⟨r.e, r.sz, r.es ++ news⟩)) ∧ Grow S w (S.addRow v' r.sz) w' := by
  have hR := hS.rows k r hk
  obtain ⟨inf, z, hut, hi, hsz, hby, hpos, hbpos, hz, hzs⟩ := elemT_spec he
  obtain ⟨xs, ho, hr, h1⟩ := hR.sl hs0
  obtain ⟨ad, c, l, rfl, hl, hl1, hsrc⟩ := hu
  have hlen' := allLen_iff.1 hlen
  have hll : l.length = news.length * r.sz := by rw [repL_len _ _ hl, flat_len news hlen']
  have hnm : r.es.length + news.length ≤ 140737488355328 := Nat.le_trans (Nat.le_mul_of_pos_right _ hbpos) hb
  have key : ∃ v' w', (Builtin.append_ #[t, t] ty #[S.loc k, .slice ad news.length c]).run P w = .ok v' w' ∧ w'.ownsRow 0 r.e r.sz v' (r.es.length + news.length) (xs ++ l) ∧ w.grownBy w' (blk (S.loc k)) ∧
      (blk v' = blk (S.loc k) ∨ blk v' = some w.heap.size) := by
    cases ad with
    | none =>
      have hn : news = [] := by
        rcases hsrc with h | ⟨b, o, h, _⟩
        · exact h
        · simp at h
      subst hn
      have hl0 : l = [] := List.eq_nil_of_length_eq_zero (by rw [hll]; simp)
      subst hl0
      exact ⟨S.loc k, w, run_append_empty hut hi ho, by simpa using ho, World.grownBy.refl w _, .inl rfl⟩
    | some a =>
      have hcells : ∀ j x, l[j]? = some x → w.cell? (a.add j) = some x := by
        rcases hsrc with h | ⟨b, o, h, hc⟩
        · subst h
          have hl0 : l = [] := List.eq_nil_of_length_eq_zero (by rw [hll]; simp)
          subst hl0
          simp
        · injection h with h
          subst h
          intro j x hj
          rw [Addr.add_lit]
          exact hc j x hj
      obtain ⟨v', w', q1, q2, q3, _, q5⟩ := run_append_own_at (P := P) w 0 t ty r.e inf z r.sz bytes hut hi hz hsz hby hzs hpos (S.loc k) r.es.length xs ho a news.length c l hll hcells hl1
        (by simp only [maxLen]; omega) hb (Nat.zero_le _)
      have hbk : blk (S.loc k) = (S.loc k).ownBlock := by rw [hs0]; exact blk_sl _ _ _
      have hbv : blk v' = v'.ownBlock := by
        rcases q2.2 with ⟨h, _⟩ | ⟨_, _, _, h, _⟩ <;> (rw [h]; rfl)
      exact ⟨v', w', q1, q2, by rw [hbk]; exact q3, by rw [hbk, hbv]; exact q5⟩
  obtain ⟨v', w', q1, q2, q3, q4⟩ := key
  exact ⟨v', w', q1, hS.appendFin hk hr h1 hpos hlen' hl hl1 q2 q3 q4⟩
theorem strA_len (s : ByteArray) : (strA s).length = s.size := by
  rw [strA, List.length_map, Array.length_toList]
  rfl
theorem strA_one (s : ByteArray) : ∀ c ∈ strA s, c.length = 1 := by
  intro c hc
  simp only [strA, List.mem_map] at hc
  obtain ⟨b, _, rfl⟩ := hc
  rfl
theorem strA_rep {S : Sg} {w : World} (s : ByteArray) : repL S w (strA s).flatten (Lib.strCells s) := by
  unfold strA Lib.strCells
  generalize s.data.toList = l
  induction l with
  | nil => simp [repL]
  | cons b l ih =>
    simp only [List.map_cons, List.flatten_cons, List.singleton_append, repL]
    exact ⟨_, _, rfl, by simp only [rep], ih⟩
theorem byteT_spec {e : TypeId} (h : byteT P e = true) : ∃ i, P.info? e = some i ∧ i.zero = some (.int .u8 0) ∧ i.size = 1 ∧ i.bytes = 1 := by
  unfold byteT at h
  split at h
  · rename_i i hi
    split at h
    · rename_i hz
      simp only [Bool.and_eq_true, beq_iff_eq] at h
      exact ⟨i, hi, hz, h.1, h.2⟩
    · simp at h
  · simp at h
theorem run_append_str_at (base : Nat) (t u ty e : TypeId) (i : TypeInfo) (ht : P.underlying t = some (.slice e)) (hu : P.underlying u = some .string) (hi : P.info? e = some i) (hz : i.zero = some (.int .u8 0))
    (hsize : i.size = 1) (hby : i.bytes = 1)
    (v : Value) (n : Nat) (xs : List Value) (hown : w.ownsRow base e 1 v n xs) (s : ByteArray)
    (hbytes : n + s.size ≤ 140737488355328) (hbase : base ≤ w.heap.size) :
    ∃ v' w', (Builtin.append_ #[t, u] ty #[v, .string s]).run P w = .ok v' w' ∧ w'.ownsRow base e 1 v' (n + s.size) (xs ++ Lib.strCells s) ∧ w.grownBy w' v.ownBlock ∧ (v'.ownBlock = v.ownBlock ∨ v'.ownBlock = some w.heap.size) := by
  have h63 : n + s.size ≤ maxLen := by simp only [maxLen]; omega
  rcases hown.2 with ⟨rfl, rfl⟩ | ⟨g, cap, cur, rfl, hbg, hg, hnc, hcm, hcs, htake⟩
  · obtain ⟨v', w', h1, h2, h3, h4⟩ := Lib.run_append_own_string (P := P) w w.heap.size t u ty e i ht hu hi hz hsize hby (.slice none 0 0) 0 xs ⟨hown.1, .inl ⟨rfl, rfl⟩⟩ s h63 hbytes (Nat.le_refl _)
    by_cases hm : s.size = 0
    · have hv := h4.2 ⟨rfl, hm⟩
      refine ⟨v', w', h1, ⟨h2.1, ?_⟩, h3, .inl (by rw [hv])⟩
      rcases h2.2 with h | ⟨g, cap, cur, h, _⟩
      · exact .inl h
      · rw [hv] at h; cases h
    · have hr := run_append_nil_string (P := P) w t u ty e i (.int .u8 0) ht hu hi hz s (by omega) (by omega) (by rw [hby]; omega)
      have e0 := hr.symm.trans h1
      injection e0 with e1 e2
      refine ⟨v', w', h1, ⟨h2.1, ?_⟩, h3, .inr (by rw [← e1]; rfl)⟩
      rcases h2.2 with h | ⟨g, cap, cur, h, hg, r⟩
      · exact .inl h
      · exact .inr ⟨g, cap, cur, h, Nat.le_trans hbase hg, r⟩
  · obtain ⟨v', w', h1, h2, h3, _⟩ := Lib.run_append_own_string (P := P) w base t u ty e i ht hu hi hz hsize hby _ n xs hown s h63 hbytes hbase
    refine ⟨v', w', h1, h2, h3, ?_⟩
    by_cases hroom : n + s.size ≤ cap
    · have hr := Lib.run_append_room_string (P := P) w t u ty e i ht hu hi hsize g n cap cur hg s hroom (by have hcs' : cur.size = cap := by simpa using hcs
                                                                                                            omega)
      have e0 := hr.symm.trans h1
      injection e0 with e1 e2
      exact .inl (by rw [← e1]; rfl)
    · have hxl : xs.length = n := by simpa using hown.1
      have hr := Lib.run_append_grow_string (P := P) w t u ty e i (.int .u8 0) ht hu hi hz ⟨g, 0, none⟩ n cap xs (by rw [hsize]; simpa using hxl) (hown.cells (g := g) rfl) s (by omega) (by omega) (by rw [hby]; exact growslice_fits (by omega) (by omega))
      have e0 := hr.symm.trans h1
      injection e0 with e1 e2
      exact .inr (by rw [← e1]; rfl)
theorem St.appendStr (hS : St S w H) {k : Nat} {r : Row} (hk : H k = some r) {ad0 : Option Addr} {n0 c0 : Nat} (hs0 : S.loc k = .slice ad0 n0 c0) {t u ty : TypeId} {x : Nat × Nat} (he : elemT P t = some (r.e, x)) (hsz : r.sz = 1)
    (hu : P.underlying u = some .string) (hb0 : byteT P r.e = true) (s : ByteArray) (hb : r.es.length + s.size ≤ 140737488355328) :
    ∃ v' w', (Builtin.append_ #[t, u] ty #[S.loc k, .string s]).run P w = .ok v' w' ∧ (∃ a n c, v' = .slice a n c) ∧
      St (S.addRow v' r.sz) w' (updH (updH H k none) S.N (some ⟨r.e, r.sz, r.es ++ strA s⟩)) ∧ Grow S w (S.addRow v' r.sz) w' := by
  have hR := hS.rows k r hk
  obtain ⟨sz, bytes⟩ := x
  obtain ⟨inf, z, hut, hi, _⟩ := elemT_spec he
  obtain ⟨inf', hi', hz, hsize, hby⟩ := byteT_spec hb0
  obtain rfl : inf = inf' := by rw [hi] at hi'; injection hi'
  obtain ⟨xs, ho, hr, h1⟩ := hR.sl hs0
  rw [hsz] at ho
  obtain ⟨v', w', q1, q2, q3, q5⟩ := run_append_str_at (P := P) (w := w) 0 t u ty r.e inf hut hu hi hz hsize hby (S.loc k) r.es.length xs ho s hb (Nat.zero_le _)
  have hbk : blk (S.loc k) = (S.loc k).ownBlock := by rw [hs0]; exact blk_sl _ _ _
  have hbv : blk v' = v'.ownBlock := by
    rcases q2.2 with ⟨h, _⟩ | ⟨_, _, _, h, _⟩ <;> (rw [h]; rfl)
  exact ⟨v', w', q1, hS.appendFin hk hr h1 (by omega) (by rw [hsz]; exact strA_one s) (strA_rep s) (Lib.strCells_oneCell s) (by rw [hsz, strA_len]; exact q2) (by rw [hbk]; exact q3) (by rw [hbk, hbv]; exact q5)⟩
theorem rep_cl_cells {es : List (List AV)} {ad : Option Addr} {n : Nat} (h : rep S w (.cl es) (.slice ad n n)) {sz : Nat} (hl : allLen sz es) :
    ∃ l, l.length = es.length * sz ∧ repL S w es.flatten l ∧ (∀ x ∈ l, x.oneCell' = true) ∧ n = es.length ∧ n ≤ maxLen ∧ (es = [] ∨ ∃ b o, ad = some ⟨b, o, none⟩ ∧ ∀ j x, l[j]? = some x → w.cell? ⟨b, o + j, none⟩ = some x) := by
  simp only [rep] at h
  obtain ⟨ad', n', e, rfl, hm, h4⟩ := h
  injection e with e1 e2 e3
  subst e1 e2
  rcases h4 with rfl | ⟨b, o, sz', rfl, hb, hs, hels⟩
  · exact ⟨[], by simp, by simp [repL], by simp, rfl, hm, .inl rfl⟩
  · obtain ⟨l, e1, e2, e3, e4⟩ := cellsAt_vals _ _ (elsAt_flat es o hels)
    refine ⟨l, ?_, e2, e3, rfl, hm, .inr ⟨b, o, rfl, e4⟩⟩
    rw [repL_len _ _ e2, flat_len es (allLen_iff.1 hl)]
theorem cell_some {g : Nat} {cur : Array Value} {e : TypeId} {j : Nat} (h : w.heap[g]? = some (.cells cur e (0, 0))) (hj : j < cur.size) : (w.cell? ⟨g, j, none⟩).isSome = true := by
  simp [World.cell?, h, hj]
theorem frozen_none {g : Nat} {cur : Array Value} {e : TypeId} {j : Nat} (h : w.heap[g]? = some (.cells cur e (0, 0))) : w.frozen? ⟨g, j, none⟩ = false := by
  simp [World.frozen?, h]
theorem St.drop' {H' : Heap} (h : St S w H) (hs : ∀ k r, H' k = some r → H k = some r) : St S w H' :=
  ⟨h.ro_fz, h.fz_lt, fun k r hk => h.rows k r (hs k r hk), fun k r hk => h.free k r (hs k r hk), fun k k' r r' hk hk' => h.disj k k' r r' (hs k r hk) (hs k' r' hk'), h.tabs⟩
theorem St.newOwned (hS : St S w H) {e : TypeId} {sz : Nat} {es' : List (List AV)} {vals : List Value} {v' : Value} {w' : World} (hpos : 0 < sz) (hes : ∀ cs ∈ es', cs.length = sz) (hn0 : 0 < es'.length)
    (q2 : w'.ownsRow w.heap.size e sz v' es'.length vals) (q3 : w.grownBy w' none) (hr : repL S w es'.flatten vals) (h1 : ∀ x ∈ vals, x.oneCell' = true) :
    (∃ a n c, v' = .slice a n c) ∧ St (S.addRow v' sz) w' (updH H S.N (some ⟨e, sz, es'⟩)) ∧ Grow S w (S.addRow v' sz) w' ∧ ∃ g cap, v' = .slice (some ⟨g, 0, none⟩) es'.length cap ∧ es'.length ≤ cap := by
  obtain ⟨g, cap, cur, hv, hg0, hg, hnc, hcm, hcs, htk⟩ : ∃ g cap cur, v' = .slice (some ⟨g, 0, none⟩) es'.length cap ∧ w.heap.size ≤ g ∧ w'.heap[g]? = some (.cells cur e (0, 0)) ∧ es'.length ≤ cap ∧ cap ≤ maxLen ∧ cur.size = cap * sz ∧ cur.toList.take (es'.length * sz) = vals := by
    rcases q2.2 with ⟨_, h⟩ | ⟨g, cap, cur, h1, h2, h3, h4, h5, h6, h7⟩
    · omega
    · exact ⟨g, cap, cur, h1, h2, h3, h4, h5, h6, h7⟩
  subst hv
  have hsame : ∀ k, k < w.heap.size → w'.heap[k]? = w.heap[k]? := fun k hk => q3.block k hk (by simp)
  have hkept : Kept S w w' := fun k hk => hsame k (hS.fz_lt k (hS.ro_fz k hk))
  have hle := S.le_addRow (.slice (some ⟨g, 0, none⟩) es'.length cap) sz
  have hlocN : (S.addRow (.slice (some ⟨g, 0, none⟩) es'.length cap) sz).loc S.N = .slice (some ⟨g, 0, none⟩) es'.length cap := by simp [Sg.addRow]
  have hold : ∀ k r, k ≠ S.N → updH H S.N (some ⟨e, sz, es'⟩) k = some r → H k = some r := fun k r hk h => by rwa [updH_ne _ _ _ _ hk] at h
  refine ⟨⟨_, _, _, rfl⟩, ⟨hS.ro_fz, fun k hk => Nat.lt_of_lt_of_le (hS.fz_lt k hk) q3.size, ?_, ?_, ?_, hS.tabs.keep hle hkept⟩, ⟨hle, fun _ h => h, q3.os, q3.tape, q3.output, q3.size, fun k hk => hsame k (hS.fz_lt k hk), fun _ h => .inl h⟩, g, cap, rfl, hnc⟩
  · intro k r hk
    by_cases e0 : k = S.N
    · subst e0
      rw [updH_same] at hk
      injection hk with hk
      subst hk
      refine ⟨Nat.lt_succ_self _, by simp [Sg.addRow], hpos, hes, .inl ⟨vals, ?_, repL_mono hle hkept _ _ hr, h1⟩⟩
      rw [hlocN]
      exact ⟨q2.1, .inr ⟨g, cap, cur, rfl, Nat.zero_le _, hg, hnc, hcm, hcs, htk⟩⟩
    · have hk' := hold k r e0 hk
      exact (hS.rows k r hk').keep hle hkept fun g' hg' => hsame g' ((hS.rows k r hk').block_lt hg')
  · intro k r hk g' hg'
    by_cases e0 : k = S.N
    · subst e0
      rw [hlocN] at hg'
      simp only [blk, Option.some.injEq] at hg'
      subst hg'
      exact fun h => by have := hS.fz_lt _ h; omega
    · have hk' := hold k r e0 hk
      rw [hle.loc k (hS.rows k r hk').lt] at hg'
      exact hS.free k r hk' g' hg'
  · intro k k' r r' hk hk' hne' g' hg' hg2
    by_cases e0 : k = S.N
    · subst e0
      rw [hlocN] at hg'
      simp only [blk, Option.some.injEq] at hg'
      subst hg'
      have hk2 := hold k' r' (Ne.symm hne') hk'
      rw [hle.loc k' (hS.rows k' r' hk2).lt] at hg2
      have := (hS.rows k' r' hk2).block_lt hg2
      omega
    · have hk2 := hold k r e0 hk
      rw [hle.loc k (hS.rows k r hk2).lt] at hg'
      by_cases e1 : k' = S.N
      · subst e1
        rw [hlocN] at hg2
        simp only [blk, Option.some.injEq] at hg2
        subst hg2
        have := (hS.rows k r hk2).block_lt hg'
        omega
      · have hk3 := hold k' r' e1 hk'
        rw [hle.loc k' (hS.rows k' r' hk3).lt] at hg2
        exact hS.disj k k' r r' hk2 hk3 hne' g' hg' hg2
theorem St.appendNew (hS : St S w H) {es : List (List AV)} {us : Value} (hus : rep S w (.cl es) us) {t ty e : TypeId} {sz bytes : Nat} (he : elemT P t = some (e, sz, bytes)) {news : List (List AV)} {u : Value} (hu : SrcOK S w u news) (hne : news ≠ [])
    (hes : allLen sz es) (hlen : allLen sz news) (hb : (es.length + news.length) * bytes ≤ 140737488355328) :
    ∃ v' w', (Builtin.append_ #[t, t] ty #[us, u]).run P w = .ok v' w' ∧ (∃ a n c, v' = .slice a n c) ∧
      St (S.addRow v' sz) w' (updH H S.N (some ⟨e, sz, es ++ news⟩)) ∧ Grow S w (S.addRow v' sz) w' := by
  obtain ⟨inf, z, hut, hi, hsz, hby, hpos, hbpos, hz, hzs⟩ := elemT_spec he
  have hus0 := hus
  simp only [rep] at hus0
  obtain ⟨ad0, n0, rfl, _⟩ := hus0
  obtain ⟨l0, hl0, hr0, h10, rfl, hm0, hc0⟩ := rep_cl_cells hus hes
  obtain ⟨ad, c, l, rfl, hl, hl1, hsrc⟩ := hu
  have hlen' := allLen_iff.1 hlen
  have hes' := allLen_iff.1 hes
  have hll : l.length = news.length * sz := by rw [repL_len _ _ hl, flat_len news hlen']
  have hn1 : 0 < news.length := List.length_pos_iff.2 hne
  have hnm : es.length + news.length ≤ 140737488355328 := Nat.le_trans (Nat.le_mul_of_pos_right _ hbpos) hb
  obtain ⟨b, o, rfl, hcell⟩ : ∃ b o, ad = some ⟨b, o, none⟩ ∧ ∀ j x, l[j]? = some x → w.cell? ⟨b, o + j, none⟩ = some x := by
    rcases hsrc with h | h
    · exact absurd h hne
    · exact h
  have hcells : ∀ j x, l[j]? = some x → w.cell? ((⟨b, o, none⟩ : Addr).add j) = some x := fun j x hj => by rw [Addr.add_lit]; exact hcell j x hj
  have key : ∃ v' w', (Builtin.append_ #[t, t] ty #[.slice ad0 es.length es.length, .slice (some ⟨b, o, none⟩) news.length c]).run P w = .ok v' w' ∧ w'.ownsRow w.heap.size e sz v' (es.length + news.length) (l0 ++ l) ∧ w.grownBy w' none := by
    cases ad0 with
    | none =>
      have he0 : es = [] := by
        rcases hc0 with h | ⟨_, _, h, _⟩
        · exact h
        · cases h
      subst he0
      obtain rfl : l0 = [] := List.eq_nil_of_length_eq_zero (by simpa using hl0)
      obtain ⟨v', w', q1, q2, q3, _⟩ := run_append_own (P := P) w w.heap.size t ty e inf z sz bytes hut hi hz hsz hby hzs hpos (.slice none 0 0) 0 [] (World.ownsRow_nil w _ e sz) ⟨b, o, none⟩ news.length c l hll hcells hl1 (by simp only [maxLen]; omega) hb (Nat.le_refl _)
      exact ⟨v', w', q1, q2, q3⟩
    | some a0 =>
      have holds : ∀ j x, l0[j]? = some x → w.cell? (a0.add j) = some x := by
        rcases hc0 with h | ⟨b0, o0, h, hc⟩
        · subst h
          obtain rfl : l0 = [] := List.eq_nil_of_length_eq_zero (by simpa using hl0)
          simp
        · injection h with h
          subst h
          intro j x hj
          rw [Addr.add_lit]
          exact hc j x hj
      exact run_append_arg_grows (P := P) w t ty e inf z sz bytes hut hi hz hsz hby hzs hpos a0 es.length es.length l0 hl0 holds ⟨b, o, none⟩ news.length c l hll hcells (by omega) (by simp only [maxLen]; omega) hb
  obtain ⟨v', w', q1, q2, q3⟩ := key
  have hf : (es ++ news).flatten = es.flatten ++ news.flatten := List.flatten_append
  obtain ⟨p1, p2, p3, _⟩ := hS.newOwned (es' := es ++ news) hpos (fun cs hcs => by
      rcases List.mem_append.1 hcs with hcs | hcs
      · exact hes' cs hcs
      · exact hlen' cs hcs) (by simp; omega) (by rw [List.length_append]; exact q2) q3 (by rw [hf]; exact repL_append _ _ _ _ hr0 hl) (fun x hx => by
      rcases List.mem_append.1 hx with hx | hx
      · exact h10 x hx
      · exact hl1 x hx)
  exact ⟨v', w', q1, p1, p2, p3⟩
theorem St.appendOz (hS : St S w H) {k a b : Nat} {r : Row} (hk : H k = some r) {us : Value} (hus : rep S w (.oz k a b) us) {t ty : TypeId} {bytes : Nat} (he : elemT P t = some (r.e, r.sz, bytes)) {news : List (List AV)} {u : Value} (hu : SrcOK S w u news)
    (hne : news ≠ []) (hb : b = r.es.length) (hlen : allLen r.sz news) (hsize : (r.es.length + news.length) * bytes ≤ 140737488355328) :
    ∃ v' w' vl pre, (Builtin.append_ #[t, t] ty #[us, u]).run P w = .ok v' w' ∧ St (S.addRow vl r.sz) w' (updH (updH H k none) S.N (some ⟨r.e, r.sz, pre ++ (r.es.drop a ++ news)⟩)) ∧ Grow S w (S.addRow vl r.sz) w' ∧
      rep (S.addRow vl r.sz) w' (.oz S.N pre.length (pre.length + (b - a) + news.length)) v' ∧ pre.length ≤ a := by
  have hR := hS.rows k r hk
  obtain ⟨inf, z, hut, hi, hsz, hby, hpos, hbpos, hz, hzs⟩ := elemT_spec he
  have hus0 := hus
  simp only [rep] at hus0
  obtain ⟨hkN, ad0, n0, c0, ad1, cc, hloc, rfl, hab, hbn, hadr, hzero, hnc, hc1, hc2⟩ := hus0
  have hsub : ∀ x : Option Row, ∀ j r', updH (updH H k none) S.N x j = some r' → updH H S.N x j = some r' := fun x j r' h => by
    by_cases e : j = S.N
    · subst e; rw [updH_same] at h ⊢; exact h
    · rw [updH_ne _ _ _ _ e] at h ⊢
      by_cases e2 : j = k
      · subst e2; rw [updH_same] at h; cases h
      · rw [updH_ne _ _ _ _ e2] at h; exact h
  have hu0 := hu
  obtain ⟨ad, c, l, rfl, hl, hl1, hsrc⟩ := hu0
  have hlen' := allLen_iff.1 hlen
  have hll : l.length = news.length * r.sz := by rw [repL_len _ _ hl, flat_len news hlen']
  have hn1 : 0 < news.length := List.length_pos_iff.2 hne
  have hnm : r.es.length + news.length ≤ 140737488355328 := Nat.le_trans (Nat.le_mul_of_pos_right _ hbpos) hsize
  obtain ⟨bn, on, rfl, hcell⟩ : ∃ b o, ad = some ⟨b, o, none⟩ ∧ ∀ j x, l[j]? = some x → w.cell? ⟨b, o + j, none⟩ = some x := by
    rcases hsrc with h | h
    · exact absurd h hne
    · exact h
  have hcells : ∀ j x, l[j]? = some x → w.cell? ((⟨bn, on, none⟩ : Addr).add j) = some x := fun j x hj => by rw [Addr.add_lit]; exact hcell j x hj
  rcases Nat.lt_or_ge 0 cc with hac | hac
  · obtain ⟨g, rfl, rfl⟩ := hadr hac
    obtain ⟨xs, ho, hr, h1⟩ := hR.sl hloc
    obtain ⟨cur, hgc, hcs, htk, rfl⟩ : ∃ cur, w.heap[g]? = some (.cells cur r.e (0, 0)) ∧ cur.size = c0 * r.sz ∧ cur.toList.take (r.es.length * r.sz) = xs ∧ n0 = r.es.length := by
      rcases ho.2 with ⟨hv, _⟩ | ⟨g', cap, cur, hv, _, h3, h4, h5, h6, h7⟩
      · rw [hloc] at hv; cases hv
      · rw [hloc] at hv; injection hv with e1 e2 e3; injection e1 with e1; injection e1 with e1; subst e1 e2 e3
        exact ⟨cur, h3, h6, h7, rfl⟩
    have hxl : xs.length = r.es.length * r.sz := ho.1
    have hxc : ∀ j x, xs[j]? = some x → w.cell? ⟨g, j, none⟩ = some x := fun j x hj => by
      have := ho.cells (g := g) (by rw [hloc]; rfl) j x hj
      rwa [Addr.add_lit, Nat.zero_add] at this
    subst hb
    rcases Nat.lt_or_ge cc (r.es.length - a + news.length) with hgrow | hroom
    · have hoc : ∀ j x, (xs.drop (a * r.sz))[j]? = some x → w.cell? ((⟨g, a * S.sz k, none⟩ : Addr).add j) = some x := fun j x hj => by
        rw [List.getElem?_drop] at hj
        rw [Addr.add_lit, ← hR.sz]
        exact hxc _ _ hj
      obtain ⟨v', w', q1, q2, q3⟩ := run_append_arg_grows (P := P) w t ty r.e inf z r.sz bytes hut hi hz hsz hby hzs hpos ⟨g, a * S.sz k, none⟩ (r.es.length - a) cc (xs.drop (a * r.sz)) (by rw [List.length_drop, hxl, Nat.sub_mul]) hoc ⟨bn, on, none⟩ news.length c l hll hcells hgrow (by simp only [maxLen]; omega)
        (Nat.le_trans (Nat.mul_le_mul_right _ (by omega)) hsize)
      have hle : (r.es.drop a ++ news).length = r.es.length - a + news.length := by simp
      have hrd : repL S w (r.es.drop a).flatten (xs.drop (a * r.sz)) := by
        rw [flatten_drop r.es a hR.len]
        exact repL_drop _ _ _ hr
      obtain ⟨_, p2, p3, g', cap', rfl, hcap⟩ := hS.newOwned (es' := r.es.drop a ++ news) (vals := xs.drop (a * r.sz) ++ l) hpos (fun cs hcs => by
          rcases List.mem_append.1 hcs with hcs | hcs
          · exact hR.len cs (List.mem_of_mem_drop hcs)
          · exact hlen' cs hcs) (by rw [hle]; omega) (by rw [hle]; exact q2) q3 (by rw [List.flatten_append]; exact repL_append _ _ _ _ hrd hl) (fun x hx => by
          rcases List.mem_append.1 hx with hx | hx
          · exact h1 x (List.mem_of_mem_drop hx)
          · exact hl1 x hx)
      refine ⟨_, w', _, [], q1, p2.drop' (hsub _), p3, ?_, Nat.zero_le _⟩
      simp only [rep, List.length_nil, Nat.zero_add, Sg.addRow, if_true]
      exact ⟨Nat.lt_succ_self _, _, _, _, _, _, rfl, by rw [hle]; rfl, Nat.zero_le _, by rw [hle]; exact Nat.le_refl _, fun _ => ⟨g', rfl, by rw [Nat.zero_mul]⟩, fun _ => rfl, hcap, by omega, by omega⟩
    · have hsp : ∀ off sLen cap, off + sLen * inf.size = r.es.length * r.sz → sLen + news.length ≤ cap → (Builtin.append_ #[t, t] ty #[.slice (some ⟨g, off, none⟩) sLen cap, .slice (some ⟨bn, on, none⟩) news.length c]).run P w = .ok (.slice (some ⟨g, off, none⟩) (sLen + news.length) cap) (w.setCells g (r.es.length * r.sz) l) := fun off sLen cap ho' hrm => by
        have hin : ∀ j, j < l.length → r.es.length * r.sz + j < cur.size := fun j hj => by
          have : (r.es.length + news.length) * r.sz ≤ c0 * r.sz := Nat.mul_le_mul_right _ (by omega)
          rw [Nat.add_mul] at this
          rw [hcs]; omega
        have := run_append_room_cells (P := P) w t ty r.e inf hut hi g off sLen cap ⟨bn, on, none⟩ news.length c l (by rw [hsz]; exact hll) hcells hl1 hrm
          (fun j hj => by rw [ho']; exact cell_some hgc (hin j hj)) (fun j hj => by rw [ho']; exact frozen_none hgc)
        rw [ho'] at this
        exact this
      have r1 := hsp 0 r.es.length c0 (by rw [hsz, Nat.zero_add]) (by omega)
      have r2 := hsp (a * S.sz k) (r.es.length - a) cc (by rw [hsz, ← hR.sz, ← Nat.add_mul]; congr 1; omega) (by omega)
      obtain ⟨v1, w1, q1, _, q2, q3⟩ := hS.append hk hloc (ty := ty) he hu hlen hsize
      rw [hloc, r1] at q1
      injection q1 with e1 e2
      subst e1 e2
      have hta : (r.es.take a).length = a := by rw [List.length_take]; omega
      refine ⟨_, _, _, r.es.take a, r2, ?_, q3, ?_, Nat.le_of_eq hta⟩
      · rw [← List.append_assoc, List.take_append_drop]; exact q2
      · simp only [rep, Sg.addRow, if_true]
        rw [hta]
        exact ⟨Nat.lt_succ_self _, _, _, _, _, _, rfl, congrArg (fun m => Value.slice _ m _) (by omega), by omega, by omega, fun _ => ⟨g, rfl, by rw [← hR.sz]⟩, fun h0 => by subst h0; rw [Nat.zero_mul], by omega, by omega, by omega⟩
  · have e0 : r.es.drop a = [] := List.drop_eq_nil_of_le (by omega)
    have hcc : cc = 0 := by omega
    have hba : b - a = 0 := by omega
    obtain ⟨v', w', q1, ⟨x1, x2, x3, rfl⟩, q2, q3⟩ := hS.appendNew (es := []) (us := .slice ad1 (b - a) cc) (by simp only [rep]; exact ⟨ad1, 0, by rw [hcc, hba], rfl, Nat.zero_le _, .inl trivial⟩) (ty := ty) he hu hne trivial hlen (by simpa using Nat.le_trans (Nat.mul_le_mul_right _ (Nat.le_add_left _ _)) hsize)
    have hrow := q2.rows S.N _ (updH_same _ _ _)
    obtain ⟨xs', ho', _, _⟩ := hrow.sl (by simp [Sg.addRow] : (S.addRow (.slice x1 x2 x3) r.sz).loc S.N = .slice x1 x2 x3)
    have hl2 : (S.addRow (.slice x1 x2 x3) r.sz).loc S.N = .slice x1 x2 x3 := by simp [Sg.addRow]
    obtain ⟨g', rfl, rfl, hc3⟩ : ∃ g', x1 = some ⟨g', 0, none⟩ ∧ x2 = news.length ∧ news.length ≤ x3 := by
      rcases ho'.2 with ⟨_, hn⟩ | ⟨g', cap', cur', hv, _, _, h4, _⟩
      · simp at hn; exact absurd hn hne
      · rw [hl2] at hv; injection hv with e1 e2 e3; subst e3; simp at e2 h4; exact ⟨g', e1, e2, h4⟩
    refine ⟨_, w', _, [], q1, ?_, q3, ?_, Nat.zero_le _⟩
    · rw [e0]; exact q2.drop' (hsub _)
    · simp only [rep, List.length_nil, Nat.zero_add, Sg.addRow, if_true, hba]
      exact ⟨Nat.lt_succ_self _, _, _, _, _, _, rfl, by rw [Nat.sub_zero], Nat.zero_le _, Nat.le_refl _, fun _ => ⟨g', rfl, by rw [Nat.zero_mul]⟩, fun _ => rfl, hc3, by omega, by omega⟩
end
end Go.Aw
