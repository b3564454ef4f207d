/- Texts joined by a program: AwSound, AwTab. -/
import Derived.Lib.ItoaMem
import Derived.Lib.TrailingZeros
import Derived.Test.YtmidcjlidploaaaGreatDoorSb01
import Derived.Test.YtmidcjlidploaaaGreatDoorSb05

section
set_option linter.unusedSimpArgs false
set_option linter.unusedVariables false
namespace Go.Aw
open Go.RowKit
section
variable {P : Program} {S : Sg} {H : Heap} {w : World} {G : Option Bool} {K : AV → Prop}
theorem exec_of {s : Sem Value} {v : Value} {w' : World} (h : s.run P w' = .ok v w') : (do pure (Next.value (← s)) : Sem Next).run P w' = .ok (.value v) w' := by
  simp [h]
def Gives (P : Program) (S : Sg) (H : Heap) (w : World) (a : Act) (op : Op) (z : AV) : Prop :=
  ∃ v, rep S w z v ∧ ∀ w', Agree S H w w' → ∀ o : Oper, o.op = op → (execOp a.eval o).run P w' = .ok (.value v) w'
theorem Gives.of_does {a : Act} {op : Op} {z : AV} {s : Sem Value} (hs : Does P S H w z s) (he : ∀ o : Oper, o.op = op → execOp a.eval o = (do pure (Next.value (← s)) : Sem Next)) : Gives P S H w a op z := by
  obtain ⟨v, hv, hr⟩ := hs
  exact ⟨v, hv, fun w' ha o ho => by rw [he o ho]; exact exec_of (hr w' ha)⟩
theorem wopds_sound {G : Option Bool} {ρ : Env} {a : Act} (hF : FR S w ρ a) : ∀ (l : List Operand) {K : List AV → Prop}, (∀ x ∈ l, opB a.tmps.size x = true) → wopds G ρ l K →
    ∃ ys, K ys ∧ (gt G → repL S w ys (l.map a.eval))
  | [], K, _, h => ⟨[], h, fun _ => by simp [repL]⟩
  | x :: rest, K, hb, h => by
    simp only [wopds] at h
    obtain ⟨y, h, hy⟩ := wopd_sound (S := S) (w := w) h
    obtain ⟨ys, hK, hys⟩ := wopds_sound hF rest (fun x hx => hb x (by simp [hx])) h
    refine ⟨_, hK, fun hg => ?_⟩
    simp only [List.map_cons, repL]
    exact ⟨_, _, rfl, hy hg _ (aev_sound hF (hb x (by simp))), hys hg⟩
theorem concT_spec {t : TypeId} (h : isConcT P t = true) : ∃ d, P.underlying t = some d ∧ ∀ ms, d ≠ .interface ms := by
  unfold isConcT at h
  split at h
  · simp at h
  · rename_i d hne hd
    exact ⟨d, hd, fun ms e => hne ms e⟩
  · simp at h
theorem apure_sound {ρ : Env} {a : Act} {op : Op} (hb : ∀ x ∈ op.operands, opB a.tmps.size x = true) (hF : FR S w ρ a) (hH : Rows' S w H) (h : apure P G ρ H op K) :
    ∃ z, K z ∧ (gt G → Gives P S H w a op z) := by
  have ev := fun x hx => aev_sound hF (hb x hx)
  cases op <;> simp only [apure] at h <;> simp only [Op.operands] at ev hb <;> try exact h.elim
  case move x =>
    obtain ⟨z, hz, hy⟩ := wopd_sound (S := S) (w := w) h
    exact ⟨z, hz, fun hg => ⟨_, hy hg _ (ev x (by simp)), fun w' _ o ho => by simp [execOp, ho]⟩⟩
  case assign x =>
    obtain ⟨z, hz, hy⟩ := wopd_sound (S := S) (w := w) h
    exact ⟨z, hz, fun hg => ⟨_, hy hg _ (ev x (by simp)), fun w' _ o ho => by simp [execOp, ho]⟩⟩
  case pick c x y =>
    obtain ⟨zc, h, hc⟩ := wopd_sound (S := S) (w := w) h
    split at h
    · rename_i b
      obtain ⟨z, hz, hy⟩ := apick_sound (S := S) (w := w) h
      refine ⟨z, hz, fun hg => ?_⟩
      have e := rep_bool (hc hg _ (ev c (by simp)))
      refine ⟨_, hy hg _ _ (ev x (by simp)) (ev y (by simp)), fun w' _ o ho => ?_⟩
      simp [execOp, ho, e, asBool]
    · exact h.elim
  case build t parts =>
    obtain ⟨ps, h, hps⟩ := wparts_sound hF parts.toList (fun p hp => hb p.2 (by simpa using ⟨p.1, by simpa using hp⟩)) h
    unfold abuild at h
    split at h
    · rename_i z pl hz hpl
      split at h
      · rename_i cs hcs
        refine ⟨_, h, fun hg => ?_⟩
        obtain ⟨e1, e2⟩ := hps hg
        obtain ⟨A', f1, f2, f3⟩ := partsT_built (S := S) (w := w) hz hpl hcs e1 e2
        refine ⟨.agg A', by simp only [rep]; exact ⟨A'.toList, by simp, f2, f3⟩, fun w' _ o ho => ?_⟩
        have : (parts.map fun (p : Nat × Operand) => (p.1, a.eval p.2)).toList = parts.toList.map fun p => (p.1, a.eval p.2) := by simp
        rw [← this] at f1
        simp only [execOp, ho]
        exact exec_of (run_build w' t _ A' f1)
      · exact h.elim
    · exact h.elim
  case load t x =>
    split at h
    · rename_i l hl
      obtain ⟨y, h, hy⟩ := wopd_sound (S := S) (w := w) h
      obtain ⟨z, hz, hd⟩ := aload_sound hl hH h
      exact ⟨z, hz, fun hg => Gives.of_does (hd hg _ (hy hg _ (ev x (by simp)))) (fun o ho => by simp [execOp, ho])⟩
    · exact h.elim
  case nilCheck x =>
    obtain ⟨y, h, hy⟩ := wopd_sound (S := S) (w := w) h
    split at h
    · refine ⟨_, h, fun hg => ?_⟩
      have e := hy hg _ (ev x (by simp))
      refine ⟨_, e, fun w' _ o ho => ?_⟩
      simp only [rep] at e
      obtain ⟨b, p, e, _⟩ := e
      simp [execOp, ho, e]
    · refine ⟨_, h, fun hg => ?_⟩
      have e := hy hg _ (ev x (by simp))
      refine ⟨_, e, fun w' _ o ho => ?_⟩
      simp only [rep] at e
      obtain ⟨_, b, p, c, _, e⟩ := e
      simp [execOp, ho, e]
    · obtain ⟨h0, cs, off, h⟩ := h
      exact ⟨_, h, fun hg => (h0 hg).elim⟩
    · exact h.elim
  case binOp op t x y t' =>
    split at h
    · rename_i hny
      have hy : y = .const (.slice none 0 0) := by
        unfold isNilC at hny
        split at hny
        · rfl
        · simp at hny
      subst hy
      obtain ⟨x', h, hx⟩ := wopd_sound (S := S) (w := w) h
      obtain ⟨hst, h⟩ := h
      obtain ⟨e, hut⟩ := sliceT_spec hst
      have exec : ∀ (b : Bool) (ad : Option Addr) (n c : Nat), a.eval x = .slice ad n c → (op = .eql ∧ b = ad.isNone ∨ op = .neq ∧ b = !ad.isNone) → Gives P S H w a (.binOp op t x (.const (.slice none 0 0)) t') (.v (.bool b)) := by
        intro b ad n c hx hb
        refine ⟨.bool b, by simp only [rep], fun w' _ o ho => ?_⟩
        have ec : a.eval (.const (.slice none 0 0)) = .slice none 0 0 := rfl
        simp only [execOp, ho, hx, ec]
        have hg : (eqGuard op t x (.const (.slice none 0 0)) (.slice ad n c) (.slice none 0 0)).run P w' = .ok () w' := run_eqGuard_plain op t x _ _ _ (by simp) (by simp) w'
        have he : (Op.equal t (.slice ad n c) (.slice none 0 0)).run P w' = .ok ad.isNone w' := by
          have e0 : Op.equal t (.slice ad n c) (.slice none 0 0) = Op.equalIn (9999 + 1) t (.slice ad n c) (.slice none 0 0) := rfl
          rw [e0]
          unfold Op.equalIn
          cases ad <;> simp [run_underlying hut]
        rcases hb with ⟨rfl, rfl⟩ | ⟨rfl, rfl⟩
        · exact exec_of (by simp only [Sem.run_bind, hg, Result.andThen_ok]; simp [binOp, he])
        · exact exec_of (by simp only [Sem.run_bind, hg, Result.andThen_ok]; simp [binOp, he])
      by_cases hg : gt G
      · have ex := hx hg _ (ev x (by simp))
        unfold aeqNil at h
        split at h
        · simp only [rep] at ex
          obtain ⟨ad, n, c, hv, hl, _, _, hc⟩ := ex
          cases ad with
          | none =>
            rcases hc with hc | ⟨b, o, sz, hc, _⟩
            · exact ⟨_, h.1 hc, fun _ => exec _ _ _ _ hv (.inl ⟨rfl, rfl⟩)⟩
            · simp at hc
          | some ad => exact ⟨_, h.2, fun _ => exec _ _ _ _ hv (.inl ⟨rfl, rfl⟩)⟩
        · simp only [rep] at ex
          obtain ⟨ad, n, c, hv, hl, _, _, hc⟩ := ex
          cases ad with
          | none =>
            rcases hc with hc | ⟨b, o, sz, hc, _⟩
            · exact ⟨_, h.1 hc, fun _ => exec _ _ _ _ hv (.inr ⟨rfl, rfl⟩)⟩
            · simp at hc
          | some ad => exact ⟨_, h.2, fun _ => exec _ _ _ _ hv (.inr ⟨rfl, rfl⟩)⟩
        · simp only [rep] at ex
          obtain ⟨_, hy, ad, n, c, hv⟩ := ex
          cases ad with
          | none => exact ⟨_, h.1 (nil_empty hH (hy.symm.trans hv)), fun _ => exec _ _ _ _ hv (.inl ⟨rfl, rfl⟩)⟩
          | some ad => exact ⟨_, h.2, fun _ => exec _ _ _ _ hv (.inl ⟨rfl, rfl⟩)⟩
        · simp only [rep] at ex
          obtain ⟨_, hy, ad, n, c, hv⟩ := ex
          cases ad with
          | none => exact ⟨_, h.1 (nil_empty hH (hy.symm.trans hv)), fun _ => exec _ _ _ _ hv (.inr ⟨rfl, rfl⟩)⟩
          | some ad => exact ⟨_, h.2, fun _ => exec _ _ _ _ hv (.inr ⟨rfl, rfl⟩)⟩
        · simp only [rep] at ex
          exact ⟨_, h, fun _ => exec _ none 0 0 ex (.inl ⟨rfl, rfl⟩)⟩
        · simp only [rep] at ex
          exact ⟨_, h, fun _ => exec _ none 0 0 ex (.inr ⟨rfl, rfl⟩)⟩
        · exact h.elim
      · unfold aeqNil at h
        split at h
        · exact ⟨_, h.2, fun hg' => absurd hg' hg⟩
        · exact ⟨_, h.2, fun hg' => absurd hg' hg⟩
        · exact ⟨_, h.2, fun hg' => absurd hg' hg⟩
        · exact ⟨_, h.2, fun hg' => absurd hg' hg⟩
        · exact ⟨_, h, fun hg' => absurd hg' hg⟩
        · exact ⟨_, h, fun hg' => absurd hg' hg⟩
        · exact h.elim
    split at h
    · rename_i _ hif
      have hy : y = .const .nilIface := by
        unfold isIfC at hif
        split at hif
        · rfl
        · simp at hif
      subst hy
      obtain ⟨x', h, hx⟩ := wopd_sound (S := S) (w := w) h
      have eq0 : ∀ w', isIfT P t = true → (Op.equal t .nilIface .nilIface).run P w' = .ok true w' := fun w' ht => by
        have hu : ∃ ms, P.underlying t = some (.interface ms) := by
          unfold isIfT at ht
          split at ht
          · exact ⟨_, by assumption⟩
          · simp at ht
        obtain ⟨ms, hu⟩ := hu
        have e0 : Op.equal t .nilIface .nilIface = Op.equalIn (9999 + 1) t .nilIface .nilIface := rfl
        rw [e0]
        unfold Op.equalIn
        simp [run_underlying hu]
      have ec : a.eval (.const .nilIface) = .nilIface := rfl
      unfold aifNil at h
      split at h
      · refine ⟨_, h.2, fun hg => ⟨.bool true, by simp only [rep], fun w' _ o ho => ?_⟩⟩
        have ex := hx hg _ (ev x (by simp))
        simp only [rep] at ex
        have hgd : (eqGuard .eql t x (.const .nilIface) .nilIface .nilIface).run P w' = .ok () w' := by simp [eqGuard]
        simp only [execOp, ho, ex, ec]
        exact exec_of (by simp only [Sem.run_bind, hgd, Result.andThen_ok]; simp [binOp, eq0 w' h.1])
      · refine ⟨_, h.2, fun hg => ⟨.bool false, by simp only [rep], fun w' _ o ho => ?_⟩⟩
        have ex := hx hg _ (ev x (by simp))
        simp only [rep] at ex
        have hgd : (eqGuard .neq t x (.const .nilIface) .nilIface .nilIface).run P w' = .ok () w' := by simp [eqGuard]
        simp only [execOp, ho, ex, ec]
        exact exec_of (by simp only [Sem.run_bind, hgd, Result.andThen_ok]; simp [binOp, eq0 w' h.1])
      · exact h.elim
    obtain ⟨x', h, hx⟩ := wopd_sound (S := S) (w := w) h
    obtain ⟨y', h, hy⟩ := wopd_sound (S := S) (w := w) h
    obtain ⟨z, hz, hd⟩ := abin_sound (S := S) (H := H) (w := w) h
    exact ⟨z, hz, fun hg => Gives.of_does (hd hg _ _ (hx hg _ (ev x (by simp))) (hy hg _ (ev y (by simp))) x y) (fun o ho => by simp [execOp, ho])⟩
  case unOp op t x =>
    obtain ⟨x', h, hx⟩ := wopd_sound (S := S) (w := w) h
    obtain ⟨z, hz, hd⟩ := aun_sound (P := P) (S := S) (H := H) (w := w) h
    exact ⟨z, hz, fun hg => Gives.of_does (hd _ (hx hg _ (ev x (by simp)))) (fun o ho => by simp [execOp, ho])⟩
  case convert src dst x =>
    obtain ⟨x', h, hx⟩ := wopd_sound (S := S) (w := w) h
    obtain ⟨z, hz, hd⟩ := aconv_sound (S := S) (H := H) (w := w) h
    exact ⟨z, hz, fun hg => Gives.of_does (hd _ (hx hg _ (ev x (by simp)))) (fun o ho => by simp [execOp, ho])⟩
  case slice t x lo hi m =>
    cases m with
    | some m =>
      cases lo with
      | some lo =>
        cases hi with
        | none => exact h.elim
        | some hi =>
          simp only at h
          obtain ⟨x', h, hx⟩ := wopd_sound (S := S) (w := w) h
          obtain ⟨lo', h, hlo⟩ := wopd_sound (S := S) (w := w) h
          obtain ⟨hi', h, hhi⟩ := wopd_sound (S := S) (w := w) h
          obtain ⟨m', h, hm⟩ := wopd_sound (S := S) (w := w) h
          obtain ⟨z, hz, hd⟩ := aclip3_sound (S := S) (w := w) (H' := H) hH h
          exact ⟨z, hz, fun hg => Gives.of_does (hd hg _ _ _ _ (hx hg _ (ev x (by simp))) (hlo hg _ (ev lo (by simp))) (hhi hg _ (ev hi (by simp))) (hm hg _ (ev m (by simp)))) (fun o ho => by simp [execOp, ho])⟩
      | none =>
        cases hi with
        | none => exact h.elim
        | some hi =>
          simp only at h
          obtain ⟨x', h, hx⟩ := wopd_sound (S := S) (w := w) h
          obtain ⟨hi', h, hhi⟩ := wopd_sound (S := S) (w := w) h
          obtain ⟨m', h, hm⟩ := wopd_sound (S := S) (w := w) h
          obtain ⟨z, hz, hd⟩ := aclip_sound (S := S) (w := w) (H := H) h
          exact ⟨z, hz, fun hg => Gives.of_does (hd hg _ _ _ (hx hg _ (ev x (by simp))) (hhi hg _ (ev hi (by simp))) (hm hg _ (ev m (by simp)))) (fun o ho => by simp [execOp, ho])⟩
    | none =>
      simp only at h
      obtain ⟨x', h, hx⟩ := wopd_sound (S := S) (w := w) h
      cases lo with
      | some lo =>
        cases hi with
        | some hi =>
          obtain ⟨lo', h, hlo⟩ := wopd_sound (S := S) (w := w) h
          obtain ⟨hi', h, hhi⟩ := wopd_sound (S := S) (w := w) h
          obtain ⟨z, hz, hd⟩ := asl_sound hH h
          refine ⟨z, hz, fun hg => Gives.of_does (hd hg _ (some (a.eval lo)) (some (a.eval hi)) (hx hg _ (ev x (by simp))) ?_ (by simp) ?_ (by simp)) (fun o ho => by simp [execOp, ho])⟩
          · intro y hy; injection hy with hy; subst hy; exact ⟨_, rfl, hlo hg _ (ev lo (by simp))⟩
          · intro y hy; injection hy with hy; subst hy; exact ⟨_, rfl, hhi hg _ (ev hi (by simp))⟩
        | none =>
          obtain ⟨lo', h, hlo⟩ := wopd_sound (S := S) (w := w) h
          obtain ⟨z, hz, hd⟩ := asl_sound hH h
          refine ⟨z, hz, fun hg => Gives.of_does (hd hg _ (some (a.eval lo)) none (hx hg _ (ev x (by simp))) ?_ (by simp) (by simp) (by simp)) (fun o ho => by simp [execOp, ho])⟩
          intro y hy; injection hy with hy; subst hy; exact ⟨_, rfl, hlo hg _ (ev lo (by simp))⟩
      | none =>
        cases hi with
        | some hi =>
          obtain ⟨hi', h, hhi⟩ := wopd_sound (S := S) (w := w) h
          obtain ⟨z, hz, hd⟩ := asl_sound hH h
          refine ⟨z, hz, fun hg => Gives.of_does (hd hg _ none (some (a.eval hi)) (hx hg _ (ev x (by simp))) (by simp) (by simp) ?_ (by simp)) (fun o ho => by simp [execOp, ho])⟩
          intro y hy; injection hy with hy; subst hy; exact ⟨_, rfl, hhi hg _ (ev hi (by simp))⟩
        | none => exact h.elim
  case fieldAddr t x f =>
    obtain ⟨x', h, hx⟩ := wopd_sound (S := S) (w := w) h
    obtain ⟨z, hz, hd⟩ := afieldAddr_sound (G := G) (S := S) (H := H) (w := w) h
    exact ⟨z, hz, fun hg => Gives.of_does (hd hg _ (hx hg _ (ev x (by simp)))) (fun o ho => by simp [execOp, ho])⟩
  case field t x f =>
    split at h
    · rename_i o l ho
      obtain ⟨x', h, hx⟩ := wopd_sound (S := S) (w := w) h
      obtain ⟨fs, fd, i, hu, hf, rfl, hi, _, hl⟩ := fieldOff_spec ho
      obtain ⟨z, hz, hd⟩ := apart_sound (S := S) (H := H) (w := w) hl h
      refine ⟨z, hz, fun hg => ?_⟩
      obtain ⟨cs, e, hd⟩ := hd hg _ (hx hg _ (ev x (by simp)))
      refine Gives.of_does (s := Instr.field t (.agg cs) f) ?_ (fun o ho => by simp [execOp, ho, e])
      obtain ⟨v, hv, hr⟩ := hd
      refine ⟨v, hv, fun w' ha => ?_⟩
      simp [Instr.field, run_underlying hu, hf, asAgg, hr w' ha]
    · exact h.elim
  case indexAddr t x i =>
    obtain ⟨x', h, hx⟩ := wopd_sound (S := S) (w := w) h
    obtain ⟨i', h, hi⟩ := wopd_sound (S := S) (w := w) h
    obtain ⟨z, hz, hd⟩ := aindexAddr_sound hH h
    exact ⟨z, hz, fun hg => Gives.of_does (hd hg _ _ (hx hg _ (ev x (by simp))) (hi hg _ (ev i (by simp)))) (fun o ho => by simp [execOp, ho])⟩
  case index t x i =>
    obtain ⟨x', h, hx⟩ := wopd_sound (S := S) (w := w) h
    obtain ⟨i', h, hi⟩ := wopd_sound (S := S) (w := w) h
    obtain ⟨z, hz, hd⟩ := aindex_sound (S := S) (H := H) (w := w) h
    exact ⟨z, hz, fun hg => Gives.of_does (hd hg _ _ (hx hg _ (ev x (by simp))) (hi hg _ (ev i (by simp)))) (fun o ho => by simp [execOp, ho])⟩
  case extract x i =>
    obtain ⟨x', h, hx⟩ := wopd_sound (S := S) (w := w) h
    split at h
    · rename_i vs
      refine ⟨_, h.2, fun hg => ?_⟩
      have e := hx hg _ (ev x (by simp))
      simp only [rep] at e
      obtain ⟨l, e, hl⟩ := e
      obtain ⟨u, h1, h2⟩ := repL_get vs l i hl (h.1 hg)
      exact ⟨u, h2, fun w' _ o ho => by simp [execOp, ho, e, Instr.extract, h1]⟩
    · exact h.elim
  case lookup t x i ok =>
    obtain ⟨x', h, hx⟩ := wopd_sound (S := S) (w := w) h
    obtain ⟨i', h, hi⟩ := wopd_sound (S := S) (w := w) h
    obtain ⟨z, hz, hd⟩ := alookup_sound (G := G) hH h
    exact ⟨z, hz, fun hg => Gives.of_does (hd hg _ _ (hx hg _ (ev x (by simp))) (hi hg _ (ev i (by simp)))) (fun o ho => by simp [execOp, ho])⟩
  case makeInterface t x =>
    obtain ⟨x', h, hx⟩ := wopd_sound (S := S) (w := w) h
    unfold aiface at h
    split at h
    · rename_i b
      refine ⟨_, h.2, fun hg => ⟨.iface t b, by simp only [rep], fun w' _ o ho => ?_⟩⟩
      have ex := hx hg _ (ev x (by simp))
      simp only [rep] at ex
      obtain ⟨d, hu, hd⟩ := concT_spec h.1
      simp [execOp, ho, ex, Instr.makeInterface, run_underlying hu]
      try (split <;> simp_all)
    · exact h.elim
  case typeAssert x xt t ok =>
    cases ok with
    | false => exact h.elim
    | true =>
      simp only at h
      obtain ⟨x', h, hx⟩ := wopd_sound (S := S) (w := w) h
      unfold aassert at h
      split at h
      · rename_i d b
        obtain ⟨dt, hu, hd⟩ := concT_spec h.1
        have h := h.2
        split at h
        · rename_i hdt
          refine ⟨_, h, fun hg => ⟨.tuple #[b, .bool true], ?_, fun w' _ o ho => ?_⟩⟩
          · simp only [rep, repL]
            exact ⟨_, rfl, _, _, rfl, rfl, _, _, rfl, rfl, rfl⟩
          · have ex := hx hg _ (ev x (by simp))
            simp only [rep] at ex
            simp [execOp, ho, ex, Instr.typeAssert, run_underlying hu, hdt]
            try (split <;> simp_all)
        · rename_i hdt
          obtain ⟨z, hz, hk⟩ := h
          obtain ⟨v, hv, hr⟩ := zeroE_run hz
          refine ⟨_, hk, fun hg => ⟨.tuple #[v, .bool false], ?_, fun w' _ o ho => ?_⟩⟩
          · simp only [rep, repL]
            exact ⟨_, rfl, _, _, rfl, hr _ _, _, _, rfl, rfl, rfl⟩
          · have ex := hx hg _ (ev x (by simp))
            simp only [rep] at ex
            simp [execOp, ho, ex, Instr.typeAssert, run_underlying hu, hdt, hv w']
            try (split <;> simp_all)
      · exact h.elim
  case makeFunc f first cap =>
    cases f <;> simp only at h <;> try exact h.elim
    rename_i f
    obtain ⟨hf, h⟩ := h
    subst hf
    obtain ⟨ys, hz, hys⟩ := wopds_sound hF cap.toList (fun x hx => hb x (by simp [Array.mem_toList_iff.1 hx])) h
    refine ⟨_, hz, fun hg => ⟨.func (.func f) #[] (cap.map a.eval), ?_, fun w' _ o ho => by simp [execOp, ho, Instr.makeFunc]⟩⟩
    simp only [rep]
    exact ⟨cap.toList.map a.eval, by rw [← Array.toList_map], hys hg⟩
theorem apure_slice_sound {H' : Heap} {ρ : Env} {a : Act} {t : TypeId} {x : Operand} {lo hi m : Option Operand} (hb : ∀ y ∈ (Op.slice t x lo hi m).operands, opB a.tmps.size y = true) (hF : FR S w ρ a) (hH : Rows' S w H) (h : apure P G ρ H (.slice t x lo hi m) K) :
    ∃ z, K z ∧ (gt G → Gives P S H' w a (.slice t x lo hi m) z) := by
  have ev := fun x hx => aev_sound hF (hb x hx)
  simp only [apure] at h
  simp only [Op.operands] at ev hb
  cases m with
  | some m =>
    cases lo with
    | some lo =>
      cases hi with
      | none => exact h.elim
      | some hi =>
        simp only at h
        obtain ⟨x', h, hx⟩ := wopd_sound (S := S) (w := w) h
        obtain ⟨lo', h, hlo⟩ := wopd_sound (S := S) (w := w) h
        obtain ⟨hi', h, hhi⟩ := wopd_sound (S := S) (w := w) h
        obtain ⟨m', h, hm⟩ := wopd_sound (S := S) (w := w) h
        obtain ⟨z, hz, hd⟩ := aclip3_sound (S := S) (w := w) (H' := H') hH h
        exact ⟨z, hz, fun hg => Gives.of_does (hd hg _ _ _ _ (hx hg _ (ev x (by simp))) (hlo hg _ (ev lo (by simp))) (hhi hg _ (ev hi (by simp))) (hm hg _ (ev m (by simp)))) (fun o ho => by simp [execOp, ho])⟩
    | none =>
      cases hi with
      | none => exact h.elim
      | some hi =>
        simp only at h
        obtain ⟨x', h, hx⟩ := wopd_sound (S := S) (w := w) h
        obtain ⟨hi', h, hhi⟩ := wopd_sound (S := S) (w := w) h
        obtain ⟨m', h, hm⟩ := wopd_sound (S := S) (w := w) h
        obtain ⟨z, hz, hd⟩ := aclip_sound (S := S) (w := w) (H := H') h
        exact ⟨z, hz, fun hg => Gives.of_does (hd hg _ _ _ (hx hg _ (ev x (by simp))) (hhi hg _ (ev hi (by simp))) (hm hg _ (ev m (by simp)))) (fun o ho => by simp [execOp, ho])⟩
  | none =>
    simp only at h
    obtain ⟨x', h, hx⟩ := wopd_sound (S := S) (w := w) h
    cases lo with
    | some lo =>
      cases hi with
      | some hi =>
        obtain ⟨lo', h, hlo⟩ := wopd_sound (S := S) (w := w) h
        obtain ⟨hi', h, hhi⟩ := wopd_sound (S := S) (w := w) h
        obtain ⟨z, hz, hd⟩ := asl_sound hH h
        refine ⟨z, hz, fun hg => Gives.of_does (hd hg _ (some (a.eval lo)) (some (a.eval hi)) (hx hg _ (ev x (by simp))) ?_ (by simp) ?_ (by simp)) (fun o ho => by simp [execOp, ho])⟩
        · intro y hy; injection hy with hy; subst hy; exact ⟨_, rfl, hlo hg _ (ev lo (by simp))⟩
        · intro y hy; injection hy with hy; subst hy; exact ⟨_, rfl, hhi hg _ (ev hi (by simp))⟩
      | none =>
        obtain ⟨lo', h, hlo⟩ := wopd_sound (S := S) (w := w) h
        obtain ⟨z, hz, hd⟩ := asl_sound hH h
        refine ⟨z, hz, fun hg => Gives.of_does (hd hg _ (some (a.eval lo)) none (hx hg _ (ev x (by simp))) ?_ (by simp) (by simp) (by simp)) (fun o ho => by simp [execOp, ho])⟩
        intro y hy; injection hy with hy; subst hy; exact ⟨_, rfl, hlo hg _ (ev lo (by simp))⟩
    | none =>
      cases hi with
      | some hi =>
        obtain ⟨hi', h, hhi⟩ := wopd_sound (S := S) (w := w) h
        obtain ⟨z, hz, hd⟩ := asl_sound hH h
        refine ⟨z, hz, fun hg => Gives.of_does (hd hg _ none (some (a.eval hi)) (hx hg _ (ev x (by simp))) (by simp) (by simp) ?_ (by simp)) (fun o ho => by simp [execOp, ho])⟩
        intro y hy; injection hy with hy; subst hy; exact ⟨_, rfl, hhi hg _ (ev hi (by simp))⟩
      | none => exact h.elim
end
end Go.Aw
end

section
namespace Go.Aw
def powTab : Array Value := (Go.Lib.pow10Tab.map fun z => Value.int .u64 z).toArray
def bruTab : Array Value := (Go.Lib.deBruijn64tab.map fun z : Nat => Value.int .u8 (z : Int)).toArray
def isTab (a : Array Value) (o : Option (Array Value)) : Prop := o = some a
def isNum (o : Option (Array Value)) : Prop := ∃ m : Int, o = some #[.int .i64 m]
def tabL : List (Nat × (Option (Array Value) → Prop)) := [(3, isTab powTab), (7, isTab bruTab), (0, isNum)]
theorem tab_some {t : Nat × (Option (Array Value) → Prop)} (h : t ∈ tabL) {o : Option (Array Value)} (ho : t.2 o) : ∃ a, o = some a := by
  simp only [tabL, List.mem_cons, List.not_mem_nil, or_false] at h
  rcases h with rfl | rfl | rfl
  · exact ⟨_, ho⟩
  · exact ⟨_, ho⟩
  · obtain ⟨m, h⟩ := ho; exact ⟨_, h⟩
end Go.Aw
end
