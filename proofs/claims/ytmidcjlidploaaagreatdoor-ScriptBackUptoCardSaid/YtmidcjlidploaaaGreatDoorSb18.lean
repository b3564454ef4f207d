/- Texts joined by a program: Bridge. -/
import Derived.WalkKit
import Derived.ProofKit
import Derived.WideKeyArgs
import Derived.Test.YtmidcjlidploaaaGreatDoorSb17

set_option linter.unusedSimpArgs false
set_option linter.unusedVariables false
namespace Go.Proofs.YtmidcjlidploaaaGreatDoor
open Go.Aw Go.Aw.D Go.Proofs Go.RowKit Go.ChangeShapes Go.WideShapes Go.ChangeAt
section
variable {H : Type} {e : TypeId × Value → H} {P : Program} {W W' : World}
theorem calls_of_PC {f : FuncId} {args : List AV} {vals : List Value} (h : PC P f args (.v (.bool true))) (ht : TabsIn W) (ha : repL (Sw W) W args vals) :
    Calls P f vals.toArray W fun en W' => en = .returned (.bool true) ∧ Below W.heap.size W W' :=
  (h (Sw W) W vals (Sw_st W ht) (fun _ h => h) ha).mono fun en W' ⟨v, r, H', S', he, hr, _, hv, hg, _⟩ => by
    subst hr
    simp only [rep] at hv
    subst hv
    exact ⟨he, hg.os, hg.tape, hg.output, hg.size, hg.same⟩
theorem trodAll_keep (hl : laidOutB P = true) (hb : Below W.heap.size W W') : ∀ {ts : List TypeId} {vs : List Value} {ds : List (DataW H)} {ps : List MemPlace}, (∀ t ∈ ts, P.readableRec t = true ∧ t < P.types.size) →
    DataW.TrodAll e P W 0 (fun _ => true) true ts vs ds ps → (∀ x ∈ ps, x.block < W.heap.size) → ∀ sp : Nat → Bool, (∀ x ∈ ps, sp x.block = true) → DataW.TrodAll e P W' 0 sp true ts vs ds ps
  | [], [], [], _, _, h, _, _, _ => h
  | t :: ts, v :: vs, d :: ds, ps, ht, ⟨p, q, h1, h2, he⟩, hlt, sp, hs => by
    subst he
    have h0 := ht t (by simp)
    exact ⟨p, q, WideElems.Trod_stays hl h0.1 h0.2 h1 (fun x hx => hb.same (hlt x (by simp [hx]))) (fun x hx => hs x (by simp [hx])),
      trodAll_keep hl hb (fun t ht' => ht t (by simp [ht'])) h2 (fun x hx => hlt x (by simp [hx])) sp (fun x hx => hs x (by simp [hx])), rfl⟩
theorem arg_struct {t : TypeId} {fs : Array Field} {α : Type} {enc : α → List AV} {b : Nat → α → Prop} {r : Reach} {b0 : Nat} {v : Value} {d : DataW H} {ps : List MemPlace} (ht : P.underlying t = some (.struct fs))
    (hr : Rd e (BK H) P W t enc b) (hval : Value.okWide P W r b0 t v) (hd : DataW.Trod e P W 0 (fun _ => true) true t v d ps) : ∃ x : α, rep (Sw W) W (.agg (enc x)) v ∧ ∀ n, BK H d ≤ n → b n x := by
  obtain ⟨cs, rfl, _⟩ := okWide_struct ht hval
  obtain ⟨fuel, h⟩ := hd
  obtain ⟨x, ⟨h1, h2⟩, h3⟩ := hr fuel _ _ h
  refine ⟨x, ?_, h3⟩
  simp only [rep]
  exact ⟨cs.toList, by simp, h1, h2⟩
theorem post_true {fn : Func} {s : ChangeSpec} {args : Array Value} {ds gs : List (DataW H)} {before : List MemPlace} (hl : laidOutB P = true) (hts : ∀ t ∈ fn.params.toList, P.readableRec t = true ∧ t < P.types.size)
    (hvars : s.vars = []) {tb : TypeId} (hbt : P.underlying tb = some .bool) (hrt : fn.resultTypes = #[tb]) (hW : DataW.Whole e P fn.params.toList s.vars false W args.toList ds gs before)
    (hres : (s.fn H (ds ++ gs)).results = [.lit (.bool true)]) (hargs : (s.fn H (ds ++ gs)).args = ds) (hvs : (s.fn H (ds ++ gs)).vars = []) (hb : Below W.heap.size W W') :
    s.post e P fn false true false false W args (.bool true) W' := by
  have hlt := hW.lt
  have hW' := hW
  obtain ⟨p, q, hA, hV, rfl, hfz, hnd⟩ := hW
  rw [hvars] at hV
  obtain ⟨rfl, rfl⟩ := trodVars_none hV
  have hk : W.keptBut W' (· ∈ p ++ []) := hb.frame _
  have hold : ∀ x ∈ p ++ [], (fun b => decide (b < W.heap.size)) x.block = true := fun x hx => by simpa using hlt x hx
  have r1 : ∀ (b : Nat) (sp : Nat → Bool) (hd : Bool), DataW.TrodAll e P W' b sp hd fn.resultTypes.toList ((Value.bool true).resultList fn.resultTypes.size) (s.fn H (ds ++ [])).results [] := fun b sp hd => by
    rw [hrt, hres]
    exact trodAll_cons_mk (shut_bool hbt _) trodAll_mk0
  have r2 : ∀ sp : Nat → Bool, (∀ x ∈ p ++ [], sp x.block = true) → DataW.TrodAll e P W' 0 sp true fn.params.toList args.toList (s.fn H (ds ++ [])).args p := fun sp hsp => by
    rw [hargs]
    exact trodAll_keep hl hb hts hA (fun x hx => hlt x (by simp [hx])) sp (fun x hx => hsp x (by simp [hx]))
  have r3 : ∀ sp : Nat → Bool, DataW.TrodVars e P W' sp s.vars (s.fn H (ds ++ [])).vars [] := fun sp => by
    rw [hvars, hvs]; simp [DataW.TrodVars]
  refine ⟨ds, [], p ++ [], [], p, [], hW', r1 _ _ _, r2 _ hold, r3 _, World.keptBut_mono (fun x hx => ⟨hx, .inr (by simpa using hx)⟩) hk, fun _ => ?_⟩
  refine ⟨?_, _, _, ([] ++ p) ++ [], ⟨[] ++ p, [], trodAll_append (r2 _ (fun _ _ => rfl)) (r1 _ _ _), r3 _, rfl, ?_, ?_⟩, ?_⟩
  · exact ok_one hrt rfl (okWide_bool_mk hbt _)
  · intro b off hp
    have hp' : MemPlace.cell b off ∈ p ++ [] := by simpa using hp
    rw [hb.frozen (hlt _ hp')]
    exact hfz b off hp'
  · intro ha; simp at ha
  · intro x hx _
    simpa using hx
end
end Go.Proofs.YtmidcjlidploaaaGreatDoor
