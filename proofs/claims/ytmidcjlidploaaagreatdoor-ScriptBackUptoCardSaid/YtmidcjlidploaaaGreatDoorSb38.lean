/- Texts joined by a program: SaidSB. -/
import Derived.Test.YtmidcjlidploaaaGreatDoorCards
import Derived.Deep.DeepHandedRow
import Derived.Deep.DeepWitnessRowRef
import Derived.Lib.LaidIn
import Derived.SevenTiedAt
import Derived.Test.YtmidcjlidploaaaGreatDoorSb18
import Derived.Test.YtmidcjlidploaaaGreatDoorSb34
import Derived.Test.YtmidcjlidploaaaGreatDoorSb36
import Derived.Test.YtmidcjlidploaaaGreatDoorSb37

set_option linter.unusedSimpArgs false
set_option linter.unusedVariables false
namespace Go.Proofs.YtmidcjlidploaaaGreatDoor.scriptBack
open Go.Aw Go.Aw.D Go.Proofs Go.RowKit Go.ChangeShapes Go.WideShapes Go.ChangeAt
set_option maxRecDepth 100000
theorem goes_none {P : Program} (h : P.funcs.any Func.goes = false) (f : FuncId) : P.goes f = false := by
  have hg : ∀ g : Nat, (P.funcs[g]?).any Func.goes = false := fun g => by
    cases e : P.funcs[g]? with
    | none => rfl
    | some x =>
      have hm := Array.mem_of_getElem? e
      rw [Array.any_eq_false'] at h
      simpa using h x hm
  unfold Program.goes
  rw [h, Bool.and_false, Bool.or_false]
  simp [hg]
theorem goesBy_none {P : Program} (c : OpenClaim) (hs : c.start = .entering) (h : P.funcs.any Func.goes = false) : false = c.goesBy P := by
  unfold OpenClaim.goesBy Program.goesAt Program.goesFrom
  rw [hs]
  cases P.funcNamed c.func with
  | none => rfl
  | some f => simp [goes_none h f]
theorem noGo : Tryz.prog.funcs.any Func.goes = false := by as_aux_lemma => kernel_rfl
def Holds : Prop := ∀ (x0 : Go.Aw.D.Script), bScript 1048576 x0 → PC Tryz.prog 3 [.agg (encScript x0)] (.v (.bool true))
theorem own : ownKnob Tryz.prog.godebug = none := by kernel_rfl
theorem laid : laidOutB Tryz.prog = true := by kernel_rfl
theorem readScript : Tryz.prog.readableRec 33 = true ∧ 33 < Tryz.prog.types.size := ⟨by kernel_rfl, by decide +kernel⟩
theorem contract (hh : Holds) (H : Type) (enc : TypeId × Value → H) (W : World) (base : Nat) (args : Array Value) (ds gs : List (DataW H)) (before : List MemPlace)
    (hval : ∀ (j : Nat) t v, Tryz.f3.params[j]? = some t → args[j]? = some v → Value.okWide Tryz.prog W .any base t v)
    (hW : DataW.Whole enc Tryz.prog Tryz.f3.params.toList Rows.scriptBackSpec.vars false W args.toList ds gs before) (hk : Rows.uptoSmall H (ds ++ gs) = true) (ht : TabsIn W) :
    Calls Tryz.prog 3 args W fun e W' => ∃ v, e = .returned v ∧ Rows.scriptBackSpec.post enc Tryz.prog Tryz.f3 false true false false W args v W' := by
  have hW' := hW
  obtain ⟨p, q, hA0, hV, rfl, hfz, hnd⟩ := hW
  have hA : DataW.TrodAll enc Tryz.prog W 0 (fun _ => true) true [33] args.toList ds p := hA0
  obtain ⟨v0, d0, rfl, rfl, h0⟩ := trodAll_one hA
  obtain ⟨rfl, rfl⟩ := trodVars_none hV
  clear hA0
  simp only [List.append_nil] at hW' hk
  have hb : Rows.uptoBulkAll [d0] ≤ 1048576 := of_decide_eq_true hk
  simp only [Rows.uptoBulkAll] at hb
  obtain ⟨x0, r0, b0⟩ := arg_struct Tryz.underlying33 rd_Script (hval 0 33 v0 rfl rfl) h0
  refine (calls_of_PC (vals := [v0]) (hh x0 (b0 _ (by simp only [BK]; omega))) ht (by simp only [repL]; exact ⟨_, _, rfl, r0, rfl⟩)).mono fun e W' ⟨he, hg⟩ => ?_
  subst he
  exact ⟨_, rfl, post_true laid (by
    intro t ht
    have ht : t ∈ [33] := ht
    simp only [List.mem_cons, List.not_mem_nil, or_false] at ht
    rcases ht with rfl
    · exact readScript
    ) rfl Tryz.underlying4 rfl (gs := []) (by simpa using hW') rfl rfl rfl hg⟩
def lettersOf : DataW Unit → ByteArray
  | .iface _ (.ptr (.agg [.lit (.string b)])) => ⟨b.toArray⟩
  | _ => ⟨#[]⟩
def cellsOf : DataW Unit → Array Value
  | .agg l => (l.flatMap fun d => match d with | .lit (.int k n) => [Value.int k n] | .agg m => m.map (fun d => match d with | .lit (.int k n) => Value.int k n | _ => undef) | _ => [undef]).toArray
  | _ => #[]
noncomputable def laidWorld (os : Os) : World :=
  let N := (World.settled Tryz.prog os).heap.size
  let w0 := World.holding Tryz.prog os ⟨#[.cells #[.string (lettersOf Rows.laid_strconv_ErrSyntax)] 357, .cells #[.string (lettersOf Rows.laid_strconv_ErrRange)] 357], #[], []⟩
  let put (h : Array Obj) (g : Nat) (cs : Array Value) : Array Obj := h.modify g fun
    | .cells _ t frozen => .cells cs t frozen
    | o => o
  let h1 := put w0.heap 1 #[.iface 355 (.pointer (some ⟨N + 0, 0, none⟩))]
  let h2 := put h1 2 #[.iface 355 (.pointer (some ⟨N + 1, 0, none⟩))]
  let h3 := put h2 3 (cellsOf Rows.laid_internal_strconv_uint64pow10)
  let h4 := put h3 6 (cellsOf Rows.laid_math_bits_deBruijn32tab)
  let h5 := put h4 7 (cellsOf Rows.laid_math_bits_deBruijn64tab)
  let h6 := put h5 4 (cellsOf Rows.laid_unicode_utf8_first)
  let h7 := put h6 5 (cellsOf Rows.laid_unicode_utf8_acceptRanges)
  { w0 with heap := h7 }
theorem laid_met (os : Os) : laidMet Tryz.prog Rows.scriptBackUptoRow.laid ((laidWorld os).forCall (fun _ _ => 0) ⟨#[], #[.agg #[.slice none 0 0, .slice none 0 0, .slice none 0 0, .slice none 0 0, .slice none 0 0, .slice none 0 0, .slice none 0 0]], []⟩).memory :=
  laidMet_of_run' 8 (by kernel_rfl) (by kernel_rfl)
theorem reads (os : Os) {H : Type} (enc : TypeId × Value → H) : ∃ places, DataW.whole enc Tryz.prog ((laidWorld os).forCall (fun _ _ => 0) ⟨#[], #[.agg #[.slice none 0 0, .slice none 0 0, .slice none 0 0, .slice none 0 0, .slice none 0 0, .slice none 0 0, .slice none 0 0]], []⟩).memory Tryz.f3.params.toList Rows.scriptBackSpec.vars false (#[.agg #[.slice none 0 0, .slice none 0 0, .slice none 0 0, .slice none 0 0, .slice none 0 0, .slice none 0 0, .slice none 0 0]] : Array Value).toList 8 = some ([.agg [.agg [.agg [.nil, .nil], .nil, .nil, .nil, .nil], .nil]], [], places) :=
  ⟨[], by kernel_rfl⟩
theorem lifted (hh : Holds) (os : Os) (started : os.Started) (H : Type) (enc : TypeId × Value → H) (F : Stop.Interp) :
    ReturnsInHanded {} Tryz.checked os 3 .any ((Rows.OpenSpec.upto Rows.scriptBackSpec).preRow enc Tryz.prog Tryz.f3 Rows.scriptBackUptoRow.domain false Rows.scriptBackUptoRow.laid) (((Rows.OpenSpec.upto Rows.scriptBackSpec).at F).post enc Tryz.prog Tryz.f3 false true false false) := by
  obtain ⟨places, hx⟩ := reads os enc
  refine returnsInHanded_of_row (C := Tryz.checked) (s := Rows.OpenSpec.upto Rows.scriptBackSpec) own started (by kernel_rfl) Tryz.func3
    (witness_row_atRef (enc := enc) (C := Tryz.checked) false (laidWorld os) #[.agg #[.slice none 0 0, .slice none 0 0, .slice none 0 0, .slice none 0 0, .slice none 0 0, .slice none 0 0, .slice none 0 0]] rfl (by kernel_rfl) (by kernel_rfl) (by kernel_rfl)
      (OpenSpec.preRow_of_cond 8 hx (by kernel_rfl) (fun k hk => by cases hk; kernel_rfl) (by kernel_rfl) (laid_met os))) ?_
  intro W base args ds gs before hval hW _ hk _ hlaid hsh _
  exact contract hh H enc W base args ds gs before hval hW (hk _ rfl) (tabsIn_of hlaid hsh)
theorem and_mk {a b : Bool} (h1 : a = true) (h2 : b = true) : (a && b) = true := by rw [h1, h2]; rfl
set_option maxHeartbeats 4000000 in
theorem closed : joinedFacts Tryz.prog 3 Tryz.f3 (Rows.OpenSpec.upto Rows.scriptBackSpec).bare Rows.scriptBackUptoRow = true := by
  unfold joinedFacts
  repeat' (first | with_reducible refine and_mk ?_ ?_ | with_reducible exact ownLaid | with_reducible exact ownMaps | with_reducible exact ownInPlace | with_reducible exact ownUnfollowed | with_reducible exact ownRecurses | with_reducible exact ownNamed | (as_aux_lemma => kernel_rfl))
set_option maxHeartbeats 4000000 in
theorem over (hh : Holds) : Rows.ScriptBackUptoSaid :=
  OpenClaim.holds_of_cond 3 Tryz.f3 rfl rfl rfl rfl rfl rfl rfl ⟨rfl, rfl, rfl, rfl, rfl⟩ rfl rfl rfl rfl rfl (by as_aux_lemma => kernel_rfl) Tryz.func3 closed
    (of_decide_eq_true (by as_aux_lemma => kernel_rfl)) (by unfold Func.isWrapper; first | (rw [if_pos (by decide +kernel)]; kernel_rfl) | (rw [if_neg (by decide +kernel)]; exact ⟨rfl, rfl⟩))
    (fun os started H enc _ F => by rw [OpenClaim.pre_eq_preRow]; exact lifted hh os started H enc F)
set_option maxHeartbeats 4000000 in
theorem card (hh : Holds) : Rows.ScriptBackUptoCardSaid :=
  Claim7.holds_tied_plain_at .later [] _ _ _ _ (over hh) (fun _ h => by cases h) (by as_aux_lemma => kernel_rfl) (fun _ h => by cases h) ownRowTie rfl ⟨rfl, rfl⟩ (by as_aux_lemma => kernel_rfl) rfl
    (fun f fn hf hfn => by
      obtain rfl : f = 3 := Option.some.inj ((show Tryz.prog.funcNamed "lorry/lorrylaw54.ScriptBack" = some 3 by as_aux_lemma => kernel_rfl).symm.trans hf) |>.symm
      obtain rfl : fn = Tryz.f3 := (Option.some.inj (Tryz.func3.symm.trans hfn)).symm
      refine ⟨by as_aux_lemma => kernel_rfl, fun j t ht => ?_⟩
      have ht : (#[33] : Array TypeId)[j]? = some t := ht
      have hm := Array.mem_of_getElem? ht
      simp only [Array.mem_def, List.mem_cons, List.not_mem_nil, or_false, or_self] at hm
      subst hm
      exact (show Tryz.prog.wantsStandIn 33 = false by as_aux_lemma => kernel_rfl)) (goesBy_none _ rfl noGo)
end Go.Proofs.YtmidcjlidploaaaGreatDoor.scriptBack
