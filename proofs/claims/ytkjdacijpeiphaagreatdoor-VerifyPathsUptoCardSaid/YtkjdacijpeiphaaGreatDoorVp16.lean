import Derived.Test.YtkjdacijpeiphaaGreatDoorCards
import Derived.Test.YtkjdacijpeiphaaGreatDoorTie
import Derived.Deep.DeepHandedRow
import Derived.Deep.DeepWitnessRowRef
import Derived.Lib.LaidIn
import Derived.SevenTiedAt
import Derived.Test.YtkjdacijpeiphaaGreatDoorVp15
set_option linter.unusedSimpArgs false
set_option linter.unusedVariables false
set_option linter.defProp false
set_option maxRecDepth 100000
namespace Go.Proofs.YtkjdacijpeiphaaGreatDoor.verifyPaths
open Go.Proofs.Tryz
open Go.Aw Go.Aw.D Go.Proofs Go.RowKit Go.ChangeShapes Go.WideShapes Go.ChangeAt
def Qv:Prop:=∀(x0:Proof),UZ 1048576 x0->PC prog 3 [.agg (cY x0)] (.v (.bool true))
theorem own:ownKnob prog.godebug=none:=by kernel_rfl
theorem laid:laidOutB prog=true:=by kernel_rfl
theorem Ss:prog.readableRec 28=true/\28<prog.types.size:=⟨by kernel_rfl,by decide +kernel⟩
theorem Wu(hh:Qv)(H:Type)(enc:TypeId×Value->H)(W:World)(F:Nat)(args:Array Value)(ds gs:List (DataW H))(before:List MemPlace)
  (E:∀(j:Nat) t v,f3.params[j]?=some t->args[j]?=some v->Value.okWide prog W .any F t v)
  (O:DataW.Whole enc prog f3.params.toList Rows.verifyPathsSpec.vars false W args.toList ds gs before) (T:Rows.uptoSmall H (ds++gs)=true) (A:Hs W):
  Calls prog 3 args W fun e W'=>∃v,e=.returned v/\Rows.verifyPathsSpec.post enc prog f3 false true false false W args v W':=by
 have I:=O;obtain⟨p,q,J,X,rfl,aa,ab⟩:=O;have hA:DataW.TrodAll enc prog W 0 (fun _=>true) true [28] args.toList ds p:=J;obtain⟨M,d0,rfl,rfl,h0⟩:=trodAll_one hA;obtain⟨rfl,rfl⟩:=trodVars_none X;clear J;simp only[List.append_nil]at I T;have hb:Rows.uptoBulkAll [d0]<=1048576:=of_decide_eq_true T;simp only[Rows.uptoBulkAll]at hb;obtain⟨Z,r0,U⟩:=OX Tryz.underlying28 UN (E 0 28 M rfl rfl) h0;refine(KD (vals:=[M]) (hh Z (U _ (by simp only[BK];omega))) A (by simp only[aW];exact⟨_,_,rfl,r0,rfl⟩)).mono fun e W' ⟨he,Y⟩=>?_
 subst he;exact⟨_,rfl,Sh laid (by
  intro t A;have A:t∈[28]:=A;simp only[List.mem_cons,List.not_mem_nil,or_false]at A;rcases A with rfl
  ·exact Ss
  ) rfl Tryz.underlying4 rfl (gs:=[]) (by simpa using I) rfl rfl rfl Y⟩
def cellsOf:DataW Unit->Array Value
 | .agg l=>(l.map fun d=>match d with| .lit (.int k n)=>Value.int k n|_=>undef).toArray
 | _=>#[]
noncomputable def Bm(os:Os):World:=
 let w0:=World.holding prog os ⟨#[],#[],[]⟩
 let put (h:Array Obj) (g:Nat) (cs:Array Value):Array Obj:=h.modify g fun
   | .cells _ t frozen=>.cells cs t frozen
   | o=>o
 let h1:=put w0.heap 2 (cellsOf Rows.laid_math_bits_deBruijn32tab)
 let h2:=put h1 3 (cellsOf Rows.laid_math_bits_deBruijn64tab)
 let h3:=put h2 1 (cellsOf Rows.laid_internal_strconv_uint64pow10)
 { w0 with heap:=h3 }
theorem U0(os:Os):laidMet prog Rows.verifyPathsUptoRow.laid ((Bm os).forCall (fun _ _=>0) ⟨#[],#[.agg #[.bool false,.slice none 0 0,.slice none 0 0,.slice none 0 0]],[]⟩).memory:=
 laidMet_of_run' 8 (by kernel_rfl) (by kernel_rfl)
theorem abE(os:Os){H:Type}(enc:TypeId×Value->H):∃places,DataW.whole enc prog ((Bm os).forCall (fun _ _=>0) ⟨#[],#[.agg #[.bool false,.slice none 0 0,.slice none 0 0,.slice none 0 0]],[]⟩).memory f3.params.toList Rows.verifyPathsSpec.vars false (#[.agg #[.bool false,.slice none 0 0,.slice none 0 0,.slice none 0 0]]:Array Value).toList 8=some ([.agg [.lit (.bool false),.agg [.nil,.nil],.nil]],[],places):=
 ⟨[],by kernel_rfl⟩
theorem aaT(U:Qv)(os:Os)(A:os.Started)(H:Type)(enc:TypeId×Value->H)(F:Stop.Interp):
  ReturnsInHanded {} Tryz.checked os 3 .any ((Rows.OpenSpec.upto Rows.verifyPathsSpec).preRow enc prog f3 Rows.verifyPathsUptoRow.domain false Rows.verifyPathsUptoRow.laid) (((Rows.OpenSpec.upto Rows.verifyPathsSpec).at F).post enc prog f3 false true false false):=by
 obtain⟨places,O⟩:=abE os enc;refine returnsInHanded_of_row (C:=Tryz.checked) (s:=Rows.OpenSpec.upto Rows.verifyPathsSpec) own A (by kernel_rfl) func3
  (witness_row_atRef (enc:=enc) (C:=Tryz.checked) false (Bm os) #[.agg #[.bool false,.slice none 0 0,.slice none 0 0,.slice none 0 0]] rfl (by kernel_rfl) (by kernel_rfl) (by kernel_rfl)
   (OpenSpec.preRow_of_cond 8 O (by kernel_rfl) (fun k M=>by cases M;kernel_rfl) (by kernel_rfl) (U0 os))) ?_
 intro W J args ds gs before I T _ M _ E _ _;exact Wu U H enc W J args ds gs before I T (M _ rfl) (RK E)
theorem Z0{a b:Bool}(h1:a=true)(A:b=true):(a&&b)=true:=by rw[h1,A];rfl
set_option maxHeartbeats 4000000 in
theorem closed:joinedFacts prog 3 f3 (Rows.OpenSpec.upto Rows.verifyPathsSpec).bare Rows.verifyPathsUptoRow=true:=by
  unfold joinedFacts
  repeat' (first|with_reducible refine Z0 ?_ ?_|(as_aux_lemma=>kernel_rfl))
set_option maxHeartbeats 4000000 in
theorem over (E:Qv):Rows.VerifyPathsUptoSaid:=
  OpenClaim.holds_of_cond 3 f3 rfl rfl rfl rfl rfl rfl rfl ⟨rfl,rfl,rfl,rfl,rfl⟩ rfl rfl rfl rfl rfl (by as_aux_lemma=>kernel_rfl) func3 closed
    (of_decide_eq_true (by as_aux_lemma=>kernel_rfl)) (by unfold Func.isWrapper;first|(rw[if_pos (by decide +kernel)];kernel_rfl)|(rw[if_neg (by decide +kernel)];exact⟨rfl,rfl⟩))
    (fun os A H enc _ F=>by rw[OpenClaim.pre_eq_preRow];exact aaT E os A H enc F)
set_option maxHeartbeats 4000000 in
theorem card (I:Qv):Rows.VerifyPathsUptoCardSaid:=
  Claim7.holds_tied_plain_at .later [] _ _ _ _ (over I) (fun _ h=>by cases h) (by as_aux_lemma=>kernel_rfl) (fun _ h=>by cases h) verifyPathsUpto_row_tie rfl ⟨rfl,rfl⟩ (by as_aux_lemma=>kernel_rfl) rfl
    (fun f fn J A=>by
      obtain rfl:f=3:=Option.some.inj ((show prog.funcNamed "lorry/lorrylaw38.VerifyPaths" = some 3 by as_aux_lemma=>kernel_rfl).symm.trans J) |>.symm
      obtain rfl:fn=f3:=(Option.some.inj (func3.symm.trans A)).symm
      refine⟨by as_aux_lemma=>kernel_rfl,fun j t E=>?_⟩
      have E:(#[28]:Array TypeId)[j]?=some t:=E
      have F:=Array.mem_of_getElem? E
      simp only[Array.mem_def,List.mem_cons,List.not_mem_nil,or_false,or_self]at F
      subst F
      exact(show prog.wantsStandIn 28=false by as_aux_lemma=>kernel_rfl)) (by as_aux_lemma=>kernel_rfl)
end Go.Proofs.YtkjdacijpeiphaaGreatDoor.verifyPaths
