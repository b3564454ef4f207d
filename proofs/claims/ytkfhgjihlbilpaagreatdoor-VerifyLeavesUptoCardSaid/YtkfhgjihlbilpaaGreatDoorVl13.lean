import Derived.Test.YtkfhgjihlbilpaaGreatDoorCards
import Derived.Test.YtkfhgjihlbilpaaGreatDoorTie
import Derived.Deep.DeepHandedRow
import Derived.Deep.DeepWitnessRowRef
import Derived.Lib.LaidIn
import Derived.SevenTiedAt
import Derived.Test.YtkfhgjihlbilpaaGreatDoorVl12
set_option linter.unusedSimpArgs false
set_option linter.unusedVariables false
set_option linter.defProp false
set_option maxRecDepth 100000
namespace Go.Proofs.YtkfhgjihlbilpaaGreatDoor.verifyLeaves
open Go.Proofs.Tryz
open Go.Aw Go.Aw.D Go.Proofs Go.RowKit Go.ChangeShapes Go.WideShapes Go.ChangeAt
theorem ajA{P:Program}(h:P.funcs.any Func.goes=false)(f:FuncId):P.goes f=false:=by
 have A:∀g:Nat,(P.funcs[g]?).any Func.goes=false:=fun g=>by grind
 simp_all[Program.goes]
theorem SW{P:Program}(c:OpenClaim)(A:c.start=.entering)(h:P.funcs.any Func.goes=false):false=c.goesBy P:=by unfold OpenClaim.goesBy Program.goesAt Program.goesFrom;rw[A];cases P.funcNamed c.func<;>grind[ajA]
theorem noGo:prog.funcs.any Func.goes=false:=by as_aux_lemma=>kernel_rfl
def acM:Prop:=∀(x0:Instance) (x1:List Decision) (x2:TNode) (x3:Int),DN 1048576 x0->(bL wP) 1048576 x1->Wj 1048576 x2->lD 1048576 x3->PC prog 3 [.agg (aD x0),.sl (x1.map aO),.agg (bY x2),.v (.int .i64 x3)] (.v (.bool true))
theorem own:ownKnob prog.godebug=none:=by rfl
theorem laid:laidOutB prog=true:=by kernel_rfl
theorem Py:prog.readableRec 30=true/\30<prog.types.size:=⟨by kernel_rfl,by simp⟩
theorem atO:prog.readableRec 3=true/\3<prog.types.size:=⟨by rfl,by simp⟩
theorem MS:prog.readableRec 31=true/\31<prog.types.size:=⟨by rfl,by simp⟩
theorem aiD:prog.readableRec 37=true/\37<prog.types.size:=⟨by rfl,by simp⟩
theorem arE(hh:acM)(H:Type)(enc:TypeId×Value->H)(W:World)(E:Nat)(args:Array Value)(ds gs:List (DataW H))(before:List MemPlace)
  (A:∀(j:Nat) t v,f3.params[j]?=some t->args[j]?=some v->Value.okWide prog W .any E t v)
  (O:DataW.Whole enc prog f3.params.toList Rows.verifyLeavesSpec.vars false W args.toList ds gs before) (J:Rows.uptoSmall H (ds++gs)=true) (ht:RA W):
  Calls prog 3 args W fun e W'=>∃v,e=.returned v/\Rows.verifyLeavesSpec.post enc prog f3 false true false false W args v W':=by
 have I:=O;obtain⟨p,q,F,hV,rfl,aa,ab⟩:=O;have hA:DataW.TrodAll enc prog W 0 (fun _=>true) true [30,31,37,3] args.toList ds p:=F;obtain⟨T,X,Y,U,d0,d1,d2,d3,p0,p1,p2,p3,rfl,rfl,rfl,h0,h1,h2,h3⟩:=trodAll_four hA;obtain⟨rfl,rfl⟩:=trodVars_none hV;clear F;simp only[List.append_nil]at I J;have hb:Rows.uptoBulkAll [d0,d1,d2,d3]<=1048576:=of_decide_eq_true J;simp only[Rows.uptoBulkAll]at hb;obtain⟨x0,r0,b0⟩:=K8 Tryz.underlying30 Ui (A 0 30 T rfl rfl) h0;obtain⟨x1,r1,Z⟩:=aeQ Tryz.underlying31 PF (A 1 31 X rfl rfl) h1;obtain⟨x2,r2,b2⟩:=K8 Tryz.underlying37 akT (A 2 37 Y rfl rfl) h2;obtain⟨x3,r3,b3⟩:=axA Tryz.underlying3 (A 3 3 U rfl rfl) h3;refine(UF (vals:=[T,X,Y,U]) (hh x0 x1 x2 x3 (b0 _ (by grind)) (Z _ (by grind)) (b2 _ (by grind)) (b3 _ (by grind))) ht (by grind[bR])).mono fun e W' ⟨he,hg⟩=>?_
 subst he;exact⟨_,rfl,adU laid (by simp[Py,MS,aiD,atO]
  ) rfl Tryz.underlying4 rfl (gs:=[]) (by omega) rfl rfl rfl hg⟩
def cellsOf:DataW Unit->Array Value
 | .agg l=>(l.map fun d=>match d with| .lit (.int k n)=>Value.int k n|_=>undef).toArray
 | _=>#[]
noncomputable def G5(os:Os):World:=
 let w0:=World.holding prog os ⟨#[],#[],[]⟩
 let put (h:Array Obj) (g:Nat) (cs:Array Value):Array Obj:=h.modify g fun
   | .cells _ t frozen=>.cells cs t frozen
   | o=>o
 let h1:=put w0.heap 2 (cellsOf Rows.laid_math_bits_deBruijn32tab)
 let h2:=put h1 3 (cellsOf Rows.laid_math_bits_deBruijn64tab)
 let h3:=put h2 1 (cellsOf Rows.laid_internal_strconv_uint64pow10)
 { w0 with heap:=h3 }
theorem aqN(os:Os):laidMet prog Rows.verifyLeavesUptoRow.laid ((G5 os).forCall (fun _ _=>0) ⟨#[],#[.agg #[.slice none 0 0,.slice none 0 0,.slice none 0 0,.slice none 0 0,.slice none 0 0,.slice none 0 0],.slice none 0 0,.agg #[.bool false,.int .i64 0,.slice none 0 0,.slice none 0 0,.int .i64 0,.int .i64 0,.int .i64 0,.int .i64 0,.int .i64 0,.int .i64 0],.int .i64 0],[]⟩).memory:=
 laidMet_of_run' 8 (by kernel_rfl) (by kernel_rfl)
theorem aB7(os:Os){H:Type}(enc:TypeId×Value->H):∃places,DataW.whole enc prog ((G5 os).forCall (fun _ _=>0) ⟨#[],#[.agg #[.slice none 0 0,.slice none 0 0,.slice none 0 0,.slice none 0 0,.slice none 0 0,.slice none 0 0],.slice none 0 0,.agg #[.bool false,.int .i64 0,.slice none 0 0,.slice none 0 0,.int .i64 0,.int .i64 0,.int .i64 0,.int .i64 0,.int .i64 0,.int .i64 0],.int .i64 0],[]⟩).memory f3.params.toList Rows.verifyLeavesSpec.vars false (#[.agg #[.slice none 0 0,.slice none 0 0,.slice none 0 0,.slice none 0 0,.slice none 0 0,.slice none 0 0],.slice none 0 0,.agg #[.bool false,.int .i64 0,.slice none 0 0,.slice none 0 0,.int .i64 0,.int .i64 0,.int .i64 0,.int .i64 0,.int .i64 0,.int .i64 0],.int .i64 0]:Array Value).toList 8=some ([.agg [.agg [.nil,.nil],.nil,.nil,.nil,.nil],.nil,.agg [.lit (.bool false),.lit (.int .i64 0),.nil,.nil,.agg [.lit (.int .i64 0),.lit (.int .i64 0),.lit (.int .i64 0),.lit (.int .i64 0)],.lit (.int .i64 0),.lit (.int .i64 0)],.lit (.int .i64 0)],[],places):=
 ⟨[],by rfl⟩
theorem aAP(U:acM)(os:Os)(A:os.Started)(H:Type)(enc:TypeId×Value->H)(F:Stop.Interp):
  ReturnsInHanded {} Tryz.checked os 3 .any ((Rows.OpenSpec.upto Rows.verifyLeavesSpec).preRow enc prog f3 Rows.verifyLeavesUptoRow.domain false Rows.verifyLeavesUptoRow.laid) (((Rows.OpenSpec.upto Rows.verifyLeavesSpec).at F).post enc prog f3 false true false false):=by
 obtain⟨places,T⟩:=aB7 os enc;refine returnsInHanded_of_row (C:=Tryz.checked) (s:=Rows.OpenSpec.upto Rows.verifyLeavesSpec) own A (by kernel_rfl) func3
  (witness_row_atRef (enc:=enc) (C:=Tryz.checked) false (G5 os) #[.agg #[.slice none 0 0,.slice none 0 0,.slice none 0 0,.slice none 0 0,.slice none 0 0,.slice none 0 0],.slice none 0 0,.agg #[.bool false,.int .i64 0,.slice none 0 0,.slice none 0 0,.int .i64 0,.int .i64 0,.int .i64 0,.int .i64 0,.int .i64 0,.int .i64 0],.int .i64 0] rfl (by kernel_rfl) (by rfl) (by kernel_rfl)
   (OpenSpec.preRow_of_cond 8 T (by rfl) (fun k O=>by cases O;rfl) (by rfl) (aqN os))) ?_
 intro W I args ds gs before J X _ O _ E _ _;exact arE U H enc W I args ds gs before J X (O _ rfl) (agI E)
theorem aBg{a b:Bool}(h1:a=true)(A:b=true):(a&&b)=true:=by grind
set_option maxHeartbeats 4000000 in
theorem closed:joinedFacts prog 3 f3 (Rows.OpenSpec.upto Rows.verifyLeavesSpec).bare Rows.verifyLeavesUptoRow=true:=by
  unfold joinedFacts
  repeat' (first|with_reducible refine aBg ?_ ?_|(as_aux_lemma=>kernel_rfl))
set_option maxHeartbeats 4000000 in
theorem over (E:acM):Rows.VerifyLeavesUptoSaid:=
  OpenClaim.holds_of_cond 3 f3 rfl rfl rfl rfl rfl rfl rfl ⟨rfl,rfl,rfl,rfl,rfl⟩ rfl rfl rfl rfl rfl (by as_aux_lemma=>kernel_rfl) func3 closed
    (of_decide_eq_true (by rfl)) (by unfold Func.isWrapper;first|(rw[if_pos (by decide +kernel)];kernel_rfl)|(rw[if_neg (by decide +kernel)];exact⟨rfl,rfl⟩))
    (fun os A H enc _ F=>by rw[OpenClaim.pre_eq_preRow];exact aAP E os A H enc F)
set_option maxHeartbeats 4000000 in
theorem card (J:acM):Rows.VerifyLeavesUptoCardSaid:=
  Claim7.holds_tied_plain_at .later [] _ _ _ _ (over J) (fun _ h=>by cases h) (by rfl) (fun _ h=>by cases h) verifyLeavesUpto_row_tie rfl ⟨rfl,rfl⟩ (by as_aux_lemma=>kernel_rfl) rfl
    (fun f fn I A=>by
      obtain rfl:f=3:=Option.some.inj ((show prog.funcNamed "lorry/lorrylaw38.VerifyLeaves" = some 3 by as_aux_lemma=>kernel_rfl).symm.trans I) |>.symm
      obtain rfl:fn=f3:=(Option.some.inj (func3.symm.trans A)).symm
      refine⟨by as_aux_lemma=>kernel_rfl,fun j t E=>?_⟩
      have E:(#[30,31,37,3]:Array TypeId)[j]?=some t:=E
      have F:=Array.mem_of_getElem? E
      simp only[Array.mem_def,List.mem_cons,List.not_mem_nil,or_false,or_self]at F
      rcases F with rfl|rfl|rfl|rfl
      . rfl
      all_goals rfl) (SW _ rfl noGo)
end Go.Proofs.YtkfhgjihlbilpaaGreatDoor.verifyLeaves
