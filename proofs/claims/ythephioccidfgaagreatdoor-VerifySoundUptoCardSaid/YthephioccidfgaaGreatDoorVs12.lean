import Derived.Test.YthephioccidfgaaGreatDoorCards
import Derived.Test.YthephioccidfgaaGreatDoorTie
import Derived.Deep.DeepHandedRow
import Derived.Deep.DeepWitnessRowRef
import Derived.Lib.LaidIn
import Derived.SevenTiedAt
import Derived.Test.YthephioccidfgaaGreatDoorVs11
set_option linter.unusedSimpArgs false
set_option linter.unusedVariables false
set_option linter.defProp false
set_option maxRecDepth 100000
namespace Go.Proofs.YthephioccidfgaaGreatDoor.verifySound
open Go.Proofs.Tryz
open Go.Aw Go.Aw.D Go.Proofs Go.RowKit Go.ChangeShapes Go.WideShapes Go.ChangeAt
theorem ajW{H:Type}(d:DataW H):1<=Rows.uptoBulk d:=by
 cases d with
 | lit l=>cases l <;> simp[Rows.uptoBulk]
 | _=>simp[Rows.uptoBulk]
theorem agB{P:Program}(h:P.funcs.any Func.goes=false)(f:FuncId):P.goes f=false:=by
 have A:∀g:Nat,(P.funcs[g]?).any Func.goes=false:=fun g=>by
  cases e:P.funcs[g]? with
  | none=>rfl
  | some x=>have E:=Array.mem_of_getElem? e;rw[Array.any_eq_false']at h;simpa using h x E
 unfold Program.goes;rw[h,Bool.and_false,Bool.or_false];simp[A]
theorem Tq{P:Program}(c:OpenClaim)(A:c.start=.entering)(h:P.funcs.any Func.goes=false):false=c.goesBy P:=by
 unfold OpenClaim.goesBy Program.goesAt Program.goesFrom;rw[A];cases P.funcNamed c.func with
 | none=>rfl
 | some f=>simp[agB h f]
theorem noGo:prog.funcs.any Func.goes=false:=by as_aux_lemma=>kernel_rfl
def Yw:Prop:=∀(x0:Instance) (x1:Proof) (x2:Plan),sK 1048576 x0->Gm 1048576 x1->ZQ 1048575 x2->PC prog 3 [.agg (aE x0),.agg (dY x1),.agg (gK x2)] (.v (.bool true))
theorem own:ownKnob prog.godebug=none:=by kernel_rfl
theorem laid:laidOutB prog=true:=by kernel_rfl
theorem QA:prog.readableRec 30=true/\30<prog.types.size:=⟨by kernel_rfl,by decide +kernel⟩
theorem aiK:prog.readableRec 34=true/\34<prog.types.size:=⟨by kernel_rfl,by decide +kernel⟩
theorem acB:prog.readableRec 37=true/\37<prog.types.size:=⟨by kernel_rfl,by decide +kernel⟩
theorem akF(hh:Yw)(H:Type)(enc:TypeId×Value->H)(W:World)(O:Nat)(args:Array Value)(ds gs:List (DataW H))(before:List MemPlace)
  (A:∀(j:Nat) t v,f3.params[j]?=some t->args[j]?=some v->Value.okWide prog W .any O t v)
  (T:DataW.Whole enc prog f3.params.toList Rows.verifySoundSpec.vars false W args.toList ds gs before) (U:Rows.uptoSmall H (ds++gs)=true) (E:PH W):
  Calls prog 3 args W fun e W'=>∃v,e=.returned v/\Rows.verifySoundSpec.post enc prog f3 false true false false W args v W':=by
 have F:=T;obtain⟨p,q,J,hV,rfl,ac,aa⟩:=T;have hA:DataW.TrodAll enc prog W 0 (fun _=>true) true [30,37,34] args.toList ds p:=J;obtain⟨X,Z,v2,Y,d1,d2,p0,p1,p2,rfl,rfl,rfl,h0,h1,h2⟩:=trodAll_three hA;obtain⟨rfl,rfl⟩:=trodVars_none hV;clear J;simp only[List.append_nil]at F U;have hb:Rows.uptoBulkAll [Y,d1,d2]<=1048576:=of_decide_eq_true U;simp only[Rows.uptoBulkAll]at hb;have ab:=ajW Y;obtain⟨x0,r0,b0⟩:=Eh Tryz.underlying30 SP (A 0 30 X rfl rfl) h0;obtain⟨x1,r1,b1⟩:=Eh Tryz.underlying37 akT (A 1 37 Z rfl rfl) h1;obtain⟨x2,r2,b2⟩:=Eh Tryz.underlying34 YT (A 2 34 v2 rfl rfl) h2;refine(TQ (vals:=[X,Z,v2]) (hh x0 x1 x2 (b0 _ (by simp only[BK];omega)) (b1 _ (by simp only[BK];omega)) (b2 _ (by simp only[BK];omega))) E (by simp only[bJ];exact⟨_,_,rfl,r0,⟨_,_,rfl,r1,⟨_,_,rfl,r2,rfl⟩⟩⟩)).mono fun e W' ⟨he,hg⟩=>?_
 subst he;exact⟨_,rfl,adF laid (by
  intro t E;have E:t∈[30,37,34]:=E;simp only[List.mem_cons,List.not_mem_nil,or_false]at E;rcases E with rfl|rfl|rfl
  ·exact QA
  ·exact acB
  ·exact aiK
  ) rfl Tryz.underlying4 rfl (gs:=[]) (by simpa using F) rfl rfl rfl hg⟩
def cellsOf:DataW Unit->Array Value
 | .agg l=>(l.map fun d=>match d with| .lit (.int k n)=>Value.int k n|_=>undef).toArray
 | _=>#[]
noncomputable def Gi(os:Os):World:=
 let w0:=World.holding prog os ⟨#[],#[],[]⟩
 let put (h:Array Obj) (g:Nat) (cs:Array Value):Array Obj:=h.modify g fun
   | .cells _ t frozen=>.cells cs t frozen
   | o=>o
 let h1:=put w0.heap 2 (cellsOf Rows.laid_math_bits_deBruijn32tab)
 let h2:=put h1 3 (cellsOf Rows.laid_math_bits_deBruijn64tab)
 let h3:=put h2 1 (cellsOf Rows.laid_internal_strconv_uint64pow10)
 { w0 with heap:=h3 }
theorem aoQ(os:Os):laidMet prog Rows.verifySoundUptoRow.laid ((Gi os).forCall (fun _ _=>0) ⟨#[],#[.agg #[.slice none 0 0,.slice none 0 0,.slice none 0 0,.slice none 0 0,.slice none 0 0,.slice none 0 0],.agg #[.bool false,.slice none 0 0,.slice none 0 0,.slice none 0 0],.agg #[.slice none 0 0,.slice none 0 0]],[]⟩).memory:=
 laidMet_of_run' 8 (by kernel_rfl) (by kernel_rfl)
theorem aBB(os:Os){H:Type}(enc:TypeId×Value->H):∃places,DataW.whole enc prog ((Gi os).forCall (fun _ _=>0) ⟨#[],#[.agg #[.slice none 0 0,.slice none 0 0,.slice none 0 0,.slice none 0 0,.slice none 0 0,.slice none 0 0],.agg #[.bool false,.slice none 0 0,.slice none 0 0,.slice none 0 0],.agg #[.slice none 0 0,.slice none 0 0]],[]⟩).memory f3.params.toList Rows.verifySoundSpec.vars false (#[.agg #[.slice none 0 0,.slice none 0 0,.slice none 0 0,.slice none 0 0,.slice none 0 0,.slice none 0 0],.agg #[.bool false,.slice none 0 0,.slice none 0 0,.slice none 0 0],.agg #[.slice none 0 0,.slice none 0 0]]:Array Value).toList 8=some ([.agg [.agg [.nil,.nil],.nil,.nil,.nil,.nil],.agg [.lit (.bool false),.agg [.nil,.nil],.nil],.agg [.nil,.nil]],[],places):=
 ⟨[],by kernel_rfl⟩
theorem ayO(Y:Yw)(os:Os)(A:os.Started)(H:Type)(enc:TypeId×Value->H)(F:Stop.Interp):
  ReturnsInHanded {} Tryz.checked os 3 .any ((Rows.OpenSpec.upto Rows.verifySoundSpec).preRow enc prog f3 Rows.verifySoundUptoRow.domain false Rows.verifySoundUptoRow.laid) (((Rows.OpenSpec.upto Rows.verifySoundSpec).at F).post enc prog f3 false true false false):=by
 obtain⟨places,X⟩:=aBB os enc;refine returnsInHanded_of_row (C:=Tryz.checked) (s:=Rows.OpenSpec.upto Rows.verifySoundSpec) own A (by kernel_rfl) func3
  (witness_row_atRef (enc:=enc) (C:=Tryz.checked) false (Gi os) #[.agg #[.slice none 0 0,.slice none 0 0,.slice none 0 0,.slice none 0 0,.slice none 0 0,.slice none 0 0],.agg #[.bool false,.slice none 0 0,.slice none 0 0,.slice none 0 0],.agg #[.slice none 0 0,.slice none 0 0]] rfl (by kernel_rfl) (by kernel_rfl) (by kernel_rfl)
   (OpenSpec.preRow_of_cond 8 X (by kernel_rfl) (fun k T=>by cases T;kernel_rfl) (by kernel_rfl) (aoQ os))) ?_
 intro W O args ds gs before J U _ T _ E _ _;exact akF Y H enc W O args ds gs before J U (T _ rfl) (aeJ E)
theorem aAc{a b:Bool}(h1:a=true)(A:b=true):(a&&b)=true:=by rw[h1,A];rfl
set_option maxHeartbeats 4000000 in
theorem closed:joinedFacts prog 3 f3 (Rows.OpenSpec.upto Rows.verifySoundSpec).bare Rows.verifySoundUptoRow=true:=by
  unfold joinedFacts
  repeat' (first|with_reducible refine aAc ?_ ?_|(as_aux_lemma=>kernel_rfl))
set_option maxHeartbeats 4000000 in
theorem over (E:Yw):Rows.VerifySoundUptoSaid:=
  OpenClaim.holds_of_cond 3 f3 rfl rfl rfl rfl rfl rfl rfl ⟨rfl,rfl,rfl,rfl,rfl⟩ rfl rfl rfl rfl rfl (by as_aux_lemma=>kernel_rfl) func3 closed
    (of_decide_eq_true (by as_aux_lemma=>kernel_rfl)) (by unfold Func.isWrapper;first|(rw[if_pos (by decide +kernel)];kernel_rfl)|(rw[if_neg (by decide +kernel)];exact⟨rfl,rfl⟩))
    (fun os A H enc _ F=>by rw[OpenClaim.pre_eq_preRow];exact ayO E os A H enc F)
set_option maxHeartbeats 4000000 in
theorem card (O:Yw):Rows.VerifySoundUptoCardSaid:=
  Claim7.holds_tied_plain_at .later [] _ _ _ _ (over O) (fun _ h=>by cases h) (by as_aux_lemma=>kernel_rfl) (fun _ h=>by cases h) verifySoundUpto_row_tie rfl ⟨rfl,rfl⟩ (by as_aux_lemma=>kernel_rfl) rfl
    (fun f fn J E=>by
      obtain rfl:f=3:=Option.some.inj ((show prog.funcNamed "lorry/lorrylaw38.VerifySound" = some 3 by as_aux_lemma=>kernel_rfl).symm.trans J) |>.symm
      obtain rfl:fn=f3:=(Option.some.inj (func3.symm.trans E)).symm
      refine⟨by as_aux_lemma=>kernel_rfl,fun j t A=>?_⟩
      have A:(#[30,37,34]:Array TypeId)[j]?=some t:=A
      have F:=Array.mem_of_getElem? A
      simp only[Array.mem_def,List.mem_cons,List.not_mem_nil,or_false,or_self]at F
      rcases F with rfl|rfl|rfl
      . exact(show prog.wantsStandIn 30=false by as_aux_lemma=>kernel_rfl)
      . exact(show prog.wantsStandIn 37=false by as_aux_lemma=>kernel_rfl)
      . exact(show prog.wantsStandIn 34=false by as_aux_lemma=>kernel_rfl)) (Tq _ rfl noGo)
end Go.Proofs.YthephioccidfgaaGreatDoor.verifySound
