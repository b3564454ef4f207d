import Derived.Test.YtgncgpcpbadfnaaGreatDoorCards
import Derived.Test.YtgncgpcpbadfnaaGreatDoorTie
import Derived.Deep.DeepHandedRow
import Derived.Deep.DeepWitnessRowRef
import Derived.Lib.LaidIn
import Derived.SevenTiedAt
import Derived.Test.YtgncgpcpbadfnaaGreatDoorVc16
set_option linter.unusedSimpArgs false
set_option linter.unusedVariables false
set_option linter.defProp false
set_option maxRecDepth 100000
namespace Go.Proofs.YtgncgpcpbadfnaaGreatDoor.verifyCovers
open Go.Proofs.Tryz
open Go.Aw Go.Aw.D Go.Proofs Go.RowKit Go.ChangeShapes Go.WideShapes Go.ChangeAt
theorem WP{H:Type}(d:DataW H):1<=Rows.uptoBulk d:=by
 cases d with
 | lit l=>cases l <;> simp[Rows.uptoBulk]
 | _=>simp[Rows.uptoBulk]
def Tw:Prop:=∀(x0:Instance) (x1:Proof) (x2:Plan),rA 1048576 x0->G6 1048576 x1->TK 1048575 x2->PC prog 4 [.agg (aE x0),.agg (dI x1),.agg (gA x2)] (.v (.bool true))
theorem own:ownKnob prog.godebug=none:=by kernel_rfl
theorem laid:laidOutB prog=true:=by kernel_rfl
theorem J4:prog.readableRec 30=true/\30<prog.types.size:=⟨by kernel_rfl,by decide +kernel⟩
theorem Zk:prog.readableRec 34=true/\34<prog.types.size:=⟨by kernel_rfl,by decide +kernel⟩
theorem V8:prog.readableRec 37=true/\37<prog.types.size:=⟨by kernel_rfl,by decide +kernel⟩
theorem XB(hh:Tw)(H:Type)(enc:TypeId×Value->H)(W:World)(J:Nat)(args:Array Value)(ds gs:List (DataW H))(before:List MemPlace)
  (A:∀(j:Nat) t v,f4.params[j]?=some t->args[j]?=some v->Value.okWide prog W .any J t v)
  (T:DataW.Whole enc prog f4.params.toList Rows.verifyCoversSpec.vars false W args.toList ds gs before) (X:Rows.uptoSmall H (ds++gs)=true) (E:J9 W):
  Calls prog 4 args W fun e W'=>∃v,e=.returned v/\Rows.verifyCoversSpec.post enc prog f4 false true false false W args v W':=by
 have F:=T;obtain⟨p,q,I,Z,rfl,ab,ac⟩:=T;have hA:DataW.TrodAll enc prog W 0 (fun _=>true) true [30,37,34] args.toList ds p:=I;obtain⟨O,U,Y,M,d1,d2,p0,p1,p2,rfl,rfl,rfl,h0,h1,h2⟩:=trodAll_three hA;obtain⟨rfl,rfl⟩:=trodVars_none Z;clear I;simp only[List.append_nil]at F X;have hb:Rows.uptoBulkAll [M,d1,d2]<=1048576:=of_decide_eq_true X;simp only[Rows.uptoBulkAll]at hb;have aa:=WP M;obtain⟨x0,r0,b0⟩:=BJ Tryz.underlying30 NG (A 0 30 O rfl rfl) h0;obtain⟨x1,r1,b1⟩:=BJ Tryz.underlying37 Ye (A 1 37 U rfl rfl) h1;obtain⟨x2,r2,b2⟩:=BJ Tryz.underlying34 SB (A 2 34 Y rfl rfl) h2;refine(N2 (vals:=[O,U,Y]) (hh x0 x1 x2 (b0 _ (by simp only[BK];omega)) (b1 _ (by simp only[BK];omega)) (b2 _ (by simp only[BK];omega))) E (by simp only[bC];exact⟨_,_,rfl,r0,⟨_,_,rfl,r1,⟨_,_,rfl,r2,rfl⟩⟩⟩)).mono fun e W' ⟨he,hg⟩=>?_
 subst he;exact⟨_,rfl,Wu laid (by
  intro t E;have E:t∈[30,37,34]:=E;simp only[List.mem_cons,List.not_mem_nil,or_false]at E;rcases E with rfl|rfl|rfl
  ·exact J4
  ·exact V8
  ·exact Zk
  ) rfl Tryz.underlying4 rfl (gs:=[]) (by simpa using F) rfl rfl rfl hg⟩
def cellsOf:DataW Unit->Array Value
 | .agg l=>(l.map fun d=>match d with| .lit (.int k n)=>Value.int k n|_=>undef).toArray
 | _=>#[]
noncomputable def CY(os:Os):World:=
 let w0:=World.holding prog os ⟨#[],#[],[]⟩
 let put (h:Array Obj) (g:Nat) (cs:Array Value):Array Obj:=h.modify g fun
   | .cells _ t frozen=>.cells cs t frozen
   | o=>o
 let h1:=put w0.heap 2 (cellsOf Rows.laid_math_bits_deBruijn32tab)
 let h2:=put h1 3 (cellsOf Rows.laid_math_bits_deBruijn64tab)
 let h3:=put h2 1 (cellsOf Rows.laid_internal_strconv_uint64pow10)
 { w0 with heap:=h3 }
theorem Ys(os:Os):laidMet prog Rows.verifyCoversUptoRow.laid ((CY os).forCall (fun _ _=>0) ⟨#[],#[.agg #[.slice none 0 0,.slice none 0 0,.slice none 0 0,.slice none 0 0,.slice none 0 0,.slice none 0 0],.agg #[.bool false,.slice none 0 0,.slice none 0 0,.slice none 0 0],.agg #[.slice none 0 0,.slice none 0 0]],[]⟩).memory:=
 laidMet_of_run' 8 (by kernel_rfl) (by kernel_rfl)
theorem aiX(os:Os){H:Type}(enc:TypeId×Value->H):∃places,DataW.whole enc prog ((CY os).forCall (fun _ _=>0) ⟨#[],#[.agg #[.slice none 0 0,.slice none 0 0,.slice none 0 0,.slice none 0 0,.slice none 0 0,.slice none 0 0],.agg #[.bool false,.slice none 0 0,.slice none 0 0,.slice none 0 0],.agg #[.slice none 0 0,.slice none 0 0]],[]⟩).memory f4.params.toList Rows.verifyCoversSpec.vars false (#[.agg #[.slice none 0 0,.slice none 0 0,.slice none 0 0,.slice none 0 0,.slice none 0 0,.slice none 0 0],.agg #[.bool false,.slice none 0 0,.slice none 0 0,.slice none 0 0],.agg #[.slice none 0 0,.slice none 0 0]]:Array Value).toList 8=some ([.agg [.agg [.nil,.nil],.nil,.nil,.nil,.nil],.agg [.lit (.bool false),.agg [.nil,.nil],.nil],.agg [.nil,.nil]],[],places):=
 ⟨[],by kernel_rfl⟩
theorem aiO(U:Tw)(os:Os)(A:os.Started)(H:Type)(enc:TypeId×Value->H)(F:Stop.Interp):
  ReturnsInHanded {} Tryz.checked os 4 .any ((Rows.OpenSpec.upto Rows.verifyCoversSpec).preRow enc prog f4 Rows.verifyCoversUptoRow.domain false Rows.verifyCoversUptoRow.laid) (((Rows.OpenSpec.upto Rows.verifyCoversSpec).at F).post enc prog f4 false true false false):=by
 obtain⟨places,T⟩:=aiX os enc;refine returnsInHanded_of_row (C:=Tryz.checked) (s:=Rows.OpenSpec.upto Rows.verifyCoversSpec) own A (by kernel_rfl) func4
  (witness_row_atRef (enc:=enc) (C:=Tryz.checked) false (CY os) #[.agg #[.slice none 0 0,.slice none 0 0,.slice none 0 0,.slice none 0 0,.slice none 0 0,.slice none 0 0],.agg #[.bool false,.slice none 0 0,.slice none 0 0,.slice none 0 0],.agg #[.slice none 0 0,.slice none 0 0]] rfl (by kernel_rfl) (by kernel_rfl) (by kernel_rfl)
   (OpenSpec.preRow_of_cond 8 T (by kernel_rfl) (fun k M=>by cases M;kernel_rfl) (by kernel_rfl) (Ys os))) ?_
 intro W I args ds gs before J O _ M _ E _ _;exact XB U H enc W I args ds gs before J O (M _ rfl) (VD E)
theorem agG{a b:Bool}(h1:a=true)(A:b=true):(a&&b)=true:=by rw[h1,A];rfl
set_option maxHeartbeats 4000000 in
theorem closed:joinedFacts prog 4 f4 (Rows.OpenSpec.upto Rows.verifyCoversSpec).bare Rows.verifyCoversUptoRow=true:=by
  unfold joinedFacts
  repeat' (first|with_reducible refine agG ?_ ?_|(as_aux_lemma=>kernel_rfl))
set_option maxHeartbeats 4000000 in
theorem over (E:Tw):Rows.VerifyCoversUptoSaid:=
  OpenClaim.holds_of_cond 4 f4 rfl rfl rfl rfl rfl rfl rfl ⟨rfl,rfl,rfl,rfl,rfl⟩ rfl rfl rfl rfl rfl (by as_aux_lemma=>kernel_rfl) func4 closed
    (of_decide_eq_true (by as_aux_lemma=>kernel_rfl)) (by unfold Func.isWrapper;first|(rw[if_pos (by decide +kernel)];kernel_rfl)|(rw[if_neg (by decide +kernel)];exact⟨rfl,rfl⟩))
    (fun os A H enc _ F=>by rw[OpenClaim.pre_eq_preRow];exact aiO E os A H enc F)
set_option maxHeartbeats 4000000 in
theorem card (I:Tw):Rows.VerifyCoversUptoCardSaid:=
  Claim7.holds_tied_plain_at .later [] _ _ _ _ (over I) (fun _ h=>by cases h) (by as_aux_lemma=>kernel_rfl) (fun _ h=>by cases h) verifyCoversUpto_row_tie rfl ⟨rfl,rfl⟩ (by as_aux_lemma=>kernel_rfl) rfl
    (fun f fn J E=>by
      obtain rfl:f=4:=Option.some.inj ((show prog.funcNamed "lorry/lorrylaw38.VerifyCovers" = some 4 by as_aux_lemma=>kernel_rfl).symm.trans J) |>.symm
      obtain rfl:fn=f4:=(Option.some.inj (func4.symm.trans E)).symm
      refine⟨by as_aux_lemma=>kernel_rfl,fun j t A=>?_⟩
      have A:(#[30,37,34]:Array TypeId)[j]?=some t:=A
      have F:=Array.mem_of_getElem? A
      simp only[Array.mem_def,List.mem_cons,List.not_mem_nil,or_false,or_self]at F
      rcases F with rfl|rfl|rfl
      . exact(show prog.wantsStandIn 30=false by as_aux_lemma=>kernel_rfl)
      . exact(show prog.wantsStandIn 37=false by as_aux_lemma=>kernel_rfl)
      . exact(show prog.wantsStandIn 34=false by as_aux_lemma=>kernel_rfl)) (by as_aux_lemma=>kernel_rfl)
end Go.Proofs.YtgncgpcpbadfnaaGreatDoor.verifyCovers
