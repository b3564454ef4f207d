import Derived.Test.YtmhpdppobocokaaGreatDoorCards
import Derived.Test.YtmhpdppobocokaaGreatDoorTie
import Derived.Deep.DeepHandedRow
import Derived.Deep.DeepWitnessRowRef
import Derived.Lib.LaidIn
import Derived.SevenTiedAt
import Derived.Test.YtmhpdppobocokaaGreatDoorTs10
set_option linter.unusedSimpArgs false
set_option linter.unusedVariables false
set_option linter.defProp false
set_option maxRecDepth 100000
namespace Go.Proofs.YtmhpdppobocokaaGreatDoor.treeSizes
open Go.Proofs.Tryz
open Go.Aw Go.Aw.D Go.Proofs Go.RowKit Go.ChangeShapes Go.WideShapes Go.ChangeAt
theorem NE{P:Program}(h:P.funcs.any Func.goes=false)(f:FuncId):P.goes f=false:=by
 have u:∀g:Nat,(P.funcs[g]?).any Func.goes=false:=fun g=>by
  cases e:P.funcs[g]? with
  | none=>rfl
  | some x=>have E:=Array.mem_of_getElem? e;rw[Array.any_eq_false']at h;simpa using h x E
 unfold Program.goes;rw[h,Bool.and_false,Bool.or_false];simp[u]
theorem I8{P:Program}(c:OpenClaim)(u:c.start=.entering)(h:P.funcs.any Func.goes=false):false=c.goesBy P:=by
 unfold OpenClaim.goesBy Program.goesAt Program.goesFrom;rw[u];cases P.funcNamed c.func with
 | none=>rfl
 | some f=>simp[NE h f]
theorem VM:prog.funcs.any Func.goes=false:=by as_aux_lemma=>kernel_rfl
def L4:Prop:=∀(x0:Proof),QQ 1048576 x0->PC prog 3 [.agg (eQ x0)] (.v (.bool true))
theorem own:ownKnob prog.godebug=none:=by kernel_rfl
theorem laid:laidOutB prog=true:=by kernel_rfl
theorem Nq:prog.readableRec 28=true/\28<prog.types.size:=⟨by kernel_rfl,by decide +kernel⟩
theorem Pd(hh:L4)(H:Type)(enc:TypeId×Value->H)(W:World)(base:Nat)(args:Array Value)(ds gs:List (DataW H))(before:List MemPlace)
  (J:∀(j:Nat) t v,f3.params[j]?=some t->args[j]?=some v->Value.okWide prog W .any base t v)
  (M:DataW.Whole enc prog f3.params.toList Rows.treeSizesSpec.vars false W args.toList ds gs before) (L:Rows.uptoSmall H (ds++gs)=true) (u:EC W):
  Calls prog 3 args W fun e W'=>∃v,e=.returned v/\Rows.treeSizesSpec.post enc prog f3 false true false false W args v W':=by
 have F:=M;obtain⟨p,q,E,hV,rfl,ab,aa⟩:=M;have hA:DataW.TrodAll enc prog W 0 (fun _=>true) true [28] args.toList ds p:=E;obtain⟨O,d0,rfl,rfl,h0⟩:=trodAll_one hA;obtain⟨rfl,rfl⟩:=trodVars_none hV;clear E;simp only[List.append_nil]at F L;have hb:Rows.uptoBulkAll [d0]<=1048576:=of_decide_eq_true L;simp only[Rows.uptoBulkAll]at hb;obtain⟨x0,r0,Z⟩:=J6 Tryz.underlying28 Qe (J 0 28 O rfl rfl) h0;refine(If (vals:=[O]) (hh x0 (Z _ (by simp only[BK];omega))) u (by simp only[aR];exact⟨_,_,rfl,r0,rfl⟩)).mono fun e W' ⟨he,hg⟩=>?_
 subst he;exact⟨_,rfl,Nn laid (by
  intro t u;have u:t∈[28]:=u;simp only[List.mem_cons,List.not_mem_nil,or_false]at u;rcases u with rfl
  ·exact Nq
  ) rfl Tryz.underlying4 rfl (gs:=[]) (by simpa using F) rfl rfl rfl hg⟩
def DM:DataW Unit->ByteArray
 | .iface _ (.ptr (.agg [.lit (.string b)]))=>⟨b.toArray⟩
 | _=>⟨#[]⟩
def cellsOf:DataW Unit->Array Value
 | .agg l=>(l.map fun d=>match d with| .lit (.int k n)=>Value.int k n|_=>undef).toArray
 | _=>#[]
noncomputable def xM(os:Os):World:=
 let N:=(World.settled prog os).heap.size
 let w0:=World.holding prog os ⟨#[.cells #[.string (DM Rows.laid_strconv_ErrRange)] 391,.cells #[.string (DM Rows.laid_strconv_ErrSyntax)] 391],#[],[]⟩
 let put (h:Array Obj) (g:Nat) (cs:Array Value):Array Obj:=h.modify g fun
   | .cells _ t frozen=>.cells cs t frozen
   | o=>o
 let h1:=put w0.heap 0 (cellsOf Rows.laid_math_bits_deBruijn32tab)
 let h2:=put h1 1 (cellsOf Rows.laid_math_bits_deBruijn64tab)
 let h3:=put h2 5 (cellsOf Rows.laid_internal_strconv_uint64pow10)
 let h4:=put h3 3 #[.iface 389 (.pointer (some ⟨N+0,0,none⟩))]
 let h5:=put h4 2 #[.iface 389 (.pointer (some ⟨N+1,0,none⟩))]
 { w0 with heap:=h5 }
theorem O8(os:Os):laidMet prog Rows.treeSizesUptoRow.laid ((xM os).forCall (fun _ _=>0) ⟨#[],#[.agg #[.bool false,.slice none 0 0,.slice none 0 0,.slice none 0 0]],[]⟩).memory:=
 laidMet_of_run' 8 (by kernel_rfl) (by kernel_rfl)
theorem Vw(os:Os){H:Type}(enc:TypeId×Value->H):∃places,DataW.whole enc prog ((xM os).forCall (fun _ _=>0) ⟨#[],#[.agg #[.bool false,.slice none 0 0,.slice none 0 0,.slice none 0 0]],[]⟩).memory f3.params.toList Rows.treeSizesSpec.vars false (#[.agg #[.bool false,.slice none 0 0,.slice none 0 0,.slice none 0 0]]:Array Value).toList 8=some ([.agg [.lit (.bool false),.agg [.nil,.nil],.nil]],[],places):=
 ⟨[],by kernel_rfl⟩
theorem Uq(O:L4)(os:Os)(u:os.Started)(H:Type)(enc:TypeId×Value->H)(F:Stop.Interp):
  ReturnsInHanded {} Tryz.checked os 3 .any ((Rows.OpenSpec.upto Rows.treeSizesSpec).preRow enc prog f3 Rows.treeSizesUptoRow.domain false Rows.treeSizesUptoRow.laid) (((Rows.OpenSpec.upto Rows.treeSizesSpec).at F).post enc prog f3 false true false false):=by
 obtain⟨places,Z⟩:=Vw os enc;refine returnsInHanded_of_row (C:=Tryz.checked) (s:=Rows.OpenSpec.upto Rows.treeSizesSpec) own u (by kernel_rfl) func3
  (witness_row_atRef (enc:=enc) (C:=Tryz.checked) false (xM os) #[.agg #[.bool false,.slice none 0 0,.slice none 0 0,.slice none 0 0]] rfl (by kernel_rfl) (by kernel_rfl) (by kernel_rfl)
   (OpenSpec.preRow_of_cond 8 Z (by kernel_rfl) (fun k L=>by cases L;kernel_rfl) (by kernel_rfl) (O8 os))) ?_
 intro W base args ds gs before J M _ L _ E _ _;exact Pd O H enc W base args ds gs before J M (L _ rfl) (MR E)
theorem Uo{a b:Bool}(h1:a=true)(u:b=true):(a&&b)=true:=by rw[h1,u];rfl
set_option maxHeartbeats 4000000 in
theorem Uk:joinedFacts prog 3 f3 (Rows.OpenSpec.upto Rows.treeSizesSpec).bare Rows.treeSizesUptoRow=true:=by
  unfold joinedFacts
  repeat' (first|with_reducible refine Uo ?_ ?_|(as_aux_lemma=>kernel_rfl))
set_option maxHeartbeats 4000000 in
theorem VI (E:L4):Rows.TreeSizesUptoSaid:=
  OpenClaim.holds_of_cond 3 f3 rfl rfl rfl rfl rfl rfl rfl ⟨rfl,rfl,rfl,rfl,rfl⟩ rfl rfl rfl rfl rfl (by as_aux_lemma=>kernel_rfl) func3 Uk
    (of_decide_eq_true (by as_aux_lemma=>kernel_rfl)) (by unfold Func.isWrapper;first|(rw[if_pos (by decide +kernel)];kernel_rfl)|(rw[if_neg (by decide +kernel)];exact⟨rfl,rfl⟩))
    (fun os u H enc _ F=>by rw[OpenClaim.pre_eq_preRow];exact Uq E os u H enc F)
set_option maxHeartbeats 4000000 in
theorem card (L:L4):Rows.TreeSizesUptoCardSaid:=
  Claim7.holds_tied_plain_at .later [] _ _ _ _ (VI L) (fun _ h=>by cases h) (by as_aux_lemma=>kernel_rfl) (fun _ h=>by cases h) treeSizesUpto_row_tie rfl ⟨rfl,rfl⟩ (by as_aux_lemma=>kernel_rfl) rfl
    (fun f fn J E=>by
      obtain rfl:f=3:=Option.some.inj ((show prog.funcNamed "lorry/lorrylaw37.TreeSizes" = some 3 by as_aux_lemma=>kernel_rfl).symm.trans J) |>.symm
      obtain rfl:fn=f3:=(Option.some.inj (func3.symm.trans E)).symm
      refine⟨by as_aux_lemma=>kernel_rfl,fun j t u=>?_⟩
      have u:(#[28]:Array TypeId)[j]?=some t:=u
      have F:=Array.mem_of_getElem? u
      simp only[Array.mem_def,List.mem_cons,List.not_mem_nil,or_false,or_self]at F
      subst F
      exact(show prog.wantsStandIn 28=false by as_aux_lemma=>kernel_rfl)) (I8 _ rfl VM)
end Go.Proofs.YtmhpdppobocokaaGreatDoor.treeSizes
