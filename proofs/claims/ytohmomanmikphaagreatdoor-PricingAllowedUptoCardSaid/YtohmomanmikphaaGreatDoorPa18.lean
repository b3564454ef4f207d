import Derived.Test.YtohmomanmikphaaGreatDoorCards
import Derived.Test.YtohmomanmikphaaGreatDoorTie
import Derived.Deep.DeepHandedRow
import Derived.Deep.DeepWitnessRowRef
import Derived.Lib.LaidIn
import Derived.SevenTiedAt
import Derived.Test.YtohmomanmikphaaGreatDoorPa17
set_option linter.unusedSimpArgs false
set_option linter.unusedVariables false
set_option maxRecDepth 100000
namespace Go.Proofs.YtohmomanmikphaaGreatDoor.pricingAllowed
open Go.Proofs.Tryz(prog)
open Go.Aw Go.Aw.D Go.Proofs Go.RowKit Go.ChangeShapes Go.WideShapes Go.ChangeAt
def VA:Prop:=∀(x0:Ask3),amB 1048576 x0->PC prog 5 [.agg (jF x0)] (.v (.bool true))
theorem own:ownKnob prog.godebug=none:=by kernel_rfl
theorem laid:laidOutB prog=true:=by kernel_rfl
theorem acU:prog.readableRec 35=true/\35<prog.types.size:=⟨by kernel_rfl,by decide +kernel⟩
theorem abN(hh:VA)(H:Type)(enc:TypeId×Value->H)(W:World)(O:Nat)(args:Array Value)(ds gs:List (DataW H))(before:List MemPlace)
   (J:∀(j:Nat) t v,Tryz.f5.params[j]?=some t->args[j]?=some v->Value.okWide prog W .any O t v)
   (V:DataW.Whole enc prog Tryz.f5.params.toList Rows.pricingAllowedSpec.vars false W args.toList ds gs before) (X:Rows.uptoSmall H (ds++gs)=true) (E:LQ W):
   Calls prog 5 args W fun e W'=>∃v,e=.returned v/\Rows.pricingAllowedSpec.post enc prog Tryz.f5 false true false false W args v W':=by
 have I:=V;obtain⟨p,q,F,hV,rfl,ab,aa⟩:=V;have Z:DataW.TrodAll enc prog W 0 (fun _=>true) true [35] args.toList ds p:=F;obtain⟨U,d0,rfl,rfl,h0⟩:=trodAll_one Z;obtain⟨rfl,rfl⟩:=trodVars_none hV;clear F;simp only[List.append_nil]at I X;have Y:Rows.uptoBulkAll [d0]<=1048576:=of_decide_eq_true X;simp only[Rows.uptoBulkAll]at Y;obtain⟨x0,r0,b0⟩:=Tx Tryz.underlying35 ahF (J 0 35 U rfl rfl) h0;refine(Pu (vals:=[U]) (hh x0 (b0 _ (by simp only[BK];omega))) E (by simp only[bG];exact⟨_,_,rfl,r0,rfl⟩)).mono fun e W' ⟨he,hg⟩=>?_
 subst he;exact⟨_,rfl,VN laid (by
   intro t E;have E:t∈[35]:=E;simp only[List.mem_cons,List.not_mem_nil,or_false]at E;rcases E with rfl
   . exact acU
   ) rfl Tryz.underlying4 rfl (gs:=[]) (by simpa using I) rfl rfl rfl hg⟩
def cellsOf:DataW Unit->Array Value
 | .agg l=>(l.map fun d=>match d with| .lit (.int k n)=>Value.int k n|_=>undef).toArray
 | _=>#[]
noncomputable def DB(os:Os):World:=
 let w0:=World.holding prog os ⟨#[],#[],[]⟩
 let put (h:Array Obj) (g:Nat) (cs:Array Value):Array Obj:=h.modify g fun
   | .cells _ t frozen=>.cells cs t frozen
   | o=>o
 let h1:=put w0.heap 2 (cellsOf Rows.laid_math_bits_deBruijn32tab)
 let h2:=put h1 3 (cellsOf Rows.laid_math_bits_deBruijn64tab)
 let h3:=put h2 1 (cellsOf Rows.laid_internal_strconv_uint64pow10)
 { w0 with heap:=h3 }
theorem abD(os:Os):laidMet prog Rows.pricingAllowedUptoRow.laid ((DB os).forCall (fun _ _=>0) ⟨#[],#[.agg #[.slice none 0 0,.slice none 0 0,.slice none 0 0,.slice none 0 0,.slice none 0 0,.slice none 0 0,.slice none 0 0,.slice none 0 0,.slice none 0 0]],[]⟩).memory:=
 laidMet_of_run' 8 (by kernel_rfl) (by kernel_rfl)
theorem aBi(os:Os){H:Type}(enc:TypeId×Value->H):∃places,DataW.whole enc prog ((DB os).forCall (fun _ _=>0) ⟨#[],#[.agg #[.slice none 0 0,.slice none 0 0,.slice none 0 0,.slice none 0 0,.slice none 0 0,.slice none 0 0,.slice none 0 0,.slice none 0 0,.slice none 0 0]],[]⟩).memory Tryz.f5.params.toList Rows.pricingAllowedSpec.vars false (#[.agg #[.slice none 0 0,.slice none 0 0,.slice none 0 0,.slice none 0 0,.slice none 0 0,.slice none 0 0,.slice none 0 0,.slice none 0 0,.slice none 0 0]]:Array Value).toList 8=some ([.agg [.agg [.agg [.nil,.nil],.nil,.nil,.nil,.nil],.nil,.nil,.nil]],[],places):=
 ⟨[],by kernel_rfl⟩
theorem apM(X:VA)(os:Os)(E:os.Started)(H:Type)(enc:TypeId×Value->H)(F:Stop.Interp):
   ReturnsInHanded {} Tryz.checked os 5 .any ((Rows.OpenSpec.upto Rows.pricingAllowedSpec).preRow enc prog Tryz.f5 Rows.pricingAllowedUptoRow.domain false Rows.pricingAllowedUptoRow.laid) (((Rows.OpenSpec.upto Rows.pricingAllowedSpec).at F).post enc prog Tryz.f5 false true false false):=by
 obtain⟨places,Y⟩:=aBi os enc;refine returnsInHanded_of_row (C:=Tryz.checked) (s:=Rows.OpenSpec.upto Rows.pricingAllowedSpec) own E (by kernel_rfl) Tryz.func5
   (witness_row_atRef (enc:=enc) (C:=Tryz.checked) false (DB os) #[.agg #[.slice none 0 0,.slice none 0 0,.slice none 0 0,.slice none 0 0,.slice none 0 0,.slice none 0 0,.slice none 0 0,.slice none 0 0,.slice none 0 0]] rfl (by kernel_rfl) (by kernel_rfl) (by kernel_rfl)
     (OpenSpec.preRow_of_cond 8 Y (by kernel_rfl) (fun k U=>by cases U;kernel_rfl) (by kernel_rfl) (abD os))) ?_
 intro W O args ds gs before J V _ U _ I _ _;exact abN X H enc W O args ds gs before J V (U _ rfl) (Xj I)
theorem apS{a b:Bool}(h1:a=true)(E:b=true):(a&&b)=true:=by rw[h1,E];rfl
set_option maxHeartbeats 4000000 in
theorem anQ:joinedFacts prog 5 Tryz.f5 (Rows.OpenSpec.upto Rows.pricingAllowedSpec).bare Rows.pricingAllowedUptoRow=true:=by
  unfold joinedFacts
  repeat' (first|with_reducible refine apS ?_ ?_|(as_aux_lemma=>kernel_rfl))
set_option maxHeartbeats 4000000 in
theorem over (I:VA):Rows.PricingAllowedUptoSaid:=
  OpenClaim.holds_of_cond 5 Tryz.f5 rfl rfl rfl rfl rfl rfl rfl ⟨rfl,rfl,rfl,rfl,rfl⟩ rfl rfl rfl rfl rfl (by as_aux_lemma=>kernel_rfl) Tryz.func5 anQ
    (of_decide_eq_true (by as_aux_lemma=>kernel_rfl)) (by unfold Func.isWrapper;first|(rw[if_pos (by decide +kernel)];kernel_rfl)|(rw[if_neg (by decide +kernel)];exact⟨rfl,rfl⟩))
    (fun os E H enc _ F=>by rw[OpenClaim.pre_eq_preRow];exact apM I os E H enc F)
set_option maxHeartbeats 4000000 in
theorem card (O:VA):Rows.PricingAllowedUptoCardSaid:=
  Claim7.holds_tied_plain_at .later [] _ _ _ _ (over O) (fun _ h=>by cases h) (by as_aux_lemma=>kernel_rfl) (fun _ h=>by cases h) pricingAllowedUpto_row_tie rfl ⟨rfl,rfl⟩ (by as_aux_lemma=>kernel_rfl) rfl
    (fun f fn J E=>by
      obtain rfl:f=5:=Option.some.inj ((show prog.funcNamed "lorry/lorrylaw33.PricingAllowed" = some 5 by as_aux_lemma=>kernel_rfl).symm.trans J) |>.symm
      obtain rfl:fn=Tryz.f5:=(Option.some.inj (Tryz.func5.symm.trans E)).symm
      refine⟨by as_aux_lemma=>kernel_rfl,fun j t F=>?_⟩
      have F:(#[35]:Array TypeId)[j]?=some t:=F
      have I:=Array.mem_of_getElem? F
      simp only[Array.mem_def,List.mem_cons,List.not_mem_nil,or_false,or_self]at I
      subst I
      exact(show prog.wantsStandIn 35=false by as_aux_lemma=>kernel_rfl)) (by as_aux_lemma=>kernel_rfl)
end Go.Proofs.YtohmomanmikphaaGreatDoor.pricingAllowed
