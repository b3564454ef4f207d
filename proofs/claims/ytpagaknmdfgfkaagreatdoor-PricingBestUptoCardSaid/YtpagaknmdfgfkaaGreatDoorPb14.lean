import Derived.Test.YtpagaknmdfgfkaaGreatDoorCards
import Derived.Test.YtpagaknmdfgfkaaGreatDoorTie
import Derived.Deep.DeepHandedRow
import Derived.Deep.DeepWitnessRowRef
import Derived.Lib.LaidIn
import Derived.SevenTiedAt
import Derived.Test.YtpagaknmdfgfkaaGreatDoorPb13
set_option linter.unusedSimpArgs false
set_option linter.unusedVariables false
set_option linter.defProp false
set_option maxRecDepth 100000
namespace Go.Proofs.YtpagaknmdfgfkaaGreatDoor.pricingBest
open Go.Proofs.Tryz
open Go.Aw Go.Aw.D Go.Proofs Go.RowKit Go.ChangeShapes Go.WideShapes Go.ChangeAt
def WG:Prop:=∀(x0:Ask3),akO 1048576 x0->PC prog 3 [.agg (kJ x0)] (.v (.bool true))
theorem own:ownKnob prog.godebug=none:=by kernel_rfl
theorem laid:laidOutB prog=true:=by kernel_rfl
theorem acM:prog.readableRec 35=true/\35<prog.types.size:=⟨by kernel_rfl,by decide +kernel⟩
theorem adC(hh:WG)(H:Type)(enc:TypeId×Value->H)(W:World)(J:Nat)(args:Array Value)(ds gs:List (DataW H))(before:List MemPlace)
  (O:∀(j:Nat) t v,f3.params[j]?=some t->args[j]?=some v->Value.okWide prog W .any J t v)
  (X:DataW.Whole enc prog f3.params.toList Rows.pricingBestSpec.vars false W args.toList ds gs before) (U:Rows.uptoSmall H (ds++gs)=true) (E:Ow W):
  Calls prog 3 args W fun e W'=>∃v,e=.returned v/\Rows.pricingBestSpec.post enc prog f3 false true false false W args v W':=by
 have F:=X;obtain⟨p,q,I,hV,rfl,aa,Z⟩:=X;have hA:DataW.TrodAll enc prog W 0 (fun _=>true) true [35] args.toList ds p:=I;obtain⟨V,d0,rfl,rfl,h0⟩:=trodAll_one hA;obtain⟨rfl,rfl⟩:=trodVars_none hV;clear I;simp only[List.append_nil]at F U;have hb:Rows.uptoBulkAll [d0]<=1048576:=of_decide_eq_true U;simp only[Rows.uptoBulkAll]at hb;obtain⟨x0,r0,Y⟩:=U8 Tryz.underlying35 apN (O 0 35 V rfl rfl) h0;refine(Ti (vals:=[V]) (hh x0 (Y _ (by simp only[BK];omega))) E (by simp only[bN];exact⟨_,_,rfl,r0,rfl⟩)).mono fun e W' ⟨he,hg⟩=>?_
 subst he;exact⟨_,rfl,Zq laid (by
  intro t E;have E:t∈[35]:=E;simp only[List.mem_cons,List.not_mem_nil,or_false]at E;rcases E with rfl
  ·exact acM
  ) rfl Tryz.underlying4 rfl (gs:=[]) (by simpa using F) rfl rfl rfl hg⟩
def cellsOf:DataW Unit->Array Value
 | .agg l=>(l.map fun d=>match d with| .lit (.int k n)=>Value.int k n|_=>undef).toArray
 | _=>#[]
noncomputable def FG(os:Os):World:=
 let w0:=World.holding prog os ⟨#[],#[],[]⟩
 let put (h:Array Obj) (g:Nat) (cs:Array Value):Array Obj:=h.modify g fun
   | .cells _ t frozen=>.cells cs t frozen
   | o=>o
 let h1:=put w0.heap 2 (cellsOf Rows.laid_math_bits_deBruijn32tab)
 let h2:=put h1 3 (cellsOf Rows.laid_math_bits_deBruijn64tab)
 let h3:=put h2 1 (cellsOf Rows.laid_internal_strconv_uint64pow10)
 { w0 with heap:=h3 }
theorem aeR(os:Os):laidMet prog Rows.pricingBestUptoRow.laid ((FG os).forCall (fun _ _=>0) ⟨#[],#[.agg #[.slice none 0 0,.slice none 0 0,.slice none 0 0,.slice none 0 0,.slice none 0 0,.slice none 0 0,.slice none 0 0,.slice none 0 0,.slice none 0 0]],[]⟩).memory:=
 laidMet_of_run' 8 (by kernel_rfl) (by kernel_rfl)
theorem avP(os:Os){H:Type}(enc:TypeId×Value->H):∃places,DataW.whole enc prog ((FG os).forCall (fun _ _=>0) ⟨#[],#[.agg #[.slice none 0 0,.slice none 0 0,.slice none 0 0,.slice none 0 0,.slice none 0 0,.slice none 0 0,.slice none 0 0,.slice none 0 0,.slice none 0 0]],[]⟩).memory f3.params.toList Rows.pricingBestSpec.vars false (#[.agg #[.slice none 0 0,.slice none 0 0,.slice none 0 0,.slice none 0 0,.slice none 0 0,.slice none 0 0,.slice none 0 0,.slice none 0 0,.slice none 0 0]]:Array Value).toList 8=some ([.agg [.agg [.agg [.nil,.nil],.nil,.nil,.nil,.nil],.nil,.nil,.nil]],[],places):=
 ⟨[],by kernel_rfl⟩
theorem asQ(X:WG)(os:Os)(E:os.Started)(H:Type)(enc:TypeId×Value->H)(F:Stop.Interp):
  ReturnsInHanded {} Tryz.checked os 3 .any ((Rows.OpenSpec.upto Rows.pricingBestSpec).preRow enc prog f3 Rows.pricingBestUptoRow.domain false Rows.pricingBestUptoRow.laid) (((Rows.OpenSpec.upto Rows.pricingBestSpec).at F).post enc prog f3 false true false false):=by
 obtain⟨places,V⟩:=avP os enc;refine returnsInHanded_of_row (C:=Tryz.checked) (s:=Rows.OpenSpec.upto Rows.pricingBestSpec) own E (by kernel_rfl) func3
  (witness_row_atRef (enc:=enc) (C:=Tryz.checked) false (FG os) #[.agg #[.slice none 0 0,.slice none 0 0,.slice none 0 0,.slice none 0 0,.slice none 0 0,.slice none 0 0,.slice none 0 0,.slice none 0 0,.slice none 0 0]] rfl (by kernel_rfl) (by kernel_rfl) (by kernel_rfl)
   (OpenSpec.preRow_of_cond 8 V (by kernel_rfl) (fun k U=>by cases U;kernel_rfl) (by kernel_rfl) (aeR os))) ?_
 intro W J args ds gs before O Y _ U _ I _ _;exact adC X H enc W J args ds gs before O Y (U _ rfl) (ZY I)
theorem asP{a b:Bool}(h1:a=true)(E:b=true):(a&&b)=true:=by rw[h1,E];rfl
set_option maxHeartbeats 4000000 in
theorem atB:joinedFacts prog 3 f3 (Rows.OpenSpec.upto Rows.pricingBestSpec).bare Rows.pricingBestUptoRow=true:=by
  unfold joinedFacts
  repeat' (first|with_reducible refine asP ?_ ?_|(as_aux_lemma=>kernel_rfl))
set_option maxHeartbeats 4000000 in
theorem over (I:WG):Rows.PricingBestUptoSaid:=
  OpenClaim.holds_of_cond 3 f3 rfl rfl rfl rfl rfl rfl rfl ⟨rfl,rfl,rfl,rfl,rfl⟩ rfl rfl rfl rfl rfl (by as_aux_lemma=>kernel_rfl) func3 atB
    (of_decide_eq_true (by as_aux_lemma=>kernel_rfl)) (by unfold Func.isWrapper;first|(rw[if_pos (by decide +kernel)];kernel_rfl)|(rw[if_neg (by decide +kernel)];exact⟨rfl,rfl⟩))
    (fun os E H enc _ F=>by rw[OpenClaim.pre_eq_preRow];exact asQ I os E H enc F)
set_option maxHeartbeats 4000000 in
theorem card (J:WG):Rows.PricingBestUptoCardSaid:=
  Claim7.holds_tied_plain_at .later [] _ _ _ _ (over J) (fun _ h=>by cases h) (by as_aux_lemma=>kernel_rfl) (fun _ h=>by cases h) pricingBestUpto_row_tie rfl ⟨rfl,rfl⟩ (by as_aux_lemma=>kernel_rfl) rfl
    (fun f fn O F=>by
      obtain rfl:f=3:=Option.some.inj ((show prog.funcNamed "lorry/lorrylaw33.PricingBest" = some 3 by as_aux_lemma=>kernel_rfl).symm.trans O) |>.symm
      obtain rfl:fn=f3:=(Option.some.inj (func3.symm.trans F)).symm
      refine⟨by as_aux_lemma=>kernel_rfl,fun j t E=>?_⟩
      have E:(#[35]:Array TypeId)[j]?=some t:=E
      have I:=Array.mem_of_getElem? E
      simp only[Array.mem_def,List.mem_cons,List.not_mem_nil,or_false,or_self]at I
      subst I
      exact(show prog.wantsStandIn 35=false by as_aux_lemma=>kernel_rfl)) (by as_aux_lemma=>kernel_rfl)
end Go.Proofs.YtpagaknmdfgfkaaGreatDoor.pricingBest
