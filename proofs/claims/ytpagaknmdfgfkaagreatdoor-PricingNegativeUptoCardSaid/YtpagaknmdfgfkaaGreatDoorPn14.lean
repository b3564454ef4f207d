import Derived.Test.YtpagaknmdfgfkaaGreatDoorCards
import Derived.Test.YtpagaknmdfgfkaaGreatDoorTie
import Derived.Deep.DeepHandedRow
import Derived.Deep.DeepWitnessRowRef
import Derived.Lib.LaidIn
import Derived.SevenTiedAt
import Derived.Test.YtpagaknmdfgfkaaGreatDoorPn13
set_option linter.unusedSimpArgs false
set_option linter.unusedVariables false
set_option linter.defProp false
set_option maxRecDepth 100000
namespace Go.Proofs.YtpagaknmdfgfkaaGreatDoor.pricingNegative
open Go.Proofs.Tryz
open Go.Aw Go.Aw.D Go.Proofs Go.RowKit Go.ChangeShapes Go.WideShapes Go.ChangeAt
def Xk:Prop:=∀(x0:Ask3) (x1:Int),aiF 1048576 x0->lN 1048576 x1->PC prog 4 [.agg (kE x0),.v (.int .i64 x1)] (.v (.bool true))
theorem own:ownKnob prog.godebug=none:=by kernel_rfl
theorem laid:laidOutB prog=true:=by kernel_rfl
theorem afM:prog.readableRec 35=true/\35<prog.types.size:=⟨by kernel_rfl,by decide +kernel⟩
theorem aoC:prog.readableRec 3=true/\3<prog.types.size:=⟨by kernel_rfl,by decide +kernel⟩
theorem alP(hh:Xk)(H:Type)(enc:TypeId×Value->H)(W:World)(I:Nat)(args:Array Value)(ds gs:List (DataW H))(before:List MemPlace)
  (E:∀(j:Nat) t v,f4.params[j]?=some t->args[j]?=some v->Value.okWide prog W .any I t v)
  (Y:DataW.Whole enc prog f4.params.toList Rows.pricingNegativeSpec.vars false W args.toList ds gs before) (T:Rows.uptoSmall H (ds++gs)=true) (F:Od W):
  Calls prog 4 args W fun e W'=>∃v,e=.returned v/\Rows.pricingNegativeSpec.post enc prog f4 false true false false W args v W':=by
 have J:=Y;obtain⟨p,q,O,hV,rfl,aa,ab⟩:=Y;have hA:DataW.TrodAll enc prog W 0 (fun _=>true) true [35,3] args.toList ds p:=O;obtain⟨X,Z,d0,d1,p0,p1,rfl,rfl,rfl,h0,h1⟩:=trodAll_two hA;obtain⟨rfl,rfl⟩:=trodVars_none hV;clear O;simp only[List.append_nil]at J T;have hb:Rows.uptoBulkAll [d0,d1]<=1048576:=of_decide_eq_true T;simp only[Rows.uptoBulkAll]at hb;obtain⟨x0,r0,b0⟩:=WH Tryz.underlying35 amI (E 0 35 X rfl rfl) h0;obtain⟨x1,r1,b1⟩:=apL Tryz.underlying3 (E 1 3 Z rfl rfl) h1;refine(PY (vals:=[X,Z]) (hh x0 x1 (b0 _ (by simp only[BK];omega)) (b1 _ (by simp only[BK];omega))) F (by simp only[bO];exact⟨_,_,rfl,r0,⟨_,_,rfl,r1,rfl⟩⟩)).mono fun e W' ⟨he,hg⟩=>?_
 subst he;exact⟨_,rfl,aaK laid (by
  intro t F;have F:t∈[35,3]:=F;simp only[List.mem_cons,List.not_mem_nil,or_false]at F;rcases F with rfl|rfl
  ·exact afM
  ·exact aoC
  ) rfl Tryz.underlying4 rfl (gs:=[]) (by simpa using J) rfl rfl rfl hg⟩
def cellsOf:DataW Unit->Array Value
 | .agg l=>(l.map fun d=>match d with| .lit (.int k n)=>Value.int k n|_=>undef).toArray
 | _=>#[]
noncomputable def Fa(os:Os):World:=
 let w0:=World.holding prog os ⟨#[],#[],[]⟩
 let put (h:Array Obj) (g:Nat) (cs:Array Value):Array Obj:=h.modify g fun
   | .cells _ t frozen=>.cells cs t frozen
   | o=>o
 let h1:=put w0.heap 2 (cellsOf Rows.laid_math_bits_deBruijn32tab)
 let h2:=put h1 3 (cellsOf Rows.laid_math_bits_deBruijn64tab)
 let h3:=put h2 1 (cellsOf Rows.laid_internal_strconv_uint64pow10)
 { w0 with heap:=h3 }
theorem adV(os:Os):laidMet prog Rows.pricingNegativeUptoRow.laid ((Fa os).forCall (fun _ _=>0) ⟨#[],#[.agg #[.slice none 0 0,.slice none 0 0,.slice none 0 0,.slice none 0 0,.slice none 0 0,.slice none 0 0,.slice none 0 0,.slice none 0 0,.slice none 0 0],.int .i64 0],[]⟩).memory:=
 laidMet_of_run' 8 (by kernel_rfl) (by kernel_rfl)
theorem awV(os:Os){H:Type}(enc:TypeId×Value->H):∃places,DataW.whole enc prog ((Fa os).forCall (fun _ _=>0) ⟨#[],#[.agg #[.slice none 0 0,.slice none 0 0,.slice none 0 0,.slice none 0 0,.slice none 0 0,.slice none 0 0,.slice none 0 0,.slice none 0 0,.slice none 0 0],.int .i64 0],[]⟩).memory f4.params.toList Rows.pricingNegativeSpec.vars false (#[.agg #[.slice none 0 0,.slice none 0 0,.slice none 0 0,.slice none 0 0,.slice none 0 0,.slice none 0 0,.slice none 0 0,.slice none 0 0,.slice none 0 0],.int .i64 0]:Array Value).toList 8=some ([.agg [.agg [.agg [.nil,.nil],.nil,.nil,.nil,.nil],.nil,.nil,.nil],.lit (.int .i64 0)],[],places):=
 ⟨[],by kernel_rfl⟩
theorem asI(Z:Xk)(os:Os)(E:os.Started)(H:Type)(enc:TypeId×Value->H)(F:Stop.Interp):
  ReturnsInHanded {} Tryz.checked os 4 .any ((Rows.OpenSpec.upto Rows.pricingNegativeSpec).preRow enc prog f4 Rows.pricingNegativeUptoRow.domain false Rows.pricingNegativeUptoRow.laid) (((Rows.OpenSpec.upto Rows.pricingNegativeSpec).at F).post enc prog f4 false true false false):=by
 obtain⟨places,Y⟩:=awV os enc;refine returnsInHanded_of_row (C:=Tryz.checked) (s:=Rows.OpenSpec.upto Rows.pricingNegativeSpec) own E (by kernel_rfl) func4
  (witness_row_atRef (enc:=enc) (C:=Tryz.checked) false (Fa os) #[.agg #[.slice none 0 0,.slice none 0 0,.slice none 0 0,.slice none 0 0,.slice none 0 0,.slice none 0 0,.slice none 0 0,.slice none 0 0,.slice none 0 0],.int .i64 0] rfl (by kernel_rfl) (by kernel_rfl) (by kernel_rfl)
   (OpenSpec.preRow_of_cond 8 Y (by kernel_rfl) (fun k T=>by cases T;kernel_rfl) (by kernel_rfl) (adV os))) ?_
 intro W O args ds gs before J X _ T _ I _ _;exact alP Z H enc W O args ds gs before J X (T _ rfl) (aaG I)
theorem avU{a b:Bool}(h1:a=true)(E:b=true):(a&&b)=true:=by rw[h1,E];rfl
set_option maxHeartbeats 4000000 in
theorem atM:joinedFacts prog 4 f4 (Rows.OpenSpec.upto Rows.pricingNegativeSpec).bare Rows.pricingNegativeUptoRow=true:=by
  unfold joinedFacts
  repeat' (first|with_reducible refine avU ?_ ?_|(as_aux_lemma=>kernel_rfl))
set_option maxHeartbeats 4000000 in
theorem over (I:Xk):Rows.PricingNegativeUptoSaid:=
  OpenClaim.holds_of_cond 4 f4 rfl rfl rfl rfl rfl rfl rfl ⟨rfl,rfl,rfl,rfl,rfl⟩ rfl rfl rfl rfl rfl (by as_aux_lemma=>kernel_rfl) func4 atM
    (of_decide_eq_true (by as_aux_lemma=>kernel_rfl)) (by unfold Func.isWrapper;first|(rw[if_pos (by decide +kernel)];kernel_rfl)|(rw[if_neg (by decide +kernel)];exact⟨rfl,rfl⟩))
    (fun os E H enc _ F=>by rw[OpenClaim.pre_eq_preRow];exact asI I os E H enc F)
set_option maxHeartbeats 4000000 in
theorem card (O:Xk):Rows.PricingNegativeUptoCardSaid:=
  Claim7.holds_tied_plain_at .later [] _ _ _ _ (over O) (fun _ h=>by cases h) (by as_aux_lemma=>kernel_rfl) (fun _ h=>by cases h) pricingNegativeUpto_row_tie rfl ⟨rfl,rfl⟩ (by as_aux_lemma=>kernel_rfl) rfl
    (fun f fn J F=>by
      obtain rfl:f=4:=Option.some.inj ((show prog.funcNamed "lorry/lorrylaw33.PricingNegative" = some 4 by as_aux_lemma=>kernel_rfl).symm.trans J) |>.symm
      obtain rfl:fn=f4:=(Option.some.inj (func4.symm.trans F)).symm
      refine⟨by as_aux_lemma=>kernel_rfl,fun j t E=>?_⟩
      have E:(#[35,3]:Array TypeId)[j]?=some t:=E
      have I:=Array.mem_of_getElem? E
      simp only[Array.mem_def,List.mem_cons,List.not_mem_nil,or_false,or_self]at I
      rcases I with rfl|rfl
      . exact(show prog.wantsStandIn 35=false by as_aux_lemma=>kernel_rfl)
      . exact(show prog.wantsStandIn 3=false by as_aux_lemma=>kernel_rfl)) (by as_aux_lemma=>kernel_rfl)
end Go.Proofs.YtpagaknmdfgfkaaGreatDoor.pricingNegative
