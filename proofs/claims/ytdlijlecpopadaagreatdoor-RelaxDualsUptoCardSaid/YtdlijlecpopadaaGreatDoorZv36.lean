/- Texts joined by a program: SaidRD, EndRD. -/
import Derived.Test.YtdlijlecpopadaaGreatDoorCards
import Derived.Test.YtdlijlecpopadaaGreatDoorTie
import Derived.Deep.DeepHandedRow
import Derived.Deep.DeepWitnessRowRef
import Derived.Lib.LaidIn
import Derived.SevenTiedAt
import Derived.Test.YtdlijlecpopadaaGreatDoorZv35
set_option linter.unusedSimpArgs false
set_option linter.unusedVariables false
set_option maxRecDepth 100000
section
namespace Go.Proofs.YtdlijlecpopadaaGreatDoor.relaxDuals
open Go.Aw Go.Aw.D Go.Proofs Go.RowKit Go.ChangeShapes Go.WideShapes Go.ChangeAt
def Nr:Prop:=∀(x0:Instance) (x1:Int) (x2:List ByteArray) (x3:List Int) (x4:Int) (x5:Int),zZ 1048576 x0→jX 1048576 x1→(bL HF) 1048576 x2→(bL jX) 1048576 x3→bU8 1048576 x4→Yv 1048576 x5→PC Tryz.prog 7 [.agg (aQ x0),.v (.int .i64 x1),.sl (x2.map Go.Aw.D.cV),.sl (x3.map aM),.v (.int .u8 x4),.v (.int .u16 x5)] (.v (.bool true))
theorem own:ownKnob Tryz.prog.godebug=none:=by kernel_rfl
theorem laid:laidOutB Tryz.prog=true:=by kernel_rfl
theorem Fq:Tryz.prog.readableRec 30=true∧30<Tryz.prog.types.size:=⟨by kernel_rfl,by decide +kernel⟩
theorem T7:Tryz.prog.readableRec 3=true∧3<Tryz.prog.types.size:=⟨by kernel_rfl,by decide +kernel⟩
theorem QL:Tryz.prog.readableRec 31=true∧31<Tryz.prog.types.size:=⟨by kernel_rfl,by decide +kernel⟩
theorem Qi:Tryz.prog.readableRec 43=true∧43<Tryz.prog.types.size:=⟨by kernel_rfl,by decide +kernel⟩
theorem Uf:Tryz.prog.readableRec 56=true∧56<Tryz.prog.types.size:=⟨by kernel_rfl,by decide +kernel⟩
theorem Xk:Tryz.prog.readableRec 5=true∧5<Tryz.prog.types.size:=⟨by kernel_rfl,by decide +kernel⟩
theorem Qq(hh:Nr)(H:Type)(enc:TypeId×Value→H)(W:World)(base:Nat)(args:Array Value)(ds gs:List (DataW H))(before:List MemPlace)
   (hval:∀(j:Nat) t v,Tryz.f7.params[j]?=some t→args[j]?=some v→Value.okWide Tryz.prog W .any base t v)
   (hW:DataW.Whole enc Tryz.prog Tryz.f7.params.toList Rows.relaxDualsSpec.vars false W args.toList ds gs before) (hk:Rows.uptoSmall H (ds++gs)=true) (ht:F6 W):
   Calls Tryz.prog 7 args W fun e W'=>∃v,e=.returned v∧Rows.relaxDualsSpec.post enc Tryz.prog Tryz.f7 false true false false W args v W':=by
 have hW':=hW;obtain⟨p,q,hA0,hV,rfl,hfz,hnd⟩:=hW;have hA:DataW.TrodAll enc Tryz.prog W 0 (fun _=>true) true [30,3,43,31,5,56] args.toList ds p:=hA0;obtain⟨v0,v1,v2,v3,v4,v5,d0,d1,d2,d3,d4,d5,p0,p1,p2,p3,p4,p5,rfl,rfl,rfl,h0,h1,h2,h3,h4,h5⟩:=Ip hA;obtain⟨rfl,rfl⟩:=trodVars_none hV;clear hA0;simp only[List.append_nil]at hW' hk;have hb:Rows.uptoBulkAll [d0,d1,d2,d3,d4,d5]≤1048576:=of_decide_eq_true hk;simp only[Rows.uptoBulkAll]at hb;obtain⟨x0,r0,b0⟩:=Kk Tryz.underlying30 HE (hval 0 30 v0 rfl rfl) h0;obtain⟨x1,r1,b1⟩:=UW Tryz.underlying3 (hval 1 3 v1 rfl rfl) h1;obtain⟨x2,r2,b2⟩:=E1 Tryz.underlying43 UB (hval 2 43 v2 rfl rfl) h2;obtain⟨x3,r3,b3⟩:=E1 Tryz.underlying31 Fz (hval 3 31 v3 rfl rfl) h3;obtain⟨x4,r4,b4⟩:=WB Tryz.underlying5 (hval 4 5 v4 rfl rfl) h4;obtain⟨x5,r5,b5⟩:=Vu Tryz.underlying56 (hval 5 56 v5 rfl rfl) h5;refine(HO (vals:=[v0,v1,v2,v3,v4,v5]) (hh x0 x1 x2 x3 x4 x5 (b0 _ (by simp only[BK];omega)) (b1 _ (by simp only[BK];omega)) (b2 _ (by simp only[BK];omega)) (b3 _ (by simp only[BK];omega)) (b4 _ (by simp only[BK];omega)) (b5 _ (by simp only[BK];omega))) ht (by simp only[aS];exact⟨_,_,rfl,r0,⟨_,_,rfl,r1,⟨_,_,rfl,r2,⟨_,_,rfl,r3,⟨_,_,rfl,r4,⟨_,_,rfl,r5,rfl⟩⟩⟩⟩⟩⟩)).mono fun e W' ⟨he,hg⟩=>?_
 subst he;exact⟨_,rfl,Pn laid (by
   intro t ht;have ht:t∈[30,3,43,31,5,56]:=ht;simp only[List.mem_cons,List.not_mem_nil,or_false]at ht;rcases ht with rfl|rfl|rfl|rfl|rfl|rfl
   · exact Fq
   · exact T7
   · exact Qi
   · exact QL
   · exact Xk
   · exact Uf
   ) rfl Tryz.underlying4 rfl (gs:=[]) (by simpa using hW') rfl rfl rfl hg⟩
def cellsOf:DataW Unit→Array Value
 | .agg l=>(l.map fun d=>match d with| .lit (.int k n)=>Value.int k n|_=>undef).toArray
 | _=>#[]
noncomputable def Ac(os:Os):World:=
 let w0:=World.holding Tryz.prog os ⟨#[],#[],[]⟩
 let put (h:Array Obj) (g:Nat) (cs:Array Value):Array Obj:=h.modify g fun
   | .cells _ t frozen=>.cells cs t frozen
   | o=>o
 let h1:=put w0.heap 2 (cellsOf Rows.laid_math_bits_deBruijn32tab)
 let h2:=put h1 3 (cellsOf Rows.laid_math_bits_deBruijn64tab)
 let h3:=put h2 1 (cellsOf Rows.laid_internal_strconv_uint64pow10)
 { w0 with heap:=h3 }
theorem RM(os:Os):laidMet Tryz.prog Rows.relaxDualsUptoRow.laid ((Ac os).forCall (fun _ _=>0) ⟨#[],#[.agg #[.slice none 0 0,.slice none 0 0,.slice none 0 0,.slice none 0 0,.slice none 0 0,.slice none 0 0],.int .i64 0,.slice none 0 0,.slice none 0 0,.int .u8 0,.int .u16 0],[]⟩).memory:=
 laidMet_of_run' 8 (by kernel_rfl) (by kernel_rfl)
theorem acM(os:Os){H:Type}(enc:TypeId×Value→H):∃places,DataW.whole enc Tryz.prog ((Ac os).forCall (fun _ _=>0) ⟨#[],#[.agg #[.slice none 0 0,.slice none 0 0,.slice none 0 0,.slice none 0 0,.slice none 0 0,.slice none 0 0],.int .i64 0,.slice none 0 0,.slice none 0 0,.int .u8 0,.int .u16 0],[]⟩).memory Tryz.f7.params.toList Rows.relaxDualsSpec.vars false (#[.agg #[.slice none 0 0,.slice none 0 0,.slice none 0 0,.slice none 0 0,.slice none 0 0,.slice none 0 0],.int .i64 0,.slice none 0 0,.slice none 0 0,.int .u8 0,.int .u16 0]:Array Value).toList 8=some ([.agg [.agg [.nil,.nil],.nil,.nil,.nil,.nil],.lit (.int .i64 0),.nil,.nil,.lit (.int .u8 0),.lit (.int .u16 0)],[],places):=
 ⟨[],by kernel_rfl⟩
theorem WC(hh:Nr)(os:Os)(started:os.Started)(H:Type)(enc:TypeId×Value→H)(F:Stop.Interp):
   ReturnsInHanded {} Tryz.checked os 7 .any ((Rows.OpenSpec.upto Rows.relaxDualsSpec).preRow enc Tryz.prog Tryz.f7 Rows.relaxDualsUptoRow.domain false Rows.relaxDualsUptoRow.laid) (((Rows.OpenSpec.upto Rows.relaxDualsSpec).at F).post enc Tryz.prog Tryz.f7 false true false false):=by
 obtain⟨places,hx⟩:=acM os enc;refine returnsInHanded_of_row (C:=Tryz.checked) (s:=Rows.OpenSpec.upto Rows.relaxDualsSpec) own started (by kernel_rfl) Tryz.func7
   (witness_row_atRef (enc:=enc) (C:=Tryz.checked) false (Ac os) #[.agg #[.slice none 0 0,.slice none 0 0,.slice none 0 0,.slice none 0 0,.slice none 0 0,.slice none 0 0],.int .i64 0,.slice none 0 0,.slice none 0 0,.int .u8 0,.int .u16 0] rfl (by kernel_rfl) (by kernel_rfl) (by kernel_rfl)
     (OpenSpec.preRow_of_cond 8 hx (by kernel_rfl) (fun k hk=>by cases hk;kernel_rfl) (by kernel_rfl) (RM os))) ?_
 intro W base args ds gs before hval hW _ hk _ hlaid _ _;exact Qq hh H enc W base args ds gs before hval hW (hk _ rfl) (Oh hlaid)
theorem XK{a b:Bool}(h1:a=true)(h2:b=true):(a&&b)=true:=by rw[h1,h2];rfl
set_option maxHeartbeats 4000000 in
theorem Wi:joinedFacts Tryz.prog 7 Tryz.f7 (Rows.OpenSpec.upto Rows.relaxDualsSpec).bare Rows.relaxDualsUptoRow=true:=by
  unfold joinedFacts
  repeat' (first|with_reducible refine XK ?_ ?_|(as_aux_lemma=>kernel_rfl))
set_option maxHeartbeats 4000000 in
theorem over (hh:Nr):Rows.RelaxDualsUptoSaid:=
  OpenClaim.holds_of_cond 7 Tryz.f7 rfl rfl rfl rfl rfl rfl rfl ⟨rfl,rfl,rfl,rfl,rfl⟩ rfl rfl rfl rfl rfl (by as_aux_lemma=>kernel_rfl) Tryz.func7 Wi
    (of_decide_eq_true (by as_aux_lemma=>kernel_rfl)) (by unfold Func.isWrapper;first|(rw[if_pos (by decide +kernel)];kernel_rfl)|(rw[if_neg (by decide +kernel)];exact⟨rfl,rfl⟩))
    (fun os started H enc _ F=>by rw[OpenClaim.pre_eq_preRow];exact WC hh os started H enc F)
set_option maxHeartbeats 4000000 in
theorem card (hh:Nr):Rows.RelaxDualsUptoCardSaid:=
  Claim7.holds_tied_plain_at .later [] _ _ _ _ (over hh) (fun _ h=>by cases h) (by as_aux_lemma=>kernel_rfl) (fun _ h=>by cases h) relaxDualsUpto_row_tie rfl ⟨rfl,rfl⟩ (by as_aux_lemma=>kernel_rfl) rfl
    (fun f fn hf hfn=>by
      obtain rfl:f=7:=Option.some.inj ((show Tryz.prog.funcNamed "lorry/lorrylaw32.RelaxDuals" = some 7 by as_aux_lemma=>kernel_rfl).symm.trans hf) |>.symm
      obtain rfl:fn=Tryz.f7:=(Option.some.inj (Tryz.func7.symm.trans hfn)).symm
      refine⟨by as_aux_lemma=>kernel_rfl,fun j t ht=>?_⟩
      have ht:(#[30,3,43,31,5,56]:Array TypeId)[j]?=some t:=ht
      have hm:=Array.mem_of_getElem? ht
      simp only[Array.mem_def,List.mem_cons,List.not_mem_nil,or_false,or_self]at hm
      rcases hm with rfl|rfl|rfl|rfl|rfl|rfl
      · exact(show Tryz.prog.wantsStandIn 30=false by as_aux_lemma=>kernel_rfl)
      · exact(show Tryz.prog.wantsStandIn 3=false by as_aux_lemma=>kernel_rfl)
      · exact(show Tryz.prog.wantsStandIn 43=false by as_aux_lemma=>kernel_rfl)
      · exact(show Tryz.prog.wantsStandIn 31=false by as_aux_lemma=>kernel_rfl)
      · exact(show Tryz.prog.wantsStandIn 5=false by as_aux_lemma=>kernel_rfl)
      · exact(show Tryz.prog.wantsStandIn 56=false by as_aux_lemma=>kernel_rfl)) (by as_aux_lemma=>kernel_rfl)
end Go.Proofs.YtdlijlecpopadaaGreatDoor.relaxDuals
end
section
namespace Go.Proofs.YtdlijlecpopadaaGreatDoor
open Go.Aw Go.Aw.D
theorem inB_of{x:Instance}(h:zZ 1048576 x):InB x:=by
 obtain⟨⟨hpl,har⟩,hty,hor,hap,hbe⟩:=h;exact⟨hpl.1,hpl.2,har.1,fun a ha=>⟨(har.2 a ha).2.2.2.2.1.1,(har.2 a ha).2.2.2.2.2.1⟩,hty.1,fun t ht=>⟨(hty.2 t ht).1,(hty.2 t ht).2.2.2.2.1.1⟩,hor.1,fun t ht=>⟨(hor.2 t ht).1,(hor.2 t ht).2.1.1⟩,hap.1,hbe.1⟩
theorem relaxDuals_holds:Rows.RelaxDualsUptoCardSaid:=relaxDuals.card fun x n d l a b hx _ hd hl ha hb=>Rx.GE x n d l a b (inB_of hx) hd.1 hd.2 hl.1 ha hb
#print axioms relaxDuals_holds
end Go.Proofs.YtdlijlecpopadaaGreatDoor
end
