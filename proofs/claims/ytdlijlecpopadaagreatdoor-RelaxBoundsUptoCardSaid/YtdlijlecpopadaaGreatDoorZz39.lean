/- Texts joined by a program: RyD, RyI, CuR, SaidRB, EndRB. -/
import Derived.Lib.LaidIn
import Derived.MakeChecks
import Derived.Stop.LaidErr
import Derived.Test.YtdlijlecpopadaaGreatDoorCards
import Derived.Test.YtdlijlecpopadaaGreatDoorTie
import Derived.Deep.DeepHandedRow
import Derived.Deep.DeepWitnessRowRef
import Derived.SevenTiedAt
import Derived.Test.YtdlijlecpopadaaGreatDoorZz23
import Derived.Test.YtdlijlecpopadaaGreatDoorZz37
import Derived.Test.YtdlijlecpopadaaGreatDoorZz38

section
set_option linter.unusedSimpArgs false
set_option linter.unusedVariables false
namespace Go.Proofs.YtdlijlecpopadaaGreatDoor.Rx
open Go.Aw Go.Aw.D Go.Proofs Ty Go.Nu Go.So
open Sq (W jX eK kE NetOk)
open Nu (ltB geB pO)
open Mv (gC fF kJ NC.pc bQ)
set_option maxRecDepth 100000
def zM(x:Instance):Bool:=decide (x.orders.length≤3)&&(mG x).isEmpty
theorem VD{x:Instance}(h:zM x=true):mG x=[]∧x.orders.length≤3:=by
 unfold zM at h;simp only[Bool.and_eq_true,decide_eq_true_eq,List.isEmpty_iff]at h;exact⟨h.2,h.1⟩
theorem LV(x:Instance)(h:InB x):PC Tryz.prog 17 [.agg (aS x)] (boo (zM x)):=by
 have hck:=NC.pc (XL x h);have hr:zM x=(decide ((x.orders.length:Int)≤3)&&((mG x).length:Int) == 0):=by
   unfold zM
   congr 1
   · rw[Bool.eq_iff_iff];simp;omega
   · cases mG x <;> rfl
 refine PC.body (c:=Tryz.f17.body.getD .skip) (fun _=>false) mixed Tryz.func17 rfl (by kernel_rfl) ?_;unfold Tryz.f17;simp only[Option.getD_some];simp only[go_sem];refine⟨_,fun _=>hck.qn,?_⟩;simp only[go_sem,List.length_map];rw[hr];refine fF ?_;generalize decide ((x.orders.length:Int)≤3)=b;cases b <;> rfl
end Go.Proofs.YtdlijlecpopadaaGreatDoor.Rx
end

section
set_option linter.unusedSimpArgs false
set_option linter.unusedVariables false
namespace Go.Proofs.YtdlijlecpopadaaGreatDoor.Rx
open Go.Aw Go.Aw.D Go.Proofs Ty Go.Nu Go.So
open Sq (W jX eK kE NetOk)
open Nu (ltB geB pO)
open Mv (gC fF kJ NC.pc bQ)
set_option maxRecDepth 100000
def sL(l:List ByteArray):Bool:=decide (l.length≤10)&&l.all fun s=>decide (s.size≤40)
theorem LP{l:List ByteArray}(h:sL l=true):l.length≤10∧∀s∈l,s.size≤40:=by
 unfold sL at h;simp only[Bool.and_eq_true,decide_eq_true_eq,List.all_eq_true]at h;exact h
theorem Ki(l:List ByteArray)(hl:l.length≤1048576):PC Tryz.prog 18 [.sl (l.map Go.Aw.D.eH)] (boo (sL l)):=by
 refine PC.body (c:=Tryz.f18.body.getD .skip) (fun _=>false) mixed Tryz.func18 rfl (by kernel_rfl) ?_;unfold Tryz.f18;simp only[Option.getD_some];simp only[go_sem];refine aB (fun hb=>?_) (fun hb=>?_)
 · have : sL l = false := by
     unfold sL;simp at hb;rw[decide_eq_false (by omega)];rfl
   rw[this];simp only[go_sem];exact .refl _
 have h10:l.length≤10:=by simp at hb;omega
 simp only[go_sem];refine⟨fun ρ H=>∃(k:Nat),k≤l.length∧ρ 8=.sl (l.map Go.Aw.D.eH)∧ρ 9=int (l.length:Nat)∧ρ 10=int k∧(∀a,a∈l.take k→a.size≤40),fun ρ _=>l.length-bE (ρ 10),⟨0,Nat.zero_le _,by simp only[go_sem],by simp only[go_sem,List.length_map],(by simp only[go_sem];rfl),by intro a ha;simp at ha⟩,?_⟩;rintro ρ H ⟨k,hk,e8,e9,e10,hz⟩;simp only[go_sem,e8,e9,e10];refine aB (fun hlt=>?_) (fun hge=>?_)
 · have hlt:=ltB (by simpa using hlt)
   obtain⟨a,ha⟩:=aU hlt;have b1:=inB hlt;simp only[go_sem,e8,e9,e10,aH ha,b1];refine aB (fun hb=>?_) (fun hb=>?_)
   · have : sL l = false := by
       rw[Bool.eq_false_iff];intro h;have:=(LP h).2 a (List.mem_of_getElem? ha);simp at hb;omega
     rw[this];simp only[go_sem];exact .refl _
   · simp only[go_sem,e8,e9,e10,bA (show k≤4611686018427387904 by omega)]
     refine⟨⟨k+1,hlt,rfl,fun b hbm=>?_⟩,by simp only[aJ];omega⟩;rw[cL ha,List.mem_append]at hbm;rcases hbm with hbm|hbm
     · exact hz b hbm
     · simp at hbm;subst hbm;simp at hb;omega
 have hge:=geB hk (by simpa using hge);subst hge;rw[List.take_length]at hz;have:sL l=true:=by
   unfold sL;simp only[Bool.and_eq_true,decide_eq_true_eq,List.all_eq_true];exact⟨h10,hz⟩
 rw[this];simp only[go_sem];exact .refl _
theorem ER(x : Instance)(kind : Int)(dual : List ByteArray)(near : List Int)(h : InB x)(hdl : dual.length ≤ 1048576)(hds : ∀ a ∈ dual, a.size ≤ 1048576)(hnl : near.length ≤ 1048576):
   PC Tryz.prog 4 [.agg (aS x),int kind,.sl (dual.map Go.Aw.D.eH),.sl (near.map aO)] (boo true):=by
 have hr:=LV x h;have hs:=Ki dual hdl;refine PC.body (c:=Tryz.f4.body.getD .skip) (fun _=>false) mixed Tryz.func4 rfl (by kernel_rfl) ?_;unfold Tryz.f4;simp only[Option.getD_some];simp only[go_sem];refine PC.use hr ?_;simp only[go_sem];refine⟨_,fun _=>hs.q rfl,?_⟩;simp only[go_sem];by_cases hb:(zM x&&sL dual)=true
 case neg=>
   refine aB (fun _=>?_) (fun hb2=>?_)
   · simp only[go_sem]
     refine PC.use Ej ?_;simp only[go_sem];exact .refl _
   · exfalso
     cases h1:zM x <;> cases h2:sL dual <;> simp_all
 have hb0:=hb;rw[Bool.and_eq_true]at hb;rw[hb.1,hb.2];refine aB (fun hb=>by simp at hb) (fun _=>?_);obtain⟨hc,hn⟩:=VD hb.1;obtain⟨h10,h40⟩:=LP hb.2;have hacc:=Uy hc;have hA:=I9 x (ZT hacc (by omega)) hn kind dual near hnl hdl hds;have hB:=Q8 x (ZZ hacc (by omega)) kind dual near hnl hdl hds;rw[Mh hc hn kind dual near (fun a ha=>by have:=h40 a ha;omega)]at hA;generalize pH x kind dual near=N at hA hB;simp only[go_sem];refine PC.use hA ?_;simp only[go_sem];refine PC.use hB ?_;simp only[go_sem];refine⟨_,fun _=>Ej.q rfl,?_⟩;simp only[go_sem];refine fF ?_;simp
end Go.Proofs.YtdlijlecpopadaaGreatDoor.Rx
end

section
set_option linter.unusedSimpArgs false
set_option linter.unusedVariables false
namespace Go.Aw.D
open Go.Aw Go.RowKit Go.Proofs Go.Proofs.YtdlijlecpopadaaGreatDoor Go.WideShapes Go.ChangeShapes
set_option maxRecDepth 100000
section
variable{H:Type}{e:TypeId×Value→H}{w:World}
theorem Xn:Rd e (BK H) Tryz.prog w 43 (fun l:List ByteArray=>[.sl (l.map eH)]) (bL Kg):=pG (sz:=1) Tryz.underlying43 (by kernel_rfl) (by omega) (fun _=>rfl) (Iu Tryz.underlying46)
end
theorem Xs{H : Type}{e : TypeId × Value → H}{P : Program}{W : World}{t : TypeId}{r : Reach}{b0 : Nat}{v : Value}{d : DataW H}{ps : List MemPlace}(ht : P.underlying t = some (.int .i64))
   (hval:Value.okWide P W r b0 t v) (hd:DataW.Trod e P W 0 (fun _=>true) true t v d ps):∃x:Int,rep (Sw W) W (.v (.int .i64 x)) v∧∀n,BK H d≤n→lE n x:=by
 obtain⟨x,rfl⟩:=okWide_int ht hval;obtain⟨fuel,h⟩:=hd;obtain⟨n,h1,_,hw⟩:=DataW.trod_int ht h;have h2:(Value.int .i64 x)=.int .i64 n:=by
   have:(Value.cells (.int .i64 x))=#[.int .i64 x]:=rfl;rw[this]at h1;simpa using h1
 cases h2;exact⟨x,by simp only[rep],fun _ _=>bounds_i64 hw⟩
def HZ:List (String×DataW Unit):=[("math/bits.deBruijn32tab",Go.Proofs.YtdlijlecpopadaaGreatDoor.Rows.laid_math_bits_deBruijn32tab),("math/bits.deBruijn64tab",Go.Proofs.YtdlijlecpopadaaGreatDoor.Rows.laid_math_bits_deBruijn64tab),("internal/strconv.uint64pow10",Go.Proofs.YtdlijlecpopadaaGreatDoor.Rows.laid_internal_strconv_uint64pow10)]
theorem UI:(Go.Proofs.YtdlijlecpopadaaGreatDoor.Rows.laid_math_bits_deBruijn64tab:DataW Unit)=Lib.tabData .u8 (Lib.deBruijn64tab.map fun z:Nat=>(z:Int)):=by kernel_rfl
theorem UV:(Go.Proofs.YtdlijlecpopadaaGreatDoor.Rows.laid_internal_strconv_uint64pow10:DataW Unit)=Lib.tabData .u64 Lib.pow10Tab:=by kernel_rfl
theorem Qw{W:World}(h:laidMetH Tryz.prog HZ W):Ip W:=by
 have h0:laidMet Tryz.prog HZ W:=(Go.MakeChecks.laidMetH_plain Tryz.prog HZ W (by kernel_rfl))▸h;have h1:=laidMet.tail h0;have h2:=laidMet.tail h1;rw[UI]at h1;rw[UV]at h2;have b:=Lib.tabIs_of_head (g:=3) (by kernel_rfl) (by kernel_rfl) (t:=368) (e:=5) (n:=64) Tryz.underlying368 Tryz.underlying5 (by kernel_rfl) (by kernel_rfl) h1;have p:=Lib.tabIs_of_head (g:=1) (by kernel_rfl) (by kernel_rfl) (t:=341) (e:=299) (n:=20) Tryz.underlying341 Tryz.underlying299 (by kernel_rfl) (by kernel_rfl) h2;unfold Lib.TabIs World.var? at b p;rw[show Tryz.prog.globalNamed "math/bits.deBruijn64tab" = some 3 by kernel_rfl]at b;rw[show Tryz.prog.globalNamed "internal/strconv.uint64pow10" = some 1 by kernel_rfl]at p;intro t ht;simp only[QL,List.mem_cons,List.not_mem_nil,or_false]at ht;rcases ht with rfl|rfl
 · exact p
 · have:MD=((Lib.deBruijn64tab.map fun z:Nat=>(z:Int)).map fun z=>Value.int .u8 z).toArray:=by simp[MD]
   rw[this];exact b
end Go.Aw.D
end

section
set_option linter.unusedSimpArgs false
set_option linter.unusedVariables false
namespace Go.Proofs.YtdlijlecpopadaaGreatDoor.relaxBounds
open Go.Aw Go.Aw.D Go.Proofs Go.RowKit Go.ChangeShapes Go.WideShapes Go.ChangeAt
set_option maxRecDepth 100000
def PF:Prop:=∀(x0:Instance) (x1:Int) (x2:List ByteArray) (x3:List Int),Bt 1048576 x0→lE 1048576 x1→(bL Kg) 1048576 x2→(bL lE) 1048576 x3→PC Tryz.prog 4 [.agg (aS x0),.v (.int .i64 x1),.sl (x2.map Go.Aw.D.eH),.sl (x3.map aO)] (.v (.bool true))
theorem own:ownKnob Tryz.prog.godebug=none:=by kernel_rfl
theorem laid:laidOutB Tryz.prog=true:=by kernel_rfl
theorem IE:Tryz.prog.readableRec 30=true∧30<Tryz.prog.types.size:=⟨by kernel_rfl,by decide +kernel⟩
theorem Yq:Tryz.prog.readableRec 3=true∧3<Tryz.prog.types.size:=⟨by kernel_rfl,by decide +kernel⟩
theorem Vw:Tryz.prog.readableRec 31=true∧31<Tryz.prog.types.size:=⟨by kernel_rfl,by decide +kernel⟩
theorem UF:Tryz.prog.readableRec 43=true∧43<Tryz.prog.types.size:=⟨by kernel_rfl,by decide +kernel⟩
theorem TI(hh : PF)(H : Type)(enc : TypeId × Value → H)(W : World)(base : Nat)(args : Array Value)(ds gs : List (DataW H))(before : List MemPlace)
   (hval:∀(j:Nat) t v,Tryz.f4.params[j]?=some t→args[j]?=some v→Value.okWide Tryz.prog W .any base t v)
   (hW:DataW.Whole enc Tryz.prog Tryz.f4.params.toList Rows.relaxBoundsSpec.vars false W args.toList ds gs before) (hk:Rows.uptoSmall H (ds++gs)=true) (ht:Ip W):
   Calls Tryz.prog 4 args W fun e W'=>∃v,e=.returned v∧Rows.relaxBoundsSpec.post enc Tryz.prog Tryz.f4 false true false false W args v W':=by
 have hW':=hW;obtain⟨p,q,hA0,hV,rfl,hfz,hnd⟩:=hW;have hA:DataW.TrodAll enc Tryz.prog W 0 (fun _=>true) true [30,3,43,31] args.toList ds p:=hA0;obtain⟨v0,v1,v2,v3,d0,d1,d2,d3,p0,p1,p2,p3,rfl,rfl,rfl,h0,h1,h2,h3⟩:=trodAll_four hA;obtain⟨rfl,rfl⟩:=trodVars_none hV;clear hA0;simp only[List.append_nil]at hW' hk;have hb:Rows.uptoBulkAll [d0,d1,d2,d3]≤1048576:=of_decide_eq_true hk;simp only[Rows.uptoBulkAll]at hb;obtain⟨x0,r0,b0⟩:=NL Tryz.underlying30 Ji (hval 0 30 v0 rfl rfl) h0;obtain⟨x1,r1,b1⟩:=Xs Tryz.underlying3 (hval 1 3 v1 rfl rfl) h1;obtain⟨x2,r2,b2⟩:=GJ Tryz.underlying43 Xn (hval 2 43 v2 rfl rfl) h2;obtain⟨x3,r3,b3⟩:=GJ Tryz.underlying31 Ig (hval 3 31 v3 rfl rfl) h3;refine(L2 (vals:=[v0,v1,v2,v3]) (hh x0 x1 x2 x3 (b0 _ (by simp only[BK];omega)) (b1 _ (by simp only[BK];omega)) (b2 _ (by simp only[BK];omega)) (b3 _ (by simp only[BK];omega))) ht (by simp only[aZ];exact⟨_,_,rfl,r0,⟨_,_,rfl,r1,⟨_,_,rfl,r2,⟨_,_,rfl,r3,rfl⟩⟩⟩⟩)).mono fun e W' ⟨he,hg⟩=>?_
 subst he;exact⟨_,rfl,P3 laid (by
   intro t ht;have ht:t∈[30,3,43,31]:=ht;simp only[List.mem_cons,List.not_mem_nil,or_false]at ht;rcases ht with rfl|rfl|rfl|rfl
   · exact IE
   · exact Yq
   · exact UF
   · exact Vw
   ) rfl Tryz.underlying4 rfl (gs:=[]) (by simpa using hW') rfl rfl rfl hg⟩
def cellsOf:DataW Unit→Array Value
 | .agg l=>(l.map fun d=>match d with| .lit (.int k n)=>Value.int k n|_=>undef).toArray
 | _=>#[]
noncomputable def Bm(os:Os):World:=
 let w0:=World.holding Tryz.prog os ⟨#[],#[],[]⟩
 let put (h:Array Obj) (g:Nat) (cs:Array Value):Array Obj:=h.modify g fun
   | .cells _ t frozen=>.cells cs t frozen
   | o=>o
 let h1:=put w0.heap 2 (cellsOf Rows.laid_math_bits_deBruijn32tab)
 let h2:=put h1 3 (cellsOf Rows.laid_math_bits_deBruijn64tab)
 let h3:=put h2 1 (cellsOf Rows.laid_internal_strconv_uint64pow10)
 { w0 with heap:=h3 }
theorem RU(os:Os):laidMet Tryz.prog Rows.relaxBoundsUptoRow.laid ((Bm os).forCall (fun _ _=>0) ⟨#[],#[.agg #[.slice none 0 0,.slice none 0 0,.slice none 0 0,.slice none 0 0,.slice none 0 0,.slice none 0 0],.int .i64 0,.slice none 0 0,.slice none 0 0],[]⟩).memory:=
 laidMet_of_run' 8 (by kernel_rfl) (by kernel_rfl)
theorem abQ(os:Os){H:Type}(enc:TypeId×Value→H):∃places,DataW.whole enc Tryz.prog ((Bm os).forCall (fun _ _=>0) ⟨#[],#[.agg #[.slice none 0 0,.slice none 0 0,.slice none 0 0,.slice none 0 0,.slice none 0 0,.slice none 0 0],.int .i64 0,.slice none 0 0,.slice none 0 0],[]⟩).memory Tryz.f4.params.toList Rows.relaxBoundsSpec.vars false (#[.agg #[.slice none 0 0,.slice none 0 0,.slice none 0 0,.slice none 0 0,.slice none 0 0,.slice none 0 0],.int .i64 0,.slice none 0 0,.slice none 0 0]:Array Value).toList 8=some ([.agg [.agg [.nil,.nil],.nil,.nil,.nil,.nil],.lit (.int .i64 0),.nil,.nil],[],places):=
 ⟨[],by kernel_rfl⟩
theorem abM(hh : PF)(os : Os)(started : os.Started)(H : Type)(enc : TypeId × Value → H)(F : Stop.Interp):
   ReturnsInHanded {} Tryz.checked os 4 .any ((Rows.OpenSpec.upto Rows.relaxBoundsSpec).preRow enc Tryz.prog Tryz.f4 Rows.relaxBoundsUptoRow.domain false Rows.relaxBoundsUptoRow.laid) (((Rows.OpenSpec.upto Rows.relaxBoundsSpec).at F).post enc Tryz.prog Tryz.f4 false true false false):=by
 obtain⟨places,hx⟩:=abQ os enc;refine returnsInHanded_of_row (C:=Tryz.checked) (s:=Rows.OpenSpec.upto Rows.relaxBoundsSpec) own started (by kernel_rfl) Tryz.func4
   (witness_row_atRef (enc:=enc) (C:=Tryz.checked) false (Bm os) #[.agg #[.slice none 0 0,.slice none 0 0,.slice none 0 0,.slice none 0 0,.slice none 0 0,.slice none 0 0],.int .i64 0,.slice none 0 0,.slice none 0 0] rfl (by kernel_rfl) (by kernel_rfl) (by kernel_rfl)
     (OpenSpec.preRow_of_cond 8 hx (by kernel_rfl) (fun k hk=>by cases hk;kernel_rfl) (by kernel_rfl) (RU os))) ?_
 intro W base args ds gs before hval hW _ hk _ hlaid _ _;exact TI hh H enc W base args ds gs before hval hW (hk _ rfl) (Qw hlaid)
theorem ZP{a b:Bool}(h1:a=true)(h2:b=true):(a&&b)=true:=by rw[h1,h2];rfl
set_option maxHeartbeats 4000000 in
theorem abH:joinedFacts Tryz.prog 4 Tryz.f4 (Rows.OpenSpec.upto Rows.relaxBoundsSpec).bare Rows.relaxBoundsUptoRow=true:=by
  unfold joinedFacts
  repeat' (first|with_reducible refine ZP ?_ ?_|(as_aux_lemma=>kernel_rfl))
set_option maxHeartbeats 4000000 in
theorem over (hh:PF):Rows.RelaxBoundsUptoSaid:=
  OpenClaim.holds_of_cond 4 Tryz.f4 rfl rfl rfl rfl rfl rfl rfl ⟨rfl,rfl,rfl,rfl,rfl⟩ rfl rfl rfl rfl rfl (by as_aux_lemma=>kernel_rfl) Tryz.func4 abH
    (of_decide_eq_true (by as_aux_lemma=>kernel_rfl)) (by unfold Func.isWrapper;first|(rw[if_pos (by decide +kernel)];kernel_rfl)|(rw[if_neg (by decide +kernel)];exact⟨rfl,rfl⟩))
    (fun os started H enc _ F=>by rw[OpenClaim.pre_eq_preRow];exact abM hh os started H enc F)
set_option maxHeartbeats 4000000 in
theorem card (hh:PF):Rows.RelaxBoundsUptoCardSaid:=
  Claim7.holds_tied_plain_at .later [] _ _ _ _ (over hh) (fun _ h=>by cases h) (by as_aux_lemma=>kernel_rfl) (fun _ h=>by cases h) relaxBoundsUpto_row_tie rfl ⟨rfl,rfl⟩ (by as_aux_lemma=>kernel_rfl) rfl
    (fun f fn hf hfn=>by
      obtain rfl:f=4:=Option.some.inj ((show Tryz.prog.funcNamed "lorry/lorrylaw32.RelaxBounds" = some 4 by as_aux_lemma=>kernel_rfl).symm.trans hf) |>.symm
      obtain rfl:fn=Tryz.f4:=(Option.some.inj (Tryz.func4.symm.trans hfn)).symm
      refine⟨by as_aux_lemma=>kernel_rfl,fun j t ht=>?_⟩
      have ht:(#[30,3,43,31]:Array TypeId)[j]?=some t:=ht
      have hm:=Array.mem_of_getElem? ht
      simp only[Array.mem_def,List.mem_cons,List.not_mem_nil,or_false,or_self]at hm
      rcases hm with rfl|rfl|rfl|rfl
      · exact(show Tryz.prog.wantsStandIn 30=false by as_aux_lemma=>kernel_rfl)
      · exact(show Tryz.prog.wantsStandIn 3=false by as_aux_lemma=>kernel_rfl)
      · exact(show Tryz.prog.wantsStandIn 43=false by as_aux_lemma=>kernel_rfl)
      · exact(show Tryz.prog.wantsStandIn 31=false by as_aux_lemma=>kernel_rfl)) (by as_aux_lemma=>kernel_rfl)
end Go.Proofs.YtdlijlecpopadaaGreatDoor.relaxBounds
end

section
namespace Go.Proofs.YtdlijlecpopadaaGreatDoor
open Go.Aw Go.Aw.D
theorem inB_of{x:Instance}(h:Bt 1048576 x):InB x:=by
 obtain⟨⟨hpl,har⟩,hty,hor,hap,hbe⟩:=h;exact⟨hpl.1,hpl.2,har.1,fun a ha=>⟨(har.2 a ha).2.2.2.2.1.1,(har.2 a ha).2.2.2.2.2.1⟩,hty.1,fun t ht=>⟨(hty.2 t ht).1,(hty.2 t ht).2.2.2.2.1.1⟩,hor.1,fun t ht=>⟨(hor.2 t ht).1,(hor.2 t ht).2.1.1⟩,hap.1,hbe.1⟩
theorem relaxBounds_holds:Rows.RelaxBoundsUptoCardSaid:=relaxBounds.card fun x n d l hx _ hd hl=>Rx.ER x n d l (inB_of hx) hd.1 hd.2 hl.1
#print axioms relaxBounds_holds
end Go.Proofs.YtdlijlecpopadaaGreatDoor
end
