import Derived.Test.YthbiheckeoknlaaGreatDoorCards
import Derived.Deep.DeepHandedRow
import Derived.Deep.DeepWitnessRowRef
import Derived.Lib.LaidIn
import Derived.SevenTiedAt
import Derived.Test.YthbiheckeoknlaaGreatDoorPp15
import Derived.Test.YthbiheckeoknlaaGreatDoorPp17
import Derived.Test.YthbiheckeoknlaaGreatDoorPp18
set_option linter.unusedSimpArgs false
set_option linter.unusedVariables false
set_option linter.defProp false
set_option maxRecDepth 100000
namespace Go.Proofs.YthbiheckeoknlaaGreatDoor.scriptParses
open Go.Proofs.Tryz
open Go.Aw Go.Aw.D Go.Proofs Go.RowKit Go.ChangeShapes Go.WideShapes Go.ChangeAt
theorem Mu{P:Program}(h:P.funcs.any Func.goes=false)(f:FuncId):P.goes f=false:=by
 have hg:∀g:Nat,(P.funcs[g]?).any Func.goes=false:=fun g=>by
  cases e:P.funcs[g]? with
  | none=>rfl
  | some x=>have hm:=Array.mem_of_getElem? e;rw[Array.any_eq_false']at h;simpa using h x hm
 unfold Program.goes;rw[h,Bool.and_false,Bool.or_false];simp[hg]
theorem HE{P:Program}(c:OpenClaim)(hs:c.start=.entering)(h:P.funcs.any Func.goes=false):false=c.goesBy P:=by
 unfold OpenClaim.goesBy Program.goesAt Program.goesFrom;rw[hs];cases P.funcNamed c.func with
 | none=>rfl
 | some f=>simp[Mu h f]
theorem Tp:prog.funcs.any Func.goes=false:=by as_aux_lemma=>kernel_rfl
def KX:Prop:=∀(x0:ByteArray),PC prog 3 [.v (.string x0)] (.v (.bool true))
theorem own:ownKnob prog.godebug=none:=by kernel_rfl
theorem laid:laidOutB prog=true:=Ln
theorem JK:prog.readableRec 9=true∧9<prog.types.size:=⟨by kernel_rfl,by decide +kernel⟩
theorem OW(hh:KX)(H:Type)(enc:TypeId×Value→H)(W:World)(base:Nat)(args:Array Value)(ds gs:List (DataW H))(before:List MemPlace)
  (hval:∀(j:Nat) t v,f3.params[j]?=some t→args[j]?=some v→Value.okWide prog W .any base t v)
  (hW:DataW.Whole enc prog f3.params.toList Rows.scriptParsesSpec.vars false W args.toList ds gs before) (hk:Rows.uptoSmall H (ds++gs)=true) (ht:FC W):
  Calls prog 3 args W fun e W'=>∃v,e=.returned v∧Rows.scriptParsesSpec.post enc prog f3 false true false false W args v W':=by
 have hW':=hW;obtain⟨p,q,hA0,hV,rfl,hfz,hnd⟩:=hW;have hA:DataW.TrodAll enc prog W 0 (fun _=>true) true [9] args.toList ds p:=hA0;obtain⟨v0,d0,rfl,rfl,h0⟩:=trodAll_one hA;obtain⟨rfl,rfl⟩:=trodVars_none hV;clear hA0;simp only[List.append_nil]at hW' hk;obtain⟨x0,rfl⟩:=okWide_string Tryz.underlying9 (hval 0 9 v0 rfl rfl);refine(GD (vals:=[.string x0]) (hh x0) ht (by simp only[aV];exact⟨_,_,rfl,by simp only[rep],rfl⟩)).mono fun e W' ⟨he,hg⟩=>?_
 subst he;exact⟨_,rfl,Ni laid (by
  intro t ht;have ht:t∈[9]:=ht;simp only[List.mem_cons,List.not_mem_nil,or_false]at ht;rcases ht with rfl
  ·exact JK
  ) rfl Tryz.underlying4 rfl (gs:=[]) (by simpa using hW') rfl rfl rfl hg⟩
def CG:DataW Unit→ByteArray
 | .iface _ (.ptr (.agg [.lit (.string b)]))=>⟨b.toArray⟩
 | _=>⟨#[]⟩
def wZ:DataW Unit→Array Value
 | .agg l=>(l.flatMap fun d=>match d with| .lit (.int k n)=>[Value.int k n]| .agg m=>m.map (fun d=>match d with| .lit (.int k n)=>Value.int k n|_=>undef)|_=>[undef]).toArray
 | _=>#[]
noncomputable def yA(os:Os):World:=
 let N:=(World.settled prog os).heap.size
 let w0:=World.holding prog os ⟨#[.cells #[.string (CG Rows.laid_strconv_ErrSyntax)] 374,.cells #[.string (CG Rows.laid_strconv_ErrRange)] 374],#[],[]⟩
 let put (h:Array Obj) (g:Nat) (cs:Array Value):Array Obj:=h.modify g fun
   | .cells _ t frozen=>.cells cs t frozen
   | o=>o
 let h1:=put w0.heap 1 #[.iface 372 (.pointer (some ⟨N+0,0,none⟩))]
 let h2:=put h1 2 #[.iface 372 (.pointer (some ⟨N+1,0,none⟩))]
 let h3:=put h2 3 (wZ Rows.laid_internal_strconv_uint64pow10)
 let h4:=put h3 4 (wZ Rows.laid_math_bits_deBruijn32tab)
 let h5:=put h4 5 (wZ Rows.laid_math_bits_deBruijn64tab)
 let h6:=put h5 6 (wZ Rows.laid_unicode_utf8_first)
 let h7:=put h6 7 (wZ Rows.laid_unicode_utf8_acceptRanges)
 { w0 with heap:=h7 }
theorem O5(os:Os):laidMet prog Rows.scriptParsesUptoRow.laid ((yA os).forCall (fun _ _=>0) ⟨#[],#[.string ByteArray.empty],[]⟩).memory:=
 laidMet_of_run' 8 (by kernel_rfl) (by kernel_rfl)
theorem SZ(os:Os){H:Type}(enc:TypeId×Value→H):∃places,DataW.whole enc prog ((yA os).forCall (fun _ _=>0) ⟨#[],#[.string ByteArray.empty],[]⟩).memory f3.params.toList Rows.scriptParsesSpec.vars false (#[.string ByteArray.empty]:Array Value).toList 8=some ([.lit (.string [])],[],places):=
 ⟨[],by kernel_rfl⟩
theorem SU(hh:KX)(os:Os)(started:os.Started)(H:Type)(enc:TypeId×Value→H)(F:Stop.Interp):
  ReturnsInHanded {} Tryz.checked os 3 .any ((Rows.OpenSpec.upto Rows.scriptParsesSpec).preRow enc prog f3 Rows.scriptParsesUptoRow.domain false Rows.scriptParsesUptoRow.laid) (((Rows.OpenSpec.upto Rows.scriptParsesSpec).at F).post enc prog f3 false true false false):=by
 obtain⟨places,hx⟩:=SZ os enc;refine returnsInHanded_of_row (C:=Tryz.checked) (s:=Rows.OpenSpec.upto Rows.scriptParsesSpec) own started (by kernel_rfl) func3
  (witness_row_atRef (enc:=enc) (C:=Tryz.checked) false (yA os) #[.string ByteArray.empty] rfl (by kernel_rfl) (by kernel_rfl) (by kernel_rfl)
   (OpenSpec.preRow_of_cond 8 hx (by kernel_rfl) (fun k hk=>by cases hk;kernel_rfl) (by kernel_rfl) (O5 os))) ?_
 intro W base args ds gs before hval hW _ hk _ hlaid hsh _;exact OW hh H enc W base args ds gs before hval hW (hk _ rfl) (MW hlaid hsh)
theorem Si{a b:Bool}(h1:a=true)(h2:b=true):(a&&b)=true:=by rw[h1,h2];rfl
set_option maxHeartbeats 4000000 in
theorem SJ:joinedFacts prog 3 f3 (Rows.OpenSpec.upto Rows.scriptParsesSpec).bare Rows.scriptParsesUptoRow=true:=by
  unfold joinedFacts
  repeat' (first|with_reducible refine Si ?_ ?_|with_reducible exact Ln|with_reducible exact Qi|with_reducible exact JH|with_reducible exact B7|with_reducible exact HC|with_reducible exact OV|(as_aux_lemma=>kernel_rfl))
set_option maxHeartbeats 4000000 in
theorem Tn (hh:KX):Rows.ScriptParsesUptoSaid:=
  OpenClaim.holds_of_cond 3 f3 rfl rfl rfl rfl rfl rfl rfl ⟨rfl,rfl,rfl,rfl,rfl⟩ rfl rfl rfl rfl rfl (by as_aux_lemma=>kernel_rfl) func3 SJ
    (of_decide_eq_true (by as_aux_lemma=>kernel_rfl)) (by unfold Func.isWrapper;first|(rw[if_pos (by decide +kernel)];kernel_rfl)|(rw[if_neg (by decide +kernel)];exact⟨rfl,rfl⟩))
    (fun os started H enc _ F=>by rw[OpenClaim.pre_eq_preRow];exact SU hh os started H enc F)
set_option maxHeartbeats 4000000 in
theorem card (hh:KX):Rows.ScriptParsesUptoCardSaid:=
  Claim7.holds_tied_plain_at .later [] _ _ _ _ (Tn hh) (fun _ h=>by cases h) (by as_aux_lemma=>kernel_rfl) (fun _ h=>by cases h) Mh rfl ⟨rfl,rfl⟩ (by as_aux_lemma=>kernel_rfl) rfl
    (fun f fn hf hfn=>by
      obtain rfl:f=3:=Option.some.inj ((show prog.funcNamed "lorry/lorrylaw54.ScriptParses" = some 3 by as_aux_lemma=>kernel_rfl).symm.trans hf) |>.symm
      obtain rfl:fn=f3:=(Option.some.inj (func3.symm.trans hfn)).symm
      refine⟨by as_aux_lemma=>kernel_rfl,fun j t ht=>?_⟩
      have ht:(#[9]:Array TypeId)[j]?=some t:=ht
      have hm:=Array.mem_of_getElem? ht
      simp only[Array.mem_def,List.mem_cons,List.not_mem_nil,or_false,or_self]at hm
      subst hm
      exact(show prog.wantsStandIn 9=false by as_aux_lemma=>kernel_rfl)) (HE _ rfl Tp)
end Go.Proofs.YthbiheckeoknlaaGreatDoor.scriptParses
