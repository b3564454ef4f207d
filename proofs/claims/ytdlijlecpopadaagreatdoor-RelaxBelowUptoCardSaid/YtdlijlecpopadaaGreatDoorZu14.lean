import Derived.Test.YtdlijlecpopadaaGreatDoorZu08
import Derived.Test.YtdlijlecpopadaaGreatDoorZu13
set_option linter.unusedSimpArgs false
set_option linter.unusedVariables false
set_option maxRecDepth 100000
section
namespace Go.Aw
open Go.RowKit
section
variable{P:Program}{f:FuncId}{args:List AV}{H:aJ}{K:AV->aJ->Prop}
def WC(P:Program)(f:FuncId)(args:List AV)(Φ:AV->Prop):Prop:=RC P f args fun x _=>Φ x
theorem RC.convW{O:AV->Prop}(h:RC P f args fun x H'=>∃r,O r/\Conv H' x r):WC P f args O:=fun S w vals Z X ha=>
 (h S w vals Z X ha).mono fun e w' ⟨v,x,H',S',he,⟨r,hr,hx⟩,F,Y,J,hn⟩=>by
   refine⟨v,r,bS,S'.froze H',he,hr,⟨?_,?_,fun k r I=>by simp[bS]at I,fun k r I=>by simp[bS]at I,fun k k' r r' I=>by simp[bS]at I,F.tabs.keep (S'.le_froze H') (fR.refl S' w')⟩,hx.rep F Y,?_,fun _ _ _=>rfl⟩
   . rintro g (E|E)
     . exact .inl (F.ro_fz g E)
     . exact .inr E
   . rintro g (E|⟨k,row,I,E⟩)
     . exact F.fz_lt g E
     . exact(F.rows k row I).block_lt E
   . refine⟨Sg.le_trans J.le (S'.le_froze H'),fun k I=>.inl (J.fz k I),J.os,J.tape,J.output,J.size,J.same,?_⟩
     rintro g (E|⟨k,row,I,E⟩)
     . exact J.newro g E
     . exact .inr fun h2=>F.free k row I g E (J.fz g h2)
theorem WC.use{F:AV->Prop}(h:WC P f args F)(I:∀r,F r->K r H):bA P f args H K:=
 RC.frame h fun x H' X J=>⟨H,I x X,fun k row E=>by
   unfold merge;cases O:H' k with
   | none=>exact E
   | some r'=>rw[J k r' O]at E;simp at E,fun _ h _=>h⟩
theorem WC.body{E:AV->Prop}{fn:Func}{c:Code}(mt:Nat->Bool)(J:P.follows .mixedOrders=true)(F:P.funcs[f]?=some fn)(O:fn.body=some c)(I:zX fn c args.length=true)
 (h:awp P (bA P) (dG P) mt c (Fq P fn.results.toList fun x H'=>∃r,E r/\Conv H' x r) (Dt args) bS):WC P f args E:=RC.convW (RC.body mt J F O I h)
theorem PC.w{r:AV}{E:AV->Prop}(h:PC P f args r)(Y:E r):WC P f args E:=fun S w vals I F X=>
 (h S w vals I F X).mono fun e w' ⟨v,x,H',S',O,J,q⟩=>⟨v,x,H',S',O,J▸Y,q⟩
theorem acQ{S:Sg}{w:World}{v:Value}(h:rep S w (.v (.slice none 0 0)) v):rep S w (.sl []) v:=by
 have E:v=.slice none 0 0:=by simp only[rep]at h;exact h
 subst E;simp only[rep];exact⟨none,0,0,rfl,rfl,Nat.le_refl _,Nat.zero_le _,.inl trivial⟩
theorem bA.nil0{F:List AV}(h:bA P f (.sl []::F) H K):bA P f (.v (.slice none 0 0)::F) H K:=fun S w vals I E=>h S w vals I (by
 simp only[bC]at E |-;obtain⟨u,t,e,h1,J⟩:=E;exact⟨u,t,e,acQ h1,J⟩)
end
end Go.Aw
end
section
namespace Go.Proofs.YtdlijlecpopadaaGreatDoor.Sq
open Go.Proofs.Tryz(prog)
open Go.Aw Go.Aw.D Go.Proofs Ty
open Go.Nu (iQ)
open Go.Proofs.YtdlijlecpopadaaGreatDoor.Nu (ltB geB Bd)
open Mv (bZ cQ NC.pc aT)
def L5(v:Visit):Int:=if v.drop=true then 1 else 0
def or2(a b:Int):Int:=if a=0 then b else a
def QH(a b:Visit):Int:=or2 (iQ a.order b.order) (iQ (L5 a) (L5 b))
def Wo:List Visit->List Visit->Int
 | [],[]=>0
 | [],_::_=> -1
 | _::_,[]=>1
 | a::l,b::m=>or2 (QH a b) (Wo l m)
def Wf:List Int->Int
 | []=>0
 | a::l=>if a=0 then Wf l else a
theorem yH{α:Type}{l:List α}{k:Nat}{u:α}(h:l[k]?=some u):l.drop k=u::l.drop (k+1):=by
 obtain⟨E,rfl⟩:=List.getElem?_eq_some_iff.1 h;rw[Xcp E]
theorem awF(l:List Int)(hl:l.length<=1048576):PC prog 265 [.sl (l.map aR)] (int (Wf l)):=by
 refine pcd Tryz.func265 ?_;unfold Tryz.f265;simp only[gdS];simp only[go_sem];refine⟨fun ρ H=>∃(k:Nat),k<=l.length/\ρ 3=int 0/\ρ 6=.sl (l.map aR)/\ρ 7=int (l.length:Nat)/\ρ 8=int k/\Wf l=Wf (l.drop k),fun ρ _=>l.length-aX (ρ 8),⟨0,Xab _,by simp only[go_sem],by simp only[go_sem],by simp only[go_sem,Xaa],(by simp only[go_sem];rfl),rfl⟩,?_⟩;rintro ρ H ⟨k,hk,I,Y,X,J,O⟩;simp only[go_sem,I,Y,X,J];refine aB (fun E=>?_) (fun F=>?_)
 . have E:=ltB E
   obtain⟨u,hu⟩:=aQ E;have b1:=inB E;rw[yH hu,Wf]at O;simp only[go_sem,I,Y,X,J,aH hu,b1];refine aB (fun Z=>?_) (fun Z=>?_)
   . simp only[go_sem,I,Y,X,J]
     exact bZ (by rw[O,if_neg (by simpa using Z)])
   . rw[if_pos (by simpa using Z)]at O
     simp only[go_sem,I,Y,X,J,aS (show k<=4611686018427387904 by omega)];exact⟨⟨k+1,E,rfl,O⟩,by simp only[aG];omega⟩
 . have F:=geB hk F
   subst F;simp only[go_sem,I,Y,X,J];exact bZ (by rw[O,List.drop_length];rfl)
theorem WZ(v:Visit):PC prog 264 [.agg (aK v)] (int (L5 v)):=by
 refine pcd Tryz.func264 ?_;unfold Tryz.f264;simp only[gdS];simp only[go_sem];unfold L5;refine aB (fun E=>?_) (fun E=>?_)
 . simp only[go_sem,E]
   exact bZ (by simp)
 . simp only[go_sem,E]
   exact bZ (by simp)
theorem Rb(a b:Visit):PC prog 223 [.agg (aK a),.agg (aK b)] (int (QH a b)):=by
 refine pcd Tryz.func223 ?_;unfold Tryz.f223;simp only[gdS];simp only[go_sem];refine EK (by kernel_rfl) ?_;simp only[go_sem];refine⟨_,(Bd a.order b.order).q rfl,?_⟩;simp only[go_sem];refine⟨_,(WZ a).q rfl,?_⟩;simp only[go_sem];refine⟨_,(WZ b).q rfl,?_⟩;simp only[go_sem];refine⟨_,(Bd (L5 a) (L5 b)).q rfl,?_⟩;simp only[go_sem];refine PC.use (awF [iQ a.order b.order,iQ (L5 a) (L5 b)] (by simp)) ?_;simp only[go_sem];refine bZ ?_;unfold QH or2;simp only[Wf];split
 . split
   . next h=>exact h.symm
   . rfl
 . rfl
theorem ahN(a b:List Visit)(ha:a.length<=1048576):PC prog 222 [.sl (a.map aK),.sl (b.map aK),.v (.func (.func 223) #[] #[])] (int (Wo a b)):=by
 have ai:aE prog 223=true:=by kernel_rfl
 refine pcd Tryz.func222 ?_;unfold Tryz.f222;simp only[gdS];simp only[go_sem];refine⟨fun ρ H=>∃(k:Nat),k<=a.length/\ρ 0=.sl (a.map aK)/\ρ 1=.sl (b.map aK)/\ρ 2=.v (.func (.func 223) #[] #[])/\ρ 11=.sl (a.map aK)/\ρ 12=int (a.length:Nat)/\ρ 13=int k/\Wo a b=Wo (a.drop k) (b.drop k)/\k<=b.length,fun ρ _=>a.length-aX (ρ 13),⟨0,Xab _,by simp only[go_sem],by simp only[go_sem],by simp only[go_sem],by simp only[go_sem],by simp only[go_sem,Xaa],(by simp only[go_sem];rfl),rfl,Xab _⟩,?_⟩;rintro ρ H ⟨k,hk,Y,Z,X,I,F,E,hz,aj⟩;simp only[go_sem,Y,Z,X,I,F,E];refine aB (fun ab=>?_) (fun af=>?_)
 . have ab:=ltB (by simpa using ab)
   obtain⟨u,hu⟩:=aQ ab;have b1:=inB ab;rw[yH hu]at hz;simp only[go_sem,Y,Z,X,I,F,E,aH hu,b1];refine aN fun i8 ag=>?_
   simp only[go_sem,Y,Z,X,I,F,E];refine aM (aA _ _ _) (by simp[cL]) ?_;generalize ac:aI (aI _ i8 _) i8 _=HGi8;have R8:HGi8 i8=some ((⟨97,2,[aK u]⟩:Row)):=by rw[<-ac,aA];try rfl
   clear ac ag;simp only[go_sem,Y,Z,X,I,F,E,R8];refine aB (fun O=>?_) (fun O=>?_)
   . have ah:b.length<=k:=by simpa using O
     simp only[go_sem,Y,Z,X,I,F,E];refine bZ ?_;rw[hz,Xdc ah];rfl
   have ae:k<b.length:=by simpa using O
   obtain⟨v,hv⟩:=aQ ae;have b2:=inB ae;rw[yH hv]at hz;simp only[go_sem,Y,Z,X,I,F,E,aH hv,b2];refine aN fun i9 ad=>?_
   have J:i8≠i9:=aO R8 ad;simp only[go_sem,Y,Z,X,I,F,E,R8];refine aM (aA _ _ _) (by simp[cL]) ?_;generalize aa:aI (aI _ i9 _) i9 _=HGi9;replace R8:=(congrFun aa.symm i8).trans ((aD _ _ _ _ J).trans ((aD _ _ _ _ J).trans R8));have R9:HGi9 i9=some ((⟨97,2,[aK v]⟩:Row)):=by rw[<-aa,aA];try rfl
   clear aa ad;simp only[go_sem,Y,Z,X,I,F,E,R9,R8];refine PC.use (Rb u v) ?_;simp only[go_sem,Y,Z,X,I,F,E];refine aB (fun O=>?_) (fun O=>?_)
   . have hc:¬QH u v=0:=by simpa using O
     simp only[go_sem,Y,Z,X,I,F,E];refine bZ ?_;rw[hz];show _=or2 (QH u v) _;unfold or2;rw[if_neg hc]
   . have hc:QH u v=0:=by simpa using O
     simp only[go_sem,Y,Z,X,I,F,E,aS (show k<=4611686018427387904 by omega)];refine⟨⟨k+1,ab,rfl,?_,ae⟩,by simp only[aG];omega⟩;rw[hz];show or2 (QH u v) _=_;unfold or2;rw[if_pos hc]
 have af:=geB hk (by simpa using af);subst af;rw[List.drop_length]at hz;simp only[go_sem,Y,Z,X,I,F,E,Xaa];refine aB (fun O=>?_) (fun O=>?_)
 . have O:a.length<b.length:=by simpa using O
   simp only[go_sem];refine bZ ?_;obtain⟨v,hv⟩:=aQ O;rw[hz,yH hv];rfl
 . have O:¬a.length<b.length:=by simpa using O
   simp only[go_sem];refine bZ ?_;rw[hz,Xdc (by omega)];rfl
theorem aiN(a b:List Visit)(E:a.length<=1048576):PC prog 176 [.sl (a.map aK),.sl (b.map aK)] (boo (decide (Wo a b<0))):=by
 refine pcd Tryz.func176 ?_;unfold Tryz.f176;simp only[gdS];simp only[go_sem];refine PC.use (ahN a b E) ?_;simp only[go_sem];exact .refl _
end Go.Proofs.YtdlijlecpopadaaGreatDoor.Sq
end
section
namespace Go.Proofs.YtdlijlecpopadaaGreatDoor.Sq
open Go.Proofs.Tryz(prog)
open Go.Aw Go.Aw.D Go.Proofs Ty
open Go.Proofs.YtdlijlecpopadaaGreatDoor.Nu (ltB geB)
open Mv (bZ cQ NC.pc aT)
def eqV(w v:Visit):Bool:=w.order == v.order&&(w.drop == v.drop&&true)
def tE(l:List Visit)(w:Visit):Bool:= !decide (dT l w<0)
def Lt(W l:List Visit)(v:Visit):Bool:=(W.takeWhile fun w=> !eqV w v).all (tE l)
def ajO(x:Instance)(l:List Visit)(v:Visit):Bool:=x.before.all fun q=>(q.b != v.order)||(eM x.orders q.a).all (tE l)
def uI(x:Instance)(l:List Visit)(v:Visit):Bool:=(!decide (dT l v>=0)&&Lt (eM x.orders v.order) l v)&&ajO x l v
theorem acM{α:Type}{p:α->Bool}{W:List α}{k:Nat}(h:∀u∈W.take k,p u=true):W.takeWhile p=W.take k++(W.drop k).takeWhile p:=by
 conv=>lhs;rw[<-Xcz k W]
 exact List.takeWhile_append_of_pos h
theorem Uy{W l:List Visit}{v:Visit}{k:Nat}(h:∀u∈W.take k,eqV u v=false/\tE l u=true):Lt W l v=Lt (W.drop k) l v:=by
 unfold Lt;rw[acM (k:=k) (fun u E=>by rw[(h u E).1];rfl),List.all_append];have:(W.take k).all (tE l)=true:=Xao.2 fun u E=>(h u E).2
 rw[this,Xba]
theorem adX(x:Instance)(l:List Visit)(v:Visit)(hl:l.length<=1048576)(hb:x.before.length<=1048576):PC prog 177 [.agg (aL x),.sl (l.map aK),.agg (aK v)] (boo (uI x l v)):=by
 refine pcd Tryz.func177 ?_;unfold Tryz.f177;simp only[gdS];simp only[go_sem];refine PC.use (Bn l v hl) ?_;simp only[go_sem];refine aB (fun c1=>?_) (fun c1=>?_)
 . simp only[go_sem]
   refine cQ ?_;unfold uI;have c1:decide (dT l v>=0)=true:=c1;rw[c1];rfl
 have c1:decide (dT l v>=0)=false:=c1;have hW:=mA x.orders v.order;simp only[go_sem];refine PC.use (nU x.orders v.order) ?_;simp only[go_sem,Xaa];have hr:uI x l v=(Lt (eM x.orders v.order) l v&&ajO x l v):=by unfold uI;rw[c1];rfl
 generalize eM x.orders v.order=W at *;refine FH (fun aq _=>aq 1=.sl (l.map aK)/\aq 3=.rp (aL x) 0/\aq 5=.rp (aK v) 0/\Lt W l v=true) ?_ fun Q hQ ay=>?_
 . rintro ρ H ⟨h1,h3,h5,aw⟩
   rw[aw,Xba]at hr;simp only[go_sem,h1,h3,h5,Xaa];refine⟨fun ρ H=>∃(k:Nat),k<=x.before.length/\ρ 1=.sl (l.map aK)/\ρ 3=.rp (aL x) 0/\ρ 5=.rp (aK v) 0/\ρ 36=.sl (x.before.map dC)/\ρ 37=int (x.before.length:Nat)/\ρ 38=int k/\(∀q∈x.before.take k,((q.b != v.order)||(eM x.orders q.a).all (tE l))=true),fun ρ _=>x.before.length-aX (ρ 38),⟨0,Xab _,by simp only[go_sem,h1,h3,h5],by simp only[go_sem,h1,h3,h5],by simp only[go_sem,h1,h3,h5],by simp only[go_sem,h1,h3,h5],by simp only[go_sem,Xaa,h1,h3,h5],(by simp only[go_sem,h1,h3,h5];rfl),by simp⟩,?_⟩;rintro ρ H ⟨k,hk,X,O,J,E,F,I,hz⟩;simp only[go_sem,X,O,J,E,F,I];refine aB (fun ac=>?_) (fun af=>?_)
   . have ac:=ltB (by simpa using ac)
     obtain⟨q,hq⟩:=aQ ac;have b1:=inB ac;simp only[go_sem,X,O,J,E,F,I,aH hq,b1];refine aN fun ar ap=>?_
     simp only[go_sem,X,O,J,E,F,I];refine aM (aA _ _ _) (by simp[mB]) ?_;generalize ak:aI (aI _ ar _) ar _=HGi10;have a0:HGi10 ar=some (⟨192,2,[dC q]⟩):=by rw[<-ak,aA];try rfl
     clear ak ap;simp only[go_sem,X,O,J,E,F,I,a0];refine⟨by decide,aB (fun Y=>?_) (fun Y=>?_)⟩
     . simp only[go_sem,X,O,J,E,F,I,aS (show k<=4611686018427387904 by omega)]
       exact⟨⟨k+1,ac,rfl,aT (p:=fun q:Pair=>((q.b != v.order)||(eM x.orders q.a).all (tE l))=true) hq (by rw[show(q.b != v.order)=true from Y];rfl) hz⟩,by simp only[aG];omega⟩
     have Y:(q.b != v.order)=false:=Y;have hV:=mA x.orders q.a;simp only[go_sem,X,O,J,E,F,I,a0];refine⟨by decide,PC.use (nU x.orders q.a) ?_⟩;simp only[go_sem,X,O,J,E,F,I,Xaa];have av:((q.b != v.order)||(eM x.orders q.a).all (tE l))=(eM x.orders q.a).all (tE l):=by rw[Y];rfl
     generalize ax:eM x.orders q.a=V at *;refine⟨fun ρ _=>∃m:Nat,m<=V.length/\ρ 1=.sl (l.map aK)/\ρ 3=.rp (aL x) 0/\ρ 5=.rp (aK v) 0/\ρ 36=.sl (x.before.map dC)/\ρ 37=int x.before.length/\ρ 38=int (k:Nat)/\ρ 51=.sl (V.map aK)/\ρ 52=int V.length/\ρ 53=int (m:Nat)/\∀u∈V.take m,tE l u=true,fun ρ _=>V.length-aX (ρ 53),⟨0,Xab _,by simp only[go_sem,X,O,J,E,F,I],by simp only[go_sem,X,O,J,E,F,I],by simp only[go_sem,X,O,J,E,F,I],by simp only[go_sem,X,O,J,E,F,I],by simp only[go_sem,X,O,J,E,F,I],by simp only[go_sem,X,O,J,E,F,I],by simp only[go_sem,X,O,J,E,F,I],by simp only[go_sem,X,O,J,E,F,I],by simp only[go_sem,X,O,J,E,F,I];rfl,by simp⟩,?_⟩;clear X O J E F I h1 h3 h5;rintro ρ H ⟨m,hm,X,O,J,E,F,I,ai,ah,ag,hy⟩;simp only[go_sem,X,O,J,E,F,I,ai,ah,ag];refine aB (fun aj=>?_) (fun ao=>?_)
     . have aj:=ltB (by simpa using aj)
       obtain⟨u,hu⟩:=aQ aj;have b2:=inB aj;simp only[go_sem,X,O,J,E,F,I,ai,ah,ag,aH hu,b2];refine aN fun an au=>?_
       simp only[go_sem,X,O,J,E,F,I,ai,ah,ag];refine aM (aA _ _ _) (by simp[cL]) ?_;generalize al:aI (aI _ an _) an _=HGi12;have a4:HGi12 an=some ((⟨97,2,[aK u]⟩:Row)):=by rw[<-al,aA];try rfl
       clear al au;simp only[go_sem,X,O,J,E,F,I,ai,ah,ag,a4];refine PC.use (Bn l u hl) ?_;simp only[go_sem,X,O,J,E,F,I,ai,ah,ag];refine aB (fun ae=>?_) (fun ae=>?_)
       . simp only[go_sem]
         refine cQ ?_;have ad:tE l u=false:=by unfold tE;rw[show decide (dT l u<0)=true from ae];rfl
         rw[hr];unfold ajO;exact(List.all_eq_false.2 ⟨q,Xad hq,by
           rw[ax,av];rw[Xch];exact List.all_eq_false.2 ⟨u,Xad hu,by rw[ad];simp⟩⟩).symm
       . have ad:tE l u=true:=by unfold tE;rw[show decide (dT l u<0)=false from ae];rfl
         simp only[go_sem,X,O,J,E,F,I,ai,ah,ag,aS (show m<=4611686018427387904 by omega)];exact⟨⟨m+1,aj,rfl,aT (p:=fun u:Visit=>tE l u=true) hu ad hy⟩,by simp only[aG];omega⟩
     have ao:=geB hm (by simpa using ao);subst ao;rw[Xaf]at hy;simp only[go_sem,X,O,J,E,F,I,aS (show k<=4611686018427387904 by omega)];exact⟨⟨k+1,ac,rfl,aT (p:=fun q:Pair=>((q.b != v.order)||(eM x.orders q.a).all (tE l))=true) hq (by rw[ax,av];exact Xao.2 hy) hz⟩,by simp only[aG];omega⟩
   have af:=geB hk (by simpa using af);subst af;rw[Xaf]at hz;simp only[go_sem];refine cQ ?_;rw[hr];unfold ajO;exact(Xao.2 hz).symm
 refine⟨fun ρ H=>∃(k:Nat),k<=W.length/\ρ 1=.sl (l.map aK)/\ρ 3=.rp (aL x) 0/\ρ 5=.rp (aK v) 0/\ρ 21=.sl (W.map aK)/\ρ 22=int (W.length:Nat)/\ρ 23=int k/\(∀u∈W.take k,eqV u v=false/\tE l u=true),fun ρ _=>W.length-aX (ρ 23),⟨0,Xab _,by simp only[go_sem],by simp only[go_sem],by simp only[go_sem],by simp only[go_sem],by simp only[go_sem,Xaa],(by simp only[go_sem];rfl),by simp⟩,?_⟩;rintro ρ H ⟨k,hk,X,O,J,aa,Z,ab,hz⟩;simp only[go_sem,X,O,J,aa,Z,ab];refine aB (fun ac=>?_) (fun af=>?_)
 . have ac:=ltB (by simpa using ac)
   obtain⟨u,hu⟩:=aQ ac;have b1:=inB ac;have hp:=Uy (l:=l) (v:=v) hz;rw[yH hu]at hp;simp only[go_sem,X,O,J,aa,Z,ab,aH hu,b1];refine aN fun i8 az=>?_
   simp only[go_sem,X,O,J,aa,Z,ab];refine aM (aA _ _ _) (by simp[cL]) ?_;generalize am:aI (aI _ i8 _) i8 _=HGi8;have R8:HGi8 i8=some ((⟨97,2,[aK u]⟩:Row)):=by rw[<-am,aA];try rfl
   clear am az;simp only[go_sem,X,O,J,aa,Z,ab,R8];refine aB (fun Y=>?_) (fun Y=>?_)
   . have Y:eqV u v=true:=Y
     simp only[go_sem];refine hQ _ _ ⟨by simp only[go_sem,X,O,J,aa,Z,ab],by simp only[go_sem,X,O,J,aa,Z,ab],by simp only[go_sem,X,O,J,aa,Z,ab],?_⟩;rw[hp];unfold Lt;rw[List.takeWhile_cons,Y];rfl
   have Y:eqV u v=false:=Y;simp only[go_sem,X,O,J,aa,Z,ab,R8];refine PC.use (Bn l u hl) ?_;simp only[go_sem,X,O,J,aa,Z,ab];refine aB (fun ae=>?_) (fun ae=>?_)
   . have ad:tE l u=false:=by unfold tE;rw[show decide (dT l u<0)=true from ae];rfl
     simp only[go_sem];refine ay _ _ ?_;simp only[go_sem];refine cQ ?_;have:Lt W l v=false:=by
       rw[hp];unfold Lt;rw[List.takeWhile_cons,Y];show(u::_).all (tE l)=false;rw[List.all_cons,ad];rfl
     rw[hr,this];rfl
   . have ad:tE l u=true:=by unfold tE;rw[show decide (dT l u<0)=false from ae];rfl
     simp only[go_sem,X,O,J,aa,Z,ab,aS (show k<=4611686018427387904 by omega)];exact⟨⟨k+1,ac,rfl,aT (p:=fun u:Visit=>eqV u v=false/\tE l u=true) hu ⟨Y,ad⟩ hz⟩,by simp only[aG];omega⟩
 have af:=geB hk (by simpa using af);subst af;have hp:=Uy (l:=l) (v:=v) hz;rw[List.drop_length]at hp;simp only[go_sem];exact hQ _ _ ⟨by simp only[go_sem,X,O,J,aa,Z,ab],by simp only[go_sem,X,O,J,aa,Z,ab],by simp only[go_sem,X,O,J,aa,Z,ab],hp⟩
def aiV(x:Instance)(i:Nat):Bool:=match x.orders[i]? with|some o=>o.off|none=>false
def IP(x:Instance)(set:Int)(i:Nat):Bool:=(decide ((i:Int)>62)||(pX .and .i64 (shV .shr .i64 set (i:Nat)) 1 == 0))||aiV x i
def CJ(x:Instance)(set:Int)(l:List Visit)(i:Nat):List Visit:=if IP x set i=true then[]else(eM x.orders (i:Nat)).filter (uI x l)
def zM(x:Instance)(set:Int)(l:List Visit)(k:Nat):List Visit:=(List.range k).flatMap (CJ x set l)
def yV(x:Instance)(set:Int)(l:List Visit):List Visit:=zM x set l x.orders.length
theorem Ea(x:Instance)(set:Int)(l:List Visit)(k:Nat):zM x set l (k+1)=zM x set l k++CJ x set l k:=by
 unfold zM;rw[Xbx,List.flatMap_append];simp
theorem QD(x:Instance)(set:Int)(l:List Visit)(i:Nat):(CJ x set l i).length<=2:=by
 unfold CJ;split
 . simp
 . exact Xah (Xcu _ _) (mA _ _)
theorem Bk(x:Instance)(set:Int)(l:List Visit):∀k,(zM x set l k).length<=2*k
 | 0=>Xag _
 | k+1=>by
   rw[Ea,Xae];have:=Bk x set l k;have:=QD x set l k;omega
abbrev aiQ(l:List Visit):Row:=⟨97,2,l.map aK⟩
theorem W7(l:List Visit)(v:Visit):(⟨97,2,l.map aK++[aK v]⟩:Row)=aiQ (l++[v]):=by
 show _=(⟨97,2,(l++[v]).map aK⟩:Row);rw[Xat];rfl
theorem LO{α:Type}{p:α->Bool}{l:List α}{k:Nat}{a:α}(h:l[k]?=some a):(l.take (k+1)).filter p=(l.take k).filter p++(if p a=true then[a]else[]):=by
 rw[bX h,List.filter_append]
 congr 1
 rw[List.filter_cons];rfl
theorem ahH(x:Instance)(set:Int)(l:List Visit)(hl:l.length<=1048576)(hb:x.before.length<=1048576)(hx:x.orders.length<=100000):PC prog 126 [.agg (aL x),int set,.sl (l.map aK)] (.sl ((yV x set l).map aK)):=by
 refine pcb (fun t=>t == 7) Tryz.func126 ?_;unfold Tryz.f126;simp only[gdS];simp only[go_sem];refine aN fun j av=>?_
 generalize ar:aI _ j _=HGj;have R:HGj j=some (aiQ []):=by rw[<-ar,aA];try rfl
 clear ar av;simp only[go_sem,R];refine⟨fun ρ H=>∃(k:Nat) (j:Nat),k<=x.orders.length/\ρ 1=int set/\ρ 2=.sl (l.map aK)/\ρ 3=.rp (aL x) 0/\ρ 13=.sl (x.orders.map bF)/\ρ 14=int (x.orders.length:Nat)/\ρ 15=int k/\ρ 7=.os j/\H j=some (aiQ (zM x set l k)),fun ρ _=>x.orders.length-aX (ρ 15),⟨0,j,Xab _,by simp only[go_sem],by simp only[go_sem],by simp only[go_sem],by simp only[go_sem],by simp only[go_sem,Xaa],(by simp only[go_sem];rfl),by simp only[go_sem],R⟩,?_⟩;rintro ρ H ⟨k,j,hk,Y,O,X,E,I,J,Z,R⟩;simp only[go_sem,Y,O,X,E,I,J,Z];refine aB (fun ah=>?_) (fun ap=>?_)
 . have ah:=ltB (by simpa using ah)
   obtain⟨o,ho⟩:=aQ ah;have b1:=inB ah;have hs:=Ea x set l k;have az:=Bk x set l k;have aw:aiV x k=o.off:=by unfold aiV;rw[ho]
   have au:IP x set k=((decide ((k:Int)>62)||(pX .and .i64 (shV .shr .i64 set (k:Nat)) 1 == 0))||o.off):=by unfold IP;rw[aw]
   have hA:CJ x set l k=if IP x set k=true then[]else(eM x.orders (k:Nat)).filter (uI x l):=rfl
   rw[hA,au]at hs;generalize zM x set l k=L at *;simp only[go_sem,Y,O,X,E,I,J,Z,aH ho,b1];refine aN fun i9 am=>?_
   have ae:j≠i9:=aO R am;simp only[go_sem,Y,O,X,E,I,J,Z,R];refine aM (aA _ _ _) (by simp[kZ]) ?_;generalize ai:aI (aI _ i9 _) i9 _=HGi9;replace R:=(congrFun ai.symm j).trans ((aD _ _ _ _ ae).trans ((aD _ _ _ _ ae).trans R));have R9:HGi9 i9=some ((⟨143,16,[bF o]⟩:Row)):=by rw[<-ai,aA];try rfl
   clear ai am;simp only[go_sem,Y,O,X,E,I,J,Z,R9,R];refine⟨fun _=>by omega,?_⟩;refine aB (fun hc=>?_) (fun hc=>?_)
   . rw[if_pos hc,Xal]at hs
     simp only[go_sem,Y,O,X,E,I,J,Z,aS (show k<=4611686018427387904 by omega)];refine⟨⟨k+1,j,ah,rfl,rfl,?_⟩,by simp only[aG];omega⟩;rw[hs];exact R
   rw[if_neg (by rw[hc];simp)]at hs;simp only[go_sem,Y,O,X,E,I,J,Z];refine PC.use (nU x.orders (k:Nat)) ?_;simp only[go_sem,Y,O,X,E,I,J,Z,Xaa];have hV:=mA x.orders (k:Nat);generalize eM x.orders (k:Nat)=V at *;refine⟨fun ρ H=>∃m j:Nat,m<=V.length/\ρ 1=int set/\ρ 2=.sl (l.map aK)/\ρ 3=.rp (aL x) 0/\ρ 13=.sl (x.orders.map bF)/\ρ 14=int x.orders.length/\ρ 15=int (k:Nat)/\ρ 36=.sl (V.map aK)/\ρ 37=int V.length/\ρ 38=int (m:Nat)/\ρ 7=.os j/\H j=some (aiQ (L++(V.take m).filter (uI x l))),fun ρ _=>V.length-aX (ρ 38),⟨0,j,Xab _,by simp only[go_sem,Y,O,X,E,I,J,Z],by simp only[go_sem,Y,O,X,E,I,J,Z],by simp only[go_sem,Y,O,X,E,I,J,Z],by simp only[go_sem,Y,O,X,E,I,J,Z],by simp only[go_sem,Y,O,X,E,I,J,Z],by simp only[go_sem,Y,O,X,E,I,J,Z],by simp only[go_sem,Y,O,X,E,I,J,Z],by simp only[go_sem,Y,O,X,E,I,J,Z],by simp only[go_sem,Y,O,X,E,I,J,Z];rfl,by simp only[go_sem,Y,O,X,E,I,J,Z],by simpa using R⟩,?_⟩;clear Y O X E I J Z R R9;rintro ρ H ⟨m,j,hm,Y,O,X,E,I,J,ab,ac,ad,Z,R⟩;simp only[go_sem,Y,O,X,E,I,J,ab,ac,ad,Z];refine aB (fun ag=>?_) (fun an=>?_)
   . have ag:=ltB (by simpa using ag)
     obtain⟨u,hu⟩:=aQ ag;have b2:=inB ag;have al:=LO (p:=uI x l) hu;have ay:((V.take m).filter (uI x l)).length<=2:=Xah (Xcu _ _) (by rw[Xax];omega);simp only[go_sem,Y,O,X,E,I,J,ab,ac,ad,Z,aH hu,b2];generalize (V.take m).filter (uI x l)=F at *;refine aN fun ak aj=>?_
     have aa:j≠ak:=aO R aj;simp only[go_sem,Y,O,X,E,I,J,ab,ac,ad,Z,R];refine aM (aA _ _ _) (by simp[cL]) ?_;generalize af:aI (aI _ ak _) ak _=HGi11;replace R:=(congrFun af.symm j).trans ((aD _ _ _ _ aa).trans ((aD _ _ _ _ aa).trans R));have aq:HGi11 ak=some ((⟨97,2,[aK u]⟩:Row)):=by rw[<-af,aA];try rfl
     clear af aj;simp only[go_sem,Y,O,X,E,I,J,ab,ac,ad,Z,aq,R];refine PC.use (adX x l u hl hb) ?_;simp only[go_sem,Y,O,X,E,I,J,ab,ac,ad,Z];refine aB (fun ao=>?_) (fun ao=>?_)
     . rw[if_pos ao]at al
       simp only[go_sem,Y,O,X,E,I,J,ab,ac,ad,Z,aq];refine bG R ⟨rfl,rfl⟩ (by simp only[go_sem]) (by simp only[Xaa,Xae,Xac,List.length_nil];omega) (fun j2 ax=>?_);simp only[go_sem,Y,O,X,E,I,J,ab,ac,ad,Z,aS (show m<=4611686018427387904 by omega)];refine⟨⟨m+1,j2,ag,rfl,rfl,?_⟩,by simp only[aG];omega⟩;rw[al,<-Xav,aA];exact congrArg some (W7 _ _)
     . rw[if_neg (by rw[ao];simp),Xal]at al
       simp only[go_sem,Y,O,X,E,I,J,ab,ac,ad,Z,aS (show m<=4611686018427387904 by omega)];refine⟨⟨m+1,j,ag,rfl,rfl,?_⟩,by simp only[aG];omega⟩;rw[al];exact R
   have an:=geB hm (by simpa using an);subst an;rw[Xaf]at R;simp only[go_sem,Y,O,X,E,I,J,Z,aS (show k<=4611686018427387904 by omega)];refine⟨⟨k+1,j,ah,rfl,rfl,?_⟩,by simp only[aG];omega⟩;rw[hs];exact R
 have ap:=geB hk (by simpa using ap);subst ap;simp only[go_sem,Y,O,X,E,I,J,Z];exact .row _ _ _ R (ConvE.refl _)
end Go.Proofs.YtdlijlecpopadaaGreatDoor.Sq
end
section
namespace Go.Aw
open Go.RowKit
section
variable{P:Program}{f:FuncId}{args:List AV}{H:aJ}{K:AV->aJ->Prop}{r:AV}
def Sup(H H':aJ):Prop:=∀k row,H k=some row->H' k=some row
def rA(H:aJ)(r:AV)(a:AV)(H':aJ):Prop:=Sup H H'/\∃l:List Nat,(∀k,k∈l->H k=none)/\Conv (fun k=>if k∈l then H' k else none) a r
theorem bA.data(h:bA P f args H (rA H r))(X:K r H):bA P f args H K:=by
 intro S w vals Y ha;refine(h S w vals Y ha).mono fun e w' ⟨v,x,H',S',he,⟨Z,l,J,hc⟩,F,O,hg,hn⟩=>?_
 obtain⟨h1,h2,h3⟩:=F.frz l;refine⟨v,r,H,S'.froze _,he,X,h1.drop (fun k row I=>?_),hc.rep h3 O,hg.trans h2,fun k _ h0=>h0⟩;have E:¬k∈l:=fun E=>by rw[J k E]at I;cases I
 show(if k∈l then none else H' k)=some row;rw[if_neg E];exact Z k row I
def LC(P:Program)(f:FuncId)(args:List AV)(H:aJ)(r:AV):Prop:=∀K:AV->aJ->Prop,K r H->bA P f args H K
theorem LC.use(h:LC P f args H r)(E:K r H):bA P f args H K:=h K E
theorem LC.body{fn:Func}{c:Code}(mt:Nat->Bool)(J:P.follows .mixedOrders=true)(F:P.funcs[f]?=some fn)(O:fn.body=some c)(I:zX fn c args.length=true)
 (h:awp P (bA P) (dG P) mt c (Fq P fn.results.toList (rA H r)) (Dt args) H):LC P f args H r:=fun K E=>bA.data (bA.body mt J F O I h) E
theorem Sup.refl(H:aJ):Sup H H:=fun _ _ h=>h
theorem Sup.upd{H H':aJ}(h:Sup H H'){i:Nat}(hi:H i=none)(a:Option Row):Sup H (aI H' i a):=fun k row E=>by
 rw[aD _ _ _ _ (fun e=>by subst e;rw[hi]at E;cases E)];exact h k row E
theorem Sup.none{H H':aJ}(h:Sup H H'){i:Nat}(hi:H' i=none):H i=none:=by
 cases e:H i with
 | none=>rfl
 | some row=>rw[h i row e]at hi;cases hi
theorem Sup.eq{H A B:aJ}(h:Sup H A)(e:A=B):Sup H B:=e▸h
theorem Sup.at{H H':aJ}(h:Sup H H'){i:Nat}{row:Row}(hi:H i=some row):H' i=some row:=h i row hi
theorem Sup.ne{H H':aJ}(h:Sup H H'){i j:Nat}{row:Row}(hi:H i=some row)(E:H j=.none):i≠j:=fun e=>by subst e;rw[hi]at E;cases E
theorem rA.flat{H H':aJ}(h:Sup H H')(r:AV):rA H r r H':=⟨h,[],by simp,.refl r⟩
theorem iY{l:List Nat}{H E:aJ}{K:Env->aJ->Prop}{ρ:Env}(I:∀k,k∉l->E k=H k)(h:K ρ H):mY l H K ρ E:=fun _ F h1 J=>by
 have:F=H:=funext fun k=>by
   by_cases e:k∈l
   . exact h1 k e
   . rw[J k e,I k e]
 rw[this];exact h
theorem iM{l:List Nat}{H F:aJ}{K:Env->aJ->Prop}{ρ:Env}{i:Nat}{r:Option Row}(J:∀k,k∉l->F k=H k)(hi:i∉l)(h:K ρ (aI H i r)):mY l H K ρ (aI F i r):=fun _ I h1 O=>by
 have:I=aI H i r:=funext fun k=>by
   by_cases e:k∈l
   . rw[h1 k e,aD _ _ _ _ (fun E=>hi (by rw[<-E];exact e))]
   . rw[O k e]
     by_cases E:k=i
     . subst E;rw[aA,aA]
     . rw[aD _ _ _ _ E,aD _ _ _ _ E,J k e]
 rw[this];exact h
theorem nM{l:List Nat}{H I:aJ}{K:Env->aJ->Prop}{ρ:Env}{i:Nat}{a:Option Row}{b:Row}(J:∀k,k∉l->I k=H k)(hi:I i=none)(h:H i=none->K ρ (aI (aI H i a) i (some b))):mY l H K ρ (aI (aI I i a) i (some b)):=fun h0 O h1 X=>by
 have F:i∉l:=fun e=>by have:=h0 i e;rw[aA]at this;cases this
 have:O=aI (aI H i a) i (some b):=funext fun k=>by
   by_cases e:k∈l
   . rw[h1 k e,aD _ _ _ _ (fun E=>F (by rw[<-E];exact e)),aD _ _ _ _ (fun E=>F (by rw[<-E];exact e))]
   . rw[X k e]
     by_cases E:k=i
     . subst E;rw[aA,aA]
     . rw[aD _ _ _ _ E,aD _ _ _ _ E,aD _ _ _ _ E,aD _ _ _ _ E,J k e]
 rw[this];exact h ((J i F).symm.trans hi)
theorem M9{S:Sg}{w:World}:∀(A B:List AV) (l:List Value),bC S w (A++B) l->bC S w A (l.take A.length)
 | [],_,l,_=>by simp only[List.length_nil,List.take_zero,bC]
 | x::A,B,l,h=>by
   simp only[List.cons_append,bC]at h |-;obtain⟨u,t,rfl,h1,E⟩:=h;exact⟨u,t.take A.length,by rw[List.length_cons,List.take_succ_cons],h1,M9 A B t E⟩
theorem Ja{sz:Nat}:∀(es:List (List AV)) (i:Nat),(∀cs∈es,cs.length=sz)->i<=es.length->((es.take i).flatten).length=i*sz
 | _,0,_,_=>by simp
 | [],i+1,_,h=>by simp at h
 | c::es,i+1,hl,h=>by
   rw[List.take_succ_cons,List.flatten_cons,List.length_append,hl c (by simp),Ja es i (fun cs E=>hl cs (by simp[E])) (by simpa using h),Nat.add_mul,Nat.one_mul,Nat.add_comm]
theorem St.cut{S:Sg}{w:World}{H:aJ}(J:St S w H){k i c n:Nat}{r:Row}{ad:Option Addr}(hk:H k=some r)(hl:S.loc k=.slice ad n c)(hi:i<=r.es.length):
   St (S.addRow (.slice ad i c) r.sz) w (aI (aI H k none) S.N (some ⟨r.e,r.sz,r.es.take i⟩))/\Grow S w (S.addRow (.slice ad i c) r.sz) w:=by
 have hR:=J.rows k r hk;obtain⟨xs,ho,hr,h1⟩:=hR.sl hl;have aa:=S.le_addRow (.slice ad i c) r.sz;have F:(S.addRow (.slice ad i c) r.sz).loc S.N=.slice ad i c:=by simp[Sg.addRow]
 have O:∀k,k<S.N->(S.addRow (.slice ad i c) r.sz).loc k=S.loc k:=aa.loc;have an:k≠S.N:=Nat.ne_of_lt hR.lt;have I:∀q row,q≠S.N->aI (aI H k none) S.N (some ⟨r.e,r.sz,r.es.take i⟩) q=some row->H q=some row/\q≠k:=fun q row hq h=>by
   rw[aD _ _ _ _ hq]at h;by_cases e:q=k
   . subst e;rw[aA]at h;cases h
   . rw[aD _ _ _ _ e]at h;exact⟨h,e⟩
 have ab:blk (.slice ad i c)=blk (S.loc k):=by rw[hl];cases ad <;> rfl
 refine⟨⟨J.ro_fz,J.fz_lt,?_,?_,?_,J.tabs.keep aa (fR.refl S w)⟩,⟨aa,fun _ h=>h,rfl,rfl,rfl,Nat.le_refl _,fun _ _=>rfl,fun _ h=>.inl h⟩⟩
 . intro q row hq
   by_cases e0:q=S.N
   . subst e0
     rw[aA]at hq;injection hq with hq;subst hq;have aj:=Ja r.es i hR.len hi;have ac:(r.es.take i).length=i:=by rw[List.length_take];omega
     have am:xs.length=r.es.length*r.sz:=ho.1;have af:i*r.sz<=r.es.length*r.sz:=Nat.mul_le_mul_right _ hi;refine⟨Nat.lt_succ_self _,by simp[Sg.addRow],hR.pos,fun cs ae=>hR.len cs (List.mem_of_mem_take ae),.inl ⟨xs.take (i*r.sz),⟨?_,?_⟩,?_,fun u hu=>h1 u (List.mem_of_mem_take hu)⟩⟩
     . show(xs.take (i*r.sz)).length=(r.es.take i).length*r.sz
       rw[List.length_take,ac];omega
     . rw[F]
       simp only[ac];rcases ho.2 with⟨hv,hn⟩|⟨g,cap,cur,hv,hb,Y,al,ak,ae,ai⟩
       . rw[hl]at hv
         injection hv with e1 e2 e3;refine .inl ⟨?_,by omega⟩;rw[e1,e3,show i=0 by omega]
       . rw[hl]at hv
         injection hv with e1 e2 e3;refine .inr ⟨g,cap,cur,by rw[e1,e3],hb,Y,by omega,ak,ae,?_⟩;rw[<-ai,List.take_take,Nat.min_eq_left af]
     . refine dQ aa (fR.refl S w) _ _ ?_
       have:r.es.flatten=(r.es.take i).flatten++(r.es.drop i).flatten:=by rw[<-List.flatten_append,List.take_append_drop]
       rw[this]at hr;have:=M9 _ _ _ hr;rw[aj]at this;exact this
   . obtain⟨Z,_⟩:=I q row e0 hq
     exact(J.rows q row Z).keep aa (fR.refl S w) fun _ _=>rfl
 . intro q row hq g Y
   by_cases e0:q=S.N
   . subst e0
     rw[F,ab]at Y;exact J.free k r hk g Y
   . obtain⟨Z,_⟩:=I q row e0 hq
     rw[O q (J.rows q row Z).lt]at Y;exact J.free q row Z g Y
 . intro q q' row E hq ah ag g Y X
   by_cases e0:q=S.N
   . subst e0
     rw[F,ab]at Y;obtain⟨Z,h3⟩:=I q' E (Ne.symm ag) ah;rw[O q' (J.rows q' E Z).lt]at X;exact J.disj k q' r E hk Z (Ne.symm h3) g Y X
   . obtain⟨Z,h3⟩:=I q row e0 hq
     rw[O q (J.rows q row Z).lt]at Y;by_cases e1:q'=S.N
     . subst e1
       rw[F,ab]at X;exact J.disj q k row r Z hk h3 g Y X
     . obtain⟨h4,h5⟩:=I q' E e1 ah
       rw[O q' (J.rows q' E h4).lt]at X;exact J.disj q q' row E Z h4 ag g Y X
end
end Go.Aw
end
section
namespace Go.Proofs.YtdlijlecpopadaaGreatDoor.Sq
open Go.Proofs.Tryz(prog)
open Go.Aw Go.Aw.D Go.Proofs Ty
open Go.Proofs.YtdlijlecpopadaaGreatDoor.Nu (ltB geB)
open Mv (bZ cQ NC.pc aT)
def Lj(L:List Nat):Nat:=(L.map fun a=>2^62-a).sum
theorem LV:∀{L:List Nat} {i u v:Nat},L[i]?=some u->u<v->v<=2^62->Lj (L.set i v)<Lj L
 | [],i,u,v,h,_,_=>by simp at h
 | a::L,0,u,v,h,h1,h2=>by
   have:a=u:=by simpa using h
   subst this;show(2^62-v)+(L.map fun a=>2^62-a).sum<(2^62-a)+(L.map fun a=>2^62-a).sum;omega
 | a::L,i+1,u,v,h,h1,h2=>by
   have:=LV (L:=L) (i:=i) (by simpa using h) h1 h2;show(2^62-a)+Lj (L.set i v)<(2^62-a)+Lj L;omega
abbrev CQ(L:List Nat):Row:=⟨3,1,L.map fun n=>[int (n:Nat)]⟩
def ayN:List AV->Nat
 | [.v (.int _ a)]=>2^62-a.toNat
 | _=>0
def adW(x b:AV)(H:aJ):Nat:=match x,b with
 | .os j,.v (.bool true)=>match H j with
   | some r=>(r.es.map ayN).sum+1
   | none=>0
 | _,_=>0
theorem Zr{j:Nat}{H:aJ}{L:List Nat}(h:H j=some (CQ L)):adW (.os j) (boo true) H=Lj L+1:=by
 unfold adW;simp only[h,List.map_map];rfl
theorem aoW{j:Nat}{H:aJ}:adW (.os j) (boo false) H=0:=rfl
theorem ZO(n:Nat)(l:List Pair)(hn:n<=60)(hl:l.length<=1048576):WC prog 121 [int (n:Nat),.sl (l.map dC)] (fun r=>∃L:List Nat,r=.sl (L.map fun n=>[int (n:Nat)])/\L.length=n):=by
 refine WC.body (c:=Tryz.f121.body.getD .skip) (fun _=>false) mixed Tryz.func121 rfl (by kernel_rfl) ?_;unfold Tryz.f121;simp only[gdS];simp only[go_sem];have an:gA (n:Int) 0=(n:Nat):=by unfold gA;split <;> omega
 rw[an];refine⟨by omega,?_⟩;rw[Xan];refine aN fun j am=>?_
 generalize ah:aI _ j _=HGj;have R:HGj j=some ((⟨3,1,List.replicate n [int 0]⟩:Row)):=by rw[<-ah,aA];try rfl
 clear ah am;simp only[go_sem,R];have R:HGj j=some (CQ (List.replicate n 0)):=by rw[R,CQ,List.map_replicate];rfl
 refine⟨fun ρ H=>∃(j:Nat) (L:List Nat) (b:Bool),ρ 1=.sl (l.map dC)/\ρ 5=.os j/\ρ 6=boo b/\H j=some (CQ L)/\L.length=n/\∀a∈L,a<2^62,fun ρ H=>adW (ρ 5) (ρ 6) H,⟨j,_,true,by simp only[go_sem],by simp only[go_sem],by simp only[go_sem],R,Xcj,fun a ha=>by rw[List.eq_of_mem_replicate ha];decide⟩,?_⟩;clear R;rintro ρ H ⟨j,L,b,J,O,X,R,hL,hB⟩;simp only[go_sem,J,O,X];refine aB (fun hb=>?_) (fun hb=>?_)
 case refine_2=>
   simp only[go_sem,O];exact⟨_,⟨L,rfl,hL⟩,.row _ _ _ R (ConvE.refl _)⟩
 have hb:b=true:=hb;subst hb;simp only[go_sem,J,O,X,Xaa];rw[Zr R];refine⟨fun ρ H=>∃(k:Nat) (j:Nat) (M:List Nat) (b:Bool),k<=l.length/\ρ 1=.sl (l.map dC)/\ρ 5=.os j/\ρ 6=boo b/\ρ 16=.sl (l.map dC)/\ρ 17=int l.length/\ρ 18=int (k:Nat)/\H j=some (CQ M)/\M.length=n/\(∀a∈M,a<2^62)/\Lj M<=Lj L/\(b=true->Lj M<Lj L),fun ρ _=>l.length-aX (ρ 18),⟨0,j,L,false,Xab _,by simp only[go_sem,J],by simp only[go_sem,O],by simp only[go_sem],by simp only[go_sem,J],by simp only[go_sem],by simp only[go_sem];rfl,R,hL,hB,Xag _,fun h=>(by cases h)⟩,?_⟩;clear J O X R hB hL;rintro ρ H ⟨k,j,M,b,hk,J,O,X,I,E,F,R,hL,hB,aj,aa⟩;simp only[go_sem,J,O,X,I,E,F];refine aB (fun Z=>?_) (fun ag=>?_)
 case refine_2=>
   have ag:=geB hk (by simpa using ag);simp only[go_sem,J,O,X];refine⟨⟨j,M,b,rfl,rfl,R,hL,hB⟩,?_⟩;cases b with
   | true=>rw[Zr R];have:=aa rfl;omega
   | false=>rw[aoW];omega
 have Z:=ltB (by simpa using Z);obtain⟨q,hq⟩:=aQ Z;have b1:=inB Z;simp only[go_sem,J,O,X,I,E,F,aH hq,b1];refine aN fun i8 ae=>?_
 have Y:j≠i8:=aO R ae;simp only[go_sem,J,O,X,I,E,F,R];refine aM (aA _ _ _) (by simp[mB]) ?_;generalize ab:aI (aI _ i8 _) i8 _=HGi8;replace R:=(congrFun ab.symm j).trans ((aD _ _ _ _ Y).trans ((aD _ _ _ _ Y).trans R));have R8:HGi8 i8=some (⟨192,2,[dC q]⟩):=by rw[<-ab,aA];try rfl
 clear ab ae;simp only[go_sem,J,O,X,I,E,F,R8,R];refine dP [i8] [(0,true),(1,true),(2,true),(3,true),(4,true),(5,true)] (by simp[R8]) (by kernel_rfl) fun Hp Hr hp hr _ al=>?_
 have ai:=(hp i8 (by simp)).trans R8;simp only[go_sem,J,O,X,I,E,F,ai];refine⟨by decide,by decide,iY hr ?_⟩;simp only[go_sem,J,O,X,I,E,F,R,Xaa];refine aB (fun hc=>?_) (fun hc=>?_)
 . simp only[go_sem,J,O,X,I,E,F,aS (show k<=4611686018427387904 by omega)]
   exact⟨⟨k+1,j,M,b,Z,rfl,rfl,rfl,R,hL,hB,aj,aa⟩,by simp only[aG];omega⟩
 simp only[Xai,decide_eq_false_iff_not]at hc;obtain⟨⟨⟨c1,c2⟩,c3⟩,c4⟩:=hc;obtain⟨A,hA⟩:=Int.eq_ofNat_of_zero_le (show 0<=q.a by omega);obtain⟨B,ad⟩:=Int.eq_ofNat_of_zero_le (show 0<=q.b by omega);rw[hA]at c3;rw[ad]at c4;have af:A<M.length:=by omega
 have ac:B<M.length:=by omega
 obtain⟨u,hu⟩:=aQ ac;obtain⟨w,hw⟩:=aQ af;have g1:=aH (f:=fun n:Nat=>[int (n:Nat)]) hu;have g2:=aH (f:=fun n:Nat=>[int (n:Nat)]) hw;have d1:=inB ac;have d2:=inB af;have bu:=hB u (Xad hu);have bw:=hB w (Xad hw);have b2:2^A<2^62:=Xbz (by decide) (by omega);have o1:u ||| w<2^62:=Xcs bu bw;have o2:u ||| w ||| 2^A<2^62:=Xcs o1 b2;have v1:pX .or .i64 (u:Int) (w:Int)=((u ||| w:Nat):Int):=Gv (by omega) (by omega);have v2:pX .or .i64 ((u ||| w:Nat):Int) ((2^A:Nat):Int)=((u ||| w ||| 2^A:Nat):Int):=Gv (by omega) (by omega);have v3:shV .shl .i64 1 (A:Int)=((2^A:Nat):Int):=C8 (by omega);have ag:u<=u ||| w ||| 2^A:=Xah Nat.left_le_or Nat.left_le_or;simp only[go_sem,J,O,X,I,E,F];refine dP [j] [(0,true),(1,true),(2,true),(3,true),(4,true),(5,true),(6,true),(7,true),(8,true),(9,true),(10,true),(11,true),(12,true)] (by simp[R]) (by kernel_rfl) fun Hp Hr hp hr _ al=>?_
 have ao:=(hp j (by simp)).trans R;simp only[go_sem,J,O,X,I,E,F,hA,ad,g1,g2,d1,d2,Xaa,v1,v2,v3,ao];refine⟨ac,af,?_⟩;refine iY hr ?_;simp only[go_sem,J,O,X,I,E,F,R,hA,ad,g1,d1,Xaa,v1,v2,v3];refine⟨ac,aB (fun hd=>?_) (fun hd=>?_)⟩
 . have hd : u < u ||| w ||| 2 ^ A := by
     have:(((u ||| w ||| 2^A:Nat):Int) != (u:Int))=true:=hd;simp only[bne_iff_ne,ne_eq]at this;omega
   simp only[go_sem,J,O,X,I,E,F,R,hA,ad,d1,Xaa];generalize aq:u ||| w ||| 2^A=v at *;refine cE so3 R (by rw[Xaa];exact⟨ac,rfl,Xag 1⟩) ?_;have ak:(M.map fun n:Nat=>[int (n:Nat)]).set B (mH ((M.map fun n:Nat=>[int (n:Nat)]).getD B []) 0 [int (v:Nat)])=(M.set B v).map fun n:Nat=>[int (n:Nat)]:=by
     rw[g1,List.map_set];rfl
   have R3:aI HGi8 j (some (⟨3,1,(M.map fun n:Nat=>[int (n:Nat)]).set B (mH ((M.map fun n:Nat=>[int (n:Nat)]).getD B []) 0 [int (v:Nat)])⟩:Row)) j=some (CQ (M.set B v)):=by
     rw[aA,ak]
   generalize aI HGi8 j _=H3 at R3 |-;have ap:=LV hu hd (Nat.le_of_lt o2);simp only[go_sem,J,O,X,I,E,F,aS (show k<=4611686018427387904 by omega)];exact⟨⟨k+1,j,M.set B v,true,Z,rfl,rfl,rfl,R3,by rw[List.length_set,hL],fun a ha=>by
     rcases List.mem_or_eq_of_mem_set ha with ha|rfl
     . exact hB a ha
     . exact o2,by omega,fun _=>by omega⟩,by simp only[aG];omega⟩
 . simp only[go_sem,J,O,X,I,E,F,aS (show k<=4611686018427387904 by omega)]
   exact⟨⟨k+1,j,M,b,Z,rfl,rfl,rfl,R,hL,hB,aj,aa⟩,by simp only[aG];omega⟩
theorem ZK{s:Int}{a:Int}(h:a∈iS s):∃k:Nat,a=(k:Nat):=by
 unfold iS tD at h;obtain⟨k,_,rfl⟩:=List.mem_map.1 h;exact⟨k,rfl⟩
theorem Po(s:Int):(iS s).length<=63:=by
 unfold iS tD;rw[Xaa];exact Xah (Xcu _ _) (by rw[Xbf];exact Xag _)
theorem Vn(x:Instance)(set:Int)(hx:x.orders.length<=60)(ha:x.apart.length<=1048576)(hb:x.before.length<=1048576):WC prog 62 [.agg (aL x),int set] (fun r=>∃e:Int,r=int e):=by
 refine WC.body (c:=Tryz.f62.body.getD .skip) (fun _=>false) mixed Tryz.func62 rfl (by kernel_rfl) ?_;unfold Tryz.f62;simp only[gdS];simp only[go_sem];refine aB (fun _=>?_) (fun _=>?_)
 . simp only[go_sem]
   exact⟨_,⟨_,rfl⟩,.refl _⟩
 simp only[go_sem];refine PC.use (Df set) ?_;have a0:=Po set;have az:=fun a=>@ZK set a
 generalize iS set=S at *;simp only[go_sem,Xaa];refine⟨fun ρ H=>∃(k:Nat),k<=S.length/\ρ 1=int set/\ρ 2=.rp (aL x) 0/\ρ 5=.sl (S.map aR)/\ρ 21=.sl (S.map aR)/\ρ 22=int (S.length:Nat)/\ρ 23=int k/\(∀a∈S.take k,a<(x.orders.length:Int)),fun ρ _=>S.length-aX (ρ 23),⟨0,Xab _,by simp only[go_sem],by simp only[go_sem],by simp only[go_sem],by simp only[go_sem],by simp only[go_sem,Xaa],(by simp only[go_sem];rfl),by simp⟩,?_⟩;rintro ρ H ⟨k,hk,J,F,I,af,ac,ag,hz⟩;simp only[go_sem,J,F,I,af,ac,ag];refine aB (fun E=>?_) (fun aj=>?_)
 . have E:=ltB (by simpa using E)
   obtain⟨a,ai⟩:=aQ E;have b1:=inB E;simp only[go_sem,J,F,I,af,ac,ag,aH ai,b1,Xaa];refine aB (fun hc=>?_) (fun hc=>?_)
   . simp only[go_sem]
     exact⟨_,⟨_,rfl⟩,.refl _⟩
   . have hc:¬a>=(x.orders.length:Int):=of_decide_eq_false hc
     simp only[go_sem,J,F,I,af,ac,ag,aS (show k<=4611686018427387904 by omega)];exact⟨⟨k+1,E,rfl,aT (p:=fun a:Int=>a<(x.orders.length:Int)) ai (by omega) hz⟩,by simp only[aG];omega⟩
 have aj:=geB hk (by simpa using aj);subst aj;rw[Xaf]at hz;simp only[go_sem,J,F,I,af,ac,ag,Xaa];refine⟨fun ρ H=>∃(k:Nat),k<=S.length/\ρ 1=int set/\ρ 2=.rp (aL x) 0/\ρ 5=.sl (S.map aR)/\ρ 33=.sl (S.map aR)/\ρ 34=int (S.length:Nat)/\ρ 35=int k,fun ρ _=>S.length-aX (ρ 35),⟨0,Xab _,by simp only[go_sem,J,F,I,af,ac,ag],by simp only[go_sem,J,F,I,af,ac,ag],by simp only[go_sem,J,F,I,af,ac,ag],by simp only[go_sem,J,F,I,af,ac,ag],by simp only[go_sem,Xaa,J,F,I,af,ac,ag],(by simp only[go_sem,J,F,I,af,ac,ag];rfl)⟩,?_⟩;rintro ρ H ⟨k,hk,J,F,I,ad,ae,ah⟩;simp only[go_sem,J,F,I,ad,ae,ah];refine aB (fun E=>?_) (fun aj=>?_)
 . have E:=ltB (by simpa using E)
   obtain⟨a,ai⟩:=aQ E;have b1:=inB E;obtain⟨A,rfl⟩:=az a (Xad ai);have hA:=hz _ (Xad ai);have ak:A<x.orders.length:=by omega
   obtain⟨o,ho⟩:=aQ ak;have b2:=inB ak;simp only[go_sem,J,F,I,ad,ae,ah,aH ai,b1,aH ho,b2];refine aB (fun hc=>?_) (fun hc=>?_)
   . simp only[go_sem]
     exact⟨_,⟨_,rfl⟩,.refl _⟩
   . simp only[go_sem,J,F,I,ad,ae,ah,aS (show k<=4611686018427387904 by omega)]
     exact⟨⟨k+1,E,rfl⟩,by simp only[aG];omega⟩
 simp only[go_sem,J,F,I,ad,ae,ah,Xaa];refine⟨fun ρ H=>∃(k:Nat),k<=x.apart.length/\ρ 1=int set/\ρ 2=.rp (aL x) 0/\ρ 5=.sl (S.map aR)/\ρ 47=.sl (x.apart.map dC)/\ρ 48=int (x.apart.length:Nat)/\ρ 49=int k,fun ρ _=>x.apart.length-aX (ρ 49),⟨0,Xab _,by simp only[go_sem,J,F,I,ad,ae,ah],by simp only[go_sem,J,F,I,ad,ae,ah],by simp only[go_sem,J,F,I,ad,ae,ah],by simp only[go_sem,J,F,I,ad,ae,ah],by simp only[go_sem,Xaa,J,F,I,ad,ae,ah],(by simp only[go_sem,J,F,I,ad,ae,ah];rfl)⟩,?_⟩;rintro ρ H ⟨k,hk,J,F,I,O,Y,X⟩;simp only[go_sem,J,F,I,O,Y,X];refine aB (fun E=>?_) (fun aj=>?_)
 . have E:=ltB (by simpa using E)
   obtain⟨q,hq⟩:=aQ E;have b1:=inB E;simp only[go_sem,J,F,I,O,Y,X,aH hq,b1];refine aN fun ar av=>?_
   simp only[go_sem,J,F,I,O,Y,X];refine aM (aA _ _ _) (by simp[mB]) ?_;generalize am:aI (aI _ ar _) ar _=HGi11;have ax:HGi11 ar=some (⟨192,2,[dC q]⟩):=by rw[<-am,aA];try rfl
   clear am av;simp only[go_sem,J,F,I,O,Y,X,ax];refine⟨by decide,PC.use (sQ set q.a) ?_⟩;simp only[go_sem,J,F,I,O,Y,X,ax];refine⟨fun _=>by decide,_,fun _=>(sQ set q.b).q rfl,?_⟩;simp only[go_sem,J,F,I,O,Y,X];refine aB (fun hc=>?_) (fun hc=>?_)
   . simp only[go_sem]
     exact⟨_,⟨_,rfl⟩,.refl _⟩
   . simp only[go_sem,J,F,I,O,Y,X,aS (show k<=4611686018427387904 by omega)]
     exact⟨⟨k+1,E,rfl⟩,by simp only[aG];omega⟩
 simp only[go_sem,J,F,I,O,Y,X,Xaa];refine⟨fun ρ H=>∃(k:Nat),k<=x.before.length/\ρ 1=int set/\ρ 2=.rp (aL x) 0/\ρ 5=.sl (S.map aR)/\ρ 65=.sl (x.before.map dC)/\ρ 66=int (x.before.length:Nat)/\ρ 67=int k,fun ρ _=>x.before.length-aX (ρ 67),⟨0,Xab _,by simp only[go_sem,J,F,I,O,Y,X],by simp only[go_sem,J,F,I,O,Y,X],by simp only[go_sem,J,F,I,O,Y,X],by simp only[go_sem,J,F,I,O,Y,X],by simp only[go_sem,Xaa,J,F,I,O,Y,X],(by simp only[go_sem,J,F,I,O,Y,X];rfl)⟩,?_⟩;rintro ρ H ⟨k,hk,J,F,I,aa,ab,Z⟩;simp only[go_sem,J,F,I,aa,ab,Z];refine aB (fun E=>?_) (fun aj=>?_)
 . have E:=ltB (by simpa using E)
   obtain⟨q,hq⟩:=aQ E;have b1:=inB E;simp only[go_sem,J,F,I,aa,ab,Z,aH hq,b1];refine aN fun aw au=>?_
   simp only[go_sem,J,F,I,aa,ab,Z];refine aM (aA _ _ _) (by simp[mB]) ?_;generalize al:aI (aI _ aw _) aw _=HGi13;have ay:HGi13 aw=some (⟨192,2,[dC q]⟩):=by rw[<-al,aA];try rfl
   clear al au;simp only[go_sem,J,F,I,aa,ab,Z,ay];refine⟨by decide,PC.use (sQ set q.b) ?_⟩;simp only[go_sem,J,F,I,aa,ab,Z,ay];refine⟨fun _=>by decide,_,fun _=>(sQ set q.a).q rfl,?_⟩;simp only[go_sem,J,F,I,aa,ab,Z];refine aB (fun hc=>?_) (fun hc=>?_)
   . simp only[go_sem]
     exact⟨_,⟨_,rfl⟩,.refl _⟩
   . simp only[go_sem,J,F,I,aa,ab,Z,aS (show k<=4611686018427387904 by omega)]
     exact⟨⟨k+1,E,rfl⟩,by simp only[aG];omega⟩
 simp only[go_sem,J,F,I,aa,ab,Z,Xaa];refine WC.use (ZO x.orders.length x.before hx hb) ?_;rintro r ⟨L,rfl,hL⟩;simp only[go_sem,J,F,I,aa,ab,Z,Xaa];refine⟨fun ρ H=>∃(k:Nat),k<=S.length/\ρ 14=.sl (L.map fun n:Nat=>[int (n:Nat)])/\ρ 89=.sl (S.map aR)/\ρ 90=int (S.length:Nat)/\ρ 91=int k,fun ρ _=>S.length-aX (ρ 91),⟨0,Xab _,by simp only[go_sem,J,F,I,aa,ab,Z],by simp only[go_sem,J,F,I,aa,ab,Z],by simp only[go_sem,Xaa,J,F,I,aa,ab,Z],(by simp only[go_sem,J,F,I,aa,ab,Z];rfl)⟩,?_⟩;rintro ρ H ⟨k,hk,an,ap,aq,ao⟩;simp only[go_sem,an,ap,aq,ao];refine aB (fun E=>?_) (fun aj=>?_)
 . have E:=ltB (by simpa using E)
   obtain⟨a,ai⟩:=aQ E;have b1:=inB E;obtain⟨A,rfl⟩:=az a (Xad ai);have hA:=hz _ (Xad ai);have ak:A<L.length:=by omega
   obtain⟨o,ho⟩:=aQ ak;have b2:=inB ak;have g1:=aH (f:=fun n:Nat=>[int (n:Nat)]) ho;simp only[go_sem,an,ap,aq,ao,aH ai,b1,g1,b2];refine PC.use (sQ (o:Nat) (A:Nat)) ?_;simp only[go_sem,an,ap,aq,ao];refine aB (fun hc=>?_) (fun hc=>?_)
   . simp only[go_sem]
     exact⟨_,⟨_,rfl⟩,.refl _⟩
   . simp only[go_sem,an,ap,aq,ao,aS (show k<=4611686018427387904 by omega)]
     exact⟨⟨k+1,E,rfl⟩,by simp only[aG];omega⟩
 simp only[go_sem];exact⟨_,⟨_,rfl⟩,.refl _⟩
end Go.Proofs.YtdlijlecpopadaaGreatDoor.Sq
end
section
namespace Go.Proofs.YtdlijlecpopadaaGreatDoor.Sq
open Go.Aw Go.Aw.D Go.Proofs Ty
structure Lab where
 ready:Int
 since:Int
 sheet:Sheet
def QS:Tm:=⟨0,0,0,false⟩
def fD(s:Sheet)(k:Nat)(b:Bool)(d:Int):Sheet:=match k with
 | 0=>{ s with rest:=b,depart:=d }
 | j+1=>{ s with times:=s.times.set j ⟨(s.times.getD j QS).arrive,(s.times.getD j QS).begin_,d,b⟩ }
def qT(t:VType)(l:Lab)(b:Bool):Int:=if b=true then W (l.ready+t.rest)else l.ready
def pP(l:Lab)(b:Bool):Int:=if b=true then 0 else l.since
def goL(x:Instance)(t:VType)(p q:Int)(l:Lab)(b:Bool):Int×Int×Int:=dH x.net t.profile p q (qT t l b)
def rH(x:Instance)(t:VType)(p q:Int)(l:Lab)(b:Bool):Int:=W (W (pP l b+(goL x t p q l b).1)-qT t l b)
def Gy(x:Instance)(t:VType)(p:Int)(s:Stop)(k:Nat)(l:Lab)(b:Bool):Sheet:=
 { fD l.sheet k b (qT t l b)with
   times:=(fD l.sheet k b (qT t l b)).times++[⟨(goL x t p s.place l b).1,gA (goL x t p s.place l b).1 s.start,0,false⟩]
   miles:=W (l.sheet.miles+(goL x t p s.place l b).2.1) }
def qK(x:Instance)(t:VType)(p:Int)(s:Stop)(k:Nat)(l:Lab)(b:Bool):Except Int Lab:=
 if((goL x t p s.place l b).2.2 != 0)=true then .error 12
 else if gA (goL x t p s.place l b).1 s.start>s.close then .error 14
 else if rH x t p s.place l b>t.drive then .error 16
 else .ok ⟨W (gA (goL x t p s.place l b).1 s.start+s.service),rH x t p s.place l b,Gy x t p s k l b⟩
def uH(x:Instance)(t:VType)(p:Int)(k:Nat)(l:Lab)(b:Bool):Sheet:=
 { fD l.sheet k b (qT t l b)with
   end_:=(goL x t p t.dst l b).1
   miles:=W (l.sheet.miles+(goL x t p t.dst l b).2.1) }
def tF(x:Instance)(t:VType)(p:Int)(k:Nat)(l:Lab)(b:Bool):Except Int Lab:=
 if((goL x t p t.dst l b).2.2 != 0)=true then .error 12
 else if(goL x t p t.dst l b).1>t.close then .error 15
 else if rH x t p t.dst l b>t.drive then .error 16
 else .ok ⟨(goL x t p t.dst l b).1,rH x t p t.dst l b,uH x t p k l b⟩
def qX(t:VType)(r:Route):Lab:=⟨gA t.start r.start,0,cN⟩
theorem rV(s:Sheet)(k:Nat)(b:Bool)(d:Int):(fD s k b d).miles=s.miles/\(fD s k b d).end_=s.end_/\(fD s k b d).times.length=s.times.length:=by
 cases k <;> simp[fD]
structure GoB(x:Instance)(t:VType):Prop where
 arrive:∀p q d,0<=d/\d<=12288->(dH x.net t.profile p q d).2.2=0->0<=(dH x.net t.profile p q d).1
 rest:0<=t.rest/\t.rest<=4096
 close:t.close<=4096
 drive:t.drive<=4096
structure StopB(s:Stop):Prop where
 start:0<=s.start
 close:s.close<=4096
 service:0<=s.service/\s.service<=4096
structure LabB(l:Lab)(k:Nat):Prop where
 ready:0<=l.ready/\l.ready<=8192
 since: -(12288*(k:Int))<=l.since/\l.since<=4096
def pF(l m:Lab):Prop:=l.ready=m.ready/\l.since<=m.since
theorem pF.refl(l:Lab):pF l l:=⟨rfl,Xaj _⟩
theorem pF.trans{a b c:Lab}(h:pF a b)(E:pF b c):pF a c:=⟨h.1.trans E.1,Int.le_trans h.2 E.2⟩
theorem acR{n:Int}(h: -9223372036854775808<=n/\n<=9223372036854775807):W n=n:=aW h
theorem IC{t:VType}{l:Lab}{k:Nat}(F:0<=t.rest/\t.rest<=4096)(E:LabB l k)(b:Bool):0<=qT t l b/\qT t l b<=12288:=by
 have:=E.ready;unfold qT;cases b with
 | false=>exact⟨this.1,by simp;omega⟩
 | true=>rw[if_pos rfl,acR (by omega)];omega
theorem Hv{l:Lab}{k:Nat}(E:LabB l k)(b:Bool): -(12288*(k:Int))<=pP l b/\pP l b<=4096:=by
 unfold pP;cases b with
 | false=>exact E.since
 | true=>rw[if_pos rfl];omega
theorem Ce{x:Instance}{t:VType}{p q:Int}{l:Lab}{b:Bool}{k:Nat}(X:k<=1048576)(F:GoB x t)(E:LabB l k)(h0:(goL x t p q l b).2.2=0)(h1:(goL x t p q l b).1<=4096):
   rH x t p q l b=pP l b+(goL x t p q l b).1-qT t l b/\0<=(goL x t p q l b).1:=by
 have I:=IC F.rest E b;have O:=Hv E b;have J:0<=(goL x t p q l b).1:=F.arrive p q _ I h0;unfold rH;rw[acR (n:=pP l b+(goL x t p q l b).1) (by omega),acR (by omega)];exact⟨rfl,J⟩
theorem T8(a s:Int):a<=gA a s/\s<=gA a s:=by unfold gA;split <;> omega
theorem Nh{x:Instance}{t:VType}{p:Int}{s:Stop}{k j:Nat}{l l':Lab}{b:Bool}(h:qK x t p s j l b=.ok l'):
   (goL x t p s.place l b).2.2=0/\gA (goL x t p s.place l b).1 s.start<=s.close/\rH x t p s.place l b<=t.drive /\
     l'=⟨W (gA (goL x t p s.place l b).1 s.start+s.service),rH x t p s.place l b,Gy x t p s j l b⟩:=by
 unfold qK at h;split at h
 . cases h
 . rename_i h1
   split at h
   . cases h
   . rename_i F
     split at h
     . cases h
     . rename_i E
       injection h with h;exact⟨by simpa using h1,by omega,by omega,h.symm⟩
theorem aaS{x:Instance}{t:VType}{p:Int}{j:Nat}{l l':Lab}{b:Bool}(h:tF x t p j l b=.ok l'):
   (goL x t p t.dst l b).2.2=0/\(goL x t p t.dst l b).1<=t.close/\rH x t p t.dst l b<=t.drive /\
     l'=⟨(goL x t p t.dst l b).1,rH x t p t.dst l b,uH x t p j l b⟩:=by
 unfold tF at h;split at h
 . cases h
 . rename_i h1
   split at h
   . cases h
   . rename_i F
     split at h
     . cases h
     . rename_i E
       injection h with h;exact⟨by simpa using h1,by omega,by omega,h.symm⟩
theorem ajP{x:Instance}{t:VType}{p:Int}{s:Stop}{k j:Nat}{l l':Lab}{b:Bool}(J:k<=1048576)(I:GoB x t)(E:StopB s)(F:LabB l k)(h:qK x t p s j l b=.ok l'):LabB l' (k+1):=by
 obtain⟨h0,h1,Z,rfl⟩:=Nh (k:=k) h;have hi:=T8 (goL x t p s.place l b).1 s.start;have hc:=E.close;have h3:=E.start;have h4:=E.service;obtain⟨e,ha⟩:=Ce J I F h0 (by omega);have Y:=IC I.rest F b;have O:=Hv F b;have X:=I.drive;refine⟨?_,?_⟩
 . show 0<=W _/\W _<=8192
   rw[acR (by omega)];omega
 . show _<=rH x t p s.place l b/\rH x t p s.place l b<=4096
   refine⟨?_,by omega⟩;rw[e];push_cast;omega
theorem TP{x:Instance}{t:VType}{p q:Int}{l m:Lab}{b:Bool}(h:l.ready=m.ready):goL x t p q l b=goL x t p q m b/\qT t l b=qT t m b:=by
 have e:qT t l b=qT t m b:=by unfold qT;rw[h]
 exact⟨by unfold goL;rw[e],e⟩
theorem Pv{x:Instance}{t:VType}{p:Int}{s:Stop}{k j:Nat}{l m O:Lab}{b:Bool}(I:k<=1048576)(J:GoB x t)(Z:StopB s)(hl:LabB l k)(hm:LabB m k)(Y:pF l m)(h:qK x t p s j m b=.ok O):
   ∃l',qK x t p s j l b=.ok l'/\pF l' O:=by
 obtain⟨h0,h1,h2,rfl⟩:=Nh (k:=k) h;obtain⟨E,ed⟩:=TP (x:=x) (t:=t) (p:=p) (q:=s.place) (b:=b) Y.1;have hi:=T8 (goL x t p s.place m b).1 s.start;have hc:=Z.close;have e1:=(Ce (p:=p) (q:=s.place) (b:=b) I J hm h0 (by omega)).1;have e2:=(Ce (p:=p) (q:=s.place) (b:=b) I J hl (by rw[E];exact h0) (by rw[E];omega)).1;have X:pP l b<=pP m b:=by
   unfold pP;cases b with
   | false=>exact Y.2
   | true=>exact Xaj _
 have F:rH x t p s.place l b<=rH x t p s.place m b:=by rw[e1,e2,E,ed];omega
 refine⟨⟨W (gA (goL x t p s.place l b).1 s.start+s.service),rH x t p s.place l b,Gy x t p s j l b⟩,?_,?_,F⟩
 . unfold qK
   rw[E,if_neg (by rw[h0];simp),if_neg (by omega),if_neg (by omega)]
 . show W _=W _
   rw[E]
theorem RN{x:Instance}{t:VType}{p:Int}{k j:Nat}{l m O:Lab}{b:Bool}(J:k<=1048576)(F:GoB x t)(Z:LabB l k)(hm:LabB m k)(Y:pF l m)(h:tF x t p j m b=.ok O):
   ∃l',tF x t p j l b=.ok l'/\pF l' O:=by
 obtain⟨h0,h1,h2,rfl⟩:=aaS h;obtain⟨E,ed⟩:=TP (x:=x) (t:=t) (p:=p) (q:=t.dst) (b:=b) Y.1;have hc:=F.close;have e1:=(Ce (p:=p) (q:=t.dst) (b:=b) J F hm h0 (by omega)).1;have e2:=(Ce (p:=p) (q:=t.dst) (b:=b) J F Z (by rw[E];exact h0) (by rw[E];omega)).1;have X:pP l b<=pP m b:=by
   unfold pP;cases b with
   | false=>exact Y.2
   | true=>exact Xaj _
 have I:rH x t p t.dst l b<=rH x t p t.dst m b:=by rw[e1,e2,E,ed];omega
 refine⟨⟨(goL x t p t.dst l b).1,rH x t p t.dst l b,uH x t p j l b⟩,?_,?_,I⟩
 . unfold tF
   rw[E,if_neg (by rw[h0];simp),if_neg (by omega),if_neg (by omega)]
 . show(goL x t p t.dst l b).1=_
   rw[E]
def gP(fixed:List Bool)(k:Nat):List Bool:=if k<fixed.length then[fixed.getD k false]else[false,true]
def A2(x:Instance)(t:VType)(r:Route):Nat->Int
 | 0=>t.src
 | k+1=>match r.visits[k]? with|some v=>(fP x v).1.place|none=>0
def kW(x:Instance)(t:VType)(r:Route)(k:Nat)(l:Lab)(b:Bool):Except Int Lab:=match r.visits[k]? with
 | some v=>qK x t (A2 x t r k) (fP x v).1 k l b
 | none=>tF x t (A2 x t r k) k l b
def xX(x:Instance)(t:VType)(r:Route):List Bool->Nat->Lab->Except Int Lab
 | [],_,l=>.ok l
 | b::bs,k,l=>match kW x t r k l b with
   | .error e=>.error e
   | .ok l'=>xX x t r bs (k+1) l'
theorem Aq{x:Instance}{t:VType}{r:Route}:∀(bs:List Bool) (b:Bool) (k:Nat) (l:Lab),xX x t r (bs++[b]) k l=match xX x t r bs k l with
   | .error e=>.error e
   | .ok l'=>kW x t r (k+bs.length) l' b
 | [],b,k,l=>by
   show(match kW x t r k l b with| .error e=>Except.error e| .ok l'=>xX x t r [] (k+1) l')=kW x t r (k+0) l b;cases kW x t r k l b <;> rfl
 | c::bs,b,k,l=>by
   show(match kW x t r k l c with| .error e=>Except.error e| .ok l'=>xX x t r (bs++[b]) (k+1) l')=match (match kW x t r k l c with| .error e=>Except.error e| .ok l'=>xX x t r bs (k+1) l')with| .error e=>Except.error e| .ok l'=>kW x t r (k+(bs.length+1)) l' b
   cases kW x t r k l c with
   | error e=>rfl
   | ok l'=>
     show xX x t r (bs++[b]) (k+1) l'=_;rw[Aq bs b (k+1) l',show k+1+bs.length=k+(bs.length+1)by omega]
def wE(m l:Lab):Bool:=m.ready == l.ready&&decide (m.since<=l.since)
theorem Sj{m l:Lab}:wE m l=true↔pF m l:=by
 unfold wE pF;simp
def vS(out:List Lab)(e:Except Int Lab):List Lab:=match e with
 | .error _=>out
 | .ok l=>if out.any (wE · l)=true then out else out++[l]
def HO(x:Instance)(t:VType)(r:Route)(ls:List Lab)(k:Nat):List Lab:=(ls.flatMap fun l=>(gP r.rests k).map fun b=>kW x t r k l b).foldl vS []
def dpL(x:Instance)(t:VType)(r:Route):Nat->List Lab
 | 0=>[qX t r]
 | k+1=>HO x t r (dpL x t r k) k
theorem Dy:∀(es:List (Except Int Lab)) (out:List Lab),
   (∀l∈es.foldl vS out,l∈out\/.ok l∈es)/\(∀l∈out,l∈es.foldl vS out)/\(∀l,.ok l∈es->∃m∈es.foldl vS out,pF m l)
 | [],out=>⟨fun l h=>.inl h,fun l h=>h,fun l h=>by cases h⟩
 | e::es,out=>by
   obtain⟨h1,X,Z⟩:=Dy es (vS out e);have F:∀l∈out,l∈vS out e:=fun l E=>by
     unfold vS;split
     . exact E
     . split
       . exact E
       . exact Xca _ E
   refine⟨fun l E=>?_,fun l E=>X l (F l E),fun l E=>?_⟩
   . rcases h1 l E with h|h
     . unfold vS at h
       split at h
       . exact .inl h
       . split at h
         . exact .inl h
         . rcases Xaq.1 h with h|h
           . exact .inl h
           . simp at h;subst h;exact .inr (by simp)
     . exact .inr (by simp[h])
   . rcases Xbi.1 E with h|h
     . subst h
       have I:∃m∈vS out (.ok l),pF m l:=by
         unfold vS;simp only;split
         . rename_i Y
           obtain⟨m,J,O⟩:=Xau.1 Y;exact⟨m,J,Sj.1 O⟩
         . exact⟨l,by simp,pF.refl l⟩
       obtain⟨m,J,O⟩:=I;exact⟨m,X m J,O⟩
     . exact Z l h
def Hz(fixed bs:List Bool):Prop:=∀(i:Nat) (b:Bool),bs[i]?=some b->b∈gP fixed i
theorem FA{fixed bs:List Bool}{b:Bool}:Hz fixed (bs++[b])↔Hz fixed bs/\b∈gP fixed bs.length:=by
 constructor
 . intro h
   refine⟨fun i c E=>h i c ?_,h bs.length b (by simp)⟩;have:=(List.getElem?_eq_some_iff.1 E).1;rw[List.getElem?_append_left this];exact E
 . rintro⟨h1,J⟩ i c E
   by_cases hi:i<bs.length
   . rw[List.getElem?_append_left hi]at E;exact h1 i c E
   . rw[List.getElem?_append_right (by omega)]at E
     by_cases F:i=bs.length
     . subst F;simp at E;subst E;exact J
     . have:i-bs.length≠0:=by omega
       cases I:i-bs.length with
       | zero=>omega
       | succ n=>rw[I]at E;simp at E
structure RouteB(x:Instance)(t:VType)(r:Route):Prop where
 go:GoB x t
 stop:∀v∈r.visits,StopB (fP x v).1
 first:LabB (qX t r) 0
 short:r.visits.length<=1048575
theorem T5{α:Type}{l:List α}{k:Nat}(h:l.length=k+1):∃m b,l=m++[b]/\m.length=k:=by
 have E:l≠[]:=by intro e;subst e;simp at h
 refine⟨l.dropLast,l.getLast E,(List.dropLast_concat_getLast E).symm,by simp[h]⟩
theorem ajR{x:Instance}{t:VType}{r:Route}{k:Nat}(F:k<r.visits.length)(l:Lab)(b:Bool):∃v∈r.visits,kW x t r k l b=qK x t (A2 x t r k) (fP x v).1 k l b:=by
 obtain⟨v,E⟩:=aQ F;exact⟨v,Xad E,by unfold kW;rw[E]⟩
theorem QZ{x:Instance}{t:VType}{r:Route}(E:RouteB x t r):∀(k:Nat) (bs:List Bool) (l:Lab),bs.length=k->k<=r.visits.length->xX x t r bs 0 (qX t r)=.ok l->LabB l k
 | 0,bs,l,hl,_,h=>by
   have:=List.eq_nil_of_length_eq_zero hl;subst this;injection h with h;subst h;exact E.first
 | k+1,bs,l,hl,hk,h=>by
   obtain⟨m,b,rfl,I⟩:=T5 hl;rw[Aq]at h;cases F:xX x t r m 0 (qX t r)with
   | error e=>rw[F]at h;cases h
   | ok l'=>
     rw[F]at h;have h:kW x t r (0+m.length) l' b=.ok l:=h;rw[I,Nat.zero_add]at h;have O:=QZ E k m l' I (by omega) F;have X:=E.short;obtain⟨v,J,e⟩:=ajR (x:=x) (t:=t) (r:=r) (k:=k) (by omega) l' b;rw[e]at h;exact ajP (by omega) E.go (E.stop v J) O h
theorem EW{x:Instance}{t:VType}{r:Route}:∀(k:Nat) (l:Lab),l∈dpL x t r k->∃bs,bs.length=k/\Hz r.rests bs/\xX x t r bs 0 (qX t r)=.ok l
 | 0,l,h=>by
   have h:l∈[qX t r]:=h;simp at h;subst h;exact⟨[],rfl,fun i b F=>by simp at F,rfl⟩
 | k+1,l,h=>by
   have h:l∈HO x t r (dpL x t r k) k:=h;unfold HO at h;rcases(Dy _ []).1 l h with h|h
   . cases h
   . obtain⟨l',E,h⟩:=Xbo.1 h
     obtain⟨b,F,h⟩:=List.mem_map.1 h;obtain⟨bs,h1,J,I⟩:=EW k l' E;refine⟨bs++[b],by simp[h1],FA.2 ⟨J,by rw[h1];exact F⟩,?_⟩;rw[Aq,I];show kW x t r (0+bs.length) l' b=.ok l;rw[h1,Nat.zero_add];exact h
theorem DQ{x:Instance}{t:VType}{r:Route}(E:RouteB x t r):∀(k:Nat) (bs:List Bool) (m:Lab),bs.length=k->k<=r.visits.length+1->Hz r.rests bs->xX x t r bs 0 (qX t r)=.ok m->∃l∈dpL x t r k,pF l m
 | 0,bs,m,hl,_,_,h=>by
   have:=List.eq_nil_of_length_eq_zero hl;subst this;injection h with h;subst h;exact⟨_,by show qX t r∈[qX t r];simp,pF.refl _⟩
 | k+1,bs,m,hl,hk,hc,h=>by
   obtain⟨cs,b,rfl,O⟩:=T5 hl;obtain⟨ac,J⟩:=FA.1 hc;rw[O]at J;rw[Aq]at h;cases X:xX x t r cs 0 (qX t r)with
   | error e=>rw[X]at h;cases h
   | ok m'=>
     rw[X]at h;have h:kW x t r (0+cs.length) m' b=.ok m:=h;rw[O,Nat.zero_add]at h;obtain⟨l',F,I⟩:=DQ E k cs m' O (by omega) ac X;have hs:=E.short;have bm:=QZ E k cs m' O (by omega) X;obtain⟨ds,d1,d2,d3⟩:=EW k l' F;have bl:=QZ E k ds l' d1 (by omega) d3;have step:∃l,kW x t r k l' b=.ok l/\pF l m:=by
       by_cases Y:k<r.visits.length
       . obtain⟨v,hv⟩:=aQ Y
         have e:∀l,kW x t r k l b=qK x t (A2 x t r k) (fP x v).1 k l b:=fun l=>by unfold kW;rw[hv]
         rw[e]at h |-;exact Pv (by omega) E.go (E.stop v (Xad hv)) bl bm I h
       . have e:∀l,kW x t r k l b=tF x t (A2 x t r k) k l b:=fun l=>by unfold kW;rw[List.getElem?_eq_none (by omega)]
         rw[e]at h |-;exact RN (by omega) E.go bl bm I h
     obtain⟨l,Z,aa⟩:=step;obtain⟨q,hq,ab⟩:=(Dy ((dpL x t r k).flatMap fun l=>(gP r.rests k).map fun b=>kW x t r k l b) []).2.2 l
       (Xbo.2 ⟨l',F,List.mem_map.2 ⟨b,J,Z⟩⟩)
     exact⟨q,hq,ab.trans aa⟩
theorem amG{x:Instance}{t:VType}{r:Route}(J:RouteB x t r):dpL x t r (r.visits.length+1)=[]↔∀bs,bs.length=r.visits.length+1->Hz r.rests bs->∃e,xX x t r bs 0 (qX t r)=.error e:=by
 constructor
 . intro h bs I Y
   cases Z:xX x t r bs 0 (qX t r)with
   | error e=>exact⟨e,rfl⟩
   | ok m=>
     obtain⟨l,E,_⟩:=DQ J _ bs m I (Xag _) Y Z;rw[h]at E;cases E
 . intro h
   cases O:dpL x t r (r.visits.length+1)with
   | nil=>rfl
   | cons l ls=>
     obtain⟨bs,h1,X,h3⟩:=EW (r.visits.length+1) l (by rw[O];simp);obtain⟨e,F⟩:=h bs h1 X;rw[h3]at F;cases F
theorem Lw{p c:List Bool}(h:p.length<=c.length):Hz p c↔p <+: c:=by
 constructor
 . intro I
   refine List.prefix_iff_getElem?.2 fun i hi=>?_
   have F:i<c.length:=by omega
   have E:=I i c[i] (List.getElem?_eq_getElem F);unfold gP at E;rw[if_pos hi]at E;simp only[Xbi,List.not_mem_nil,or_false]at E;rw[List.getElem?_eq_getElem F,E];simp[List.getD,List.getElem?_eq_getElem hi]
 . rintro⟨s,rfl⟩ i b E
   unfold gP;by_cases hi:i<p.length
   . rw[if_pos hi]
     rw[List.getElem?_append_left hi]at E;simp[List.getD,E]
   . rw[if_neg hi]
     cases b <;> simp
theorem Fm{r:Route}(E:r.rests.length<=r.visits.length+1):(sR r).length=r.visits.length+1:=by unfold sR;simp;omega
theorem Jo{x:Instance}{t:VType}{p:Int}{s:Stop}{k:Nat}{l:Lab}{b:Bool}{e:Int}(h:qK x t p s k l b=.error e):e≠0:=by
 unfold qK at h
 repeat' split at h
 all_goals first|(injection h with h;omega)|cases h
theorem Iw{x:Instance}{t:VType}{p:Int}{k:Nat}{l:Lab}{b:Bool}{e:Int}(h:tF x t p k l b=.error e):e≠0:=by
 unfold tF at h
 repeat' split at h
 all_goals first|(injection h with h;omega)|cases h
theorem NV{x:Instance}{t:VType}{r:Route}:∀(bs:List Bool) (k:Nat) (l:Lab) (e:Int),xX x t r bs k l=.error e->e≠0
 | [],k,l,e,h=>by cases h
 | b::bs,k,l,e,h=>by
   unfold xX at h;cases E:kW x t r k l b with
   | error e'=>
     rw[E]at h;have h:(Except.error e':Except Int Lab)=.error e:=h;injection h with h;subst h;unfold kW at E;split at E
     . exact Jo E
     . exact Iw E
   | ok l'=>rw[E]at h;exact NV bs (k+1) l' e h
def G8(e:Except Int Lab):Int:=match e with| .error e=>e| .ok _=>0
end Go.Proofs.YtdlijlecpopadaaGreatDoor.Sq
end
section
namespace Go.Proofs.YtdlijlecpopadaaGreatDoor.Rx
open Go.Aw Go.Aw.D Go.Proofs Ty Go.Nu
open Sq (W dH mU pC rS fE eM dD gL NetOk)
structure Clk where
 ready:Int
 since:Int
structure Part where
 place:Int
 memory:Nat
 board:Nat
 visits:Nat
 load:List Int
 clocks:List Clk
 value:ByteArray
structure Wk where
 x:Instance
 kind:Nat
 t:VType
 near:List Int
 dual:Option (List ByteArray)
 most:Nat
def cP(c:Clk):List AV:=[int c.ready,int c.since]
theorem lT(c:Clk):(cP c).length=2:=(rfl)
theorem Yt(c:Clk):(cP c).getD 0 .any=int c.ready:=(rfl)
theorem aaA(c:Clk):(cP c).getD 1 .any=int c.since:=(rfl)
theorem PN(c:Clk):(cP c).take 2=cP c:=(rfl)
def cC(p:Part):List AV:=[int p.place,int (p.memory:Nat),int (p.board:Nat),int (p.visits:Nat),.sl (p.load.map aR),.sl (p.clocks.map cP),str p.value]
theorem bV(p:Part):(cC p).length=7:=(rfl)
theorem VZ(p:Part):(cC p).getD 0 .any=int p.place:=(rfl)
theorem U9(p:Part):(cC p).getD 1 .any=int (p.memory:Nat):=(rfl)
theorem UF(p:Part):(cC p).getD 2 .any=int (p.board:Nat):=(rfl)
theorem Vq(p:Part):(cC p).getD 3 .any=int (p.visits:Nat):=(rfl)
theorem UT(p:Part):(cC p).getD 4 .any=.sl (p.load.map aR):=(rfl)
theorem V8(p:Part):(cC p).getD 5 .any=.sl (p.clocks.map cP):=(rfl)
theorem Wh(p:Part):(cC p).getD 6 .any=str p.value:=(rfl)
theorem OE(p:Part):(cC p).take 7=cC p:=(rfl)
def TQ:Option (List ByteArray)->AV
 | none=>.v (.slice none 0 0)
 | some l=>.sl (l.map Go.Aw.D.fK)
def jZ(w:Wk):List AV:=aL w.x++([int (w.kind:Nat)]++(aY w.t++[.sl (w.near.map aR),TQ w.dual,int (w.most:Nat)]))
section
variable(w:Wk)
theorem Dk:(jZ w).length=24:=(rfl)
theorem adG:(jZ w).getD 3 .any=.sl (w.x.orders.map bF):=(rfl)
theorem ahE:(jZ w).getD 6 .any=int (w.kind:Nat):=(rfl)
theorem afO:(jZ w).getD 9 .any=int w.t.src:=(rfl)
theorem Yw:(jZ w).getD 10 .any=int w.t.dst:=(rfl)
theorem Z1:(jZ w).getD 11 .any=.sl (w.t.cap.map aR):=(rfl)
theorem Zt:(jZ w).getD 13 .any=int w.t.profile:=(rfl)
theorem Yp:(jZ w).getD 14 .any=int w.t.start:=(rfl)
theorem Yv:(jZ w).getD 15 .any=int w.t.close:=(rfl)
theorem Yl:(jZ w).getD 16 .any=int w.t.drive:=(rfl)
theorem ZL:(jZ w).getD 17 .any=int w.t.rest:=(rfl)
theorem aaE:(jZ w).getD 18 .any=int w.t.fixed:=(rfl)
theorem ZI:(jZ w).getD 19 .any=int w.t.perMile:=(rfl)
theorem Yc:(jZ w).getD 20 .any=int w.t.perTick:=(rfl)
theorem ZF:(jZ w).getD 21 .any=.sl (w.near.map aR):=(rfl)
theorem M6:(jZ w).getD 22 .any=TQ w.dual:=(rfl)
theorem Xk:(jZ w).getD 23 .any=int (w.most:Nat):=(rfl)
theorem VR:(jZ w).take 2=aV w.x.net:=(rfl)
theorem aiR:(jZ w).take 6=aL w.x:=(rfl)
theorem adQ:((jZ w).drop 7).take 14=aY w.t:=(rfl)
theorem Vr:(jZ w).take 24=jZ w:=(rfl)
end
attribute [go_sem] lT Yt aaA PN bV VZ U9 UF Vq UT V8 Wh OE Dk adG ahE afO Yw Z1 Zt Yp Yv Yl ZL aaE ZI Yc ZF M6 Xk VR aiR adQ Vr
def iN(c d:Clk):Bool:=c.ready == d.ready&&decide (c.since<=d.since)
def xT(n:Network)(t:VType)(place goal:Int)(s:List Clk×Int)(c:Clk):List Clk×Int:=
 if((dH n t.profile place goal c.ready).2.2 == 0&&decide (W (W (c.since+(dH n t.profile place goal c.ready).1)-c.ready)<=t.drive))=true
 then(s.1++[⟨(dH n t.profile place goal c.ready).1,W (W (c.since+(dH n t.profile place goal c.ready).1)-c.ready)⟩],(dH n t.profile place goal c.ready).2.1)else s
def oL(t:VType)(c:Clk):Clk:=⟨W (c.ready+t.rest),0⟩
def Ck(n:Network)(t:VType)(place goal:Int)(s:List Clk×Int)(c:Clk):List Clk×Int:=xT n t place goal (xT n t place goal s c) (oL t c)
def bI(n:Network)(t:VType)(place goal:Int)(l:List Clk):List Clk×Int:=l.foldl (Ck n t place goal) ([],0)
def gK(s:Stop)(a:Int):Int×Int:=if gA a s.start>s.close then(0,14)else(W (gA a s.start+s.service),0)
def AR(s:Stop)(out:List Clk)(c:Clk):List Clk:=
 if((gK s c.ready).2 != 0)=true then out
 else if(out.any fun d=>iN d ⟨(gK s c.ready).1,c.since⟩)=true then out
 else(out.filter fun d=> !iN ⟨(gK s c.ready).1,c.since⟩ d)++[⟨(gK s c.ready).1,c.since⟩]
def eC(s:Stop)(l:List Clk):List Clk:=l.foldl (AR s) []
def rI(near:List Int)(m o:Nat):Nat:=(m &&& (near.getD o 0).toNat) ||| 2^o
def dU(a:Int)(kind:Nat):Int:=if(a != -1&&a != (kind:Int))=true then 1 else 0
def addV(a:ByteArray)(n:Int):ByteArray:=(Bb a (zed n)).1
def aF(x:Instance)(o:Nat):Order:=x.orders.getD o ⟨ByteArray.empty,[],⟨0,0,0,0⟩,⟨0,0,0,0⟩,0,0,0,0,0,false⟩
def Ax(a:ByteArray)(o:Nat):Option (List ByteArray)->ByteArray
 | none=>a
 | some l=>(yS a (l.getD o ByteArray.empty)).1
def fO(w:Wk)(p:Part)(o:Nat):Part×Bool:=
 if(gL (p.memory:Nat) (o:Nat)||gL (p.board:Nat) (o:Nat))=true then(p,false)
 else({ p with memory:=rI w.near p.memory o,value:=Ax (addV p.value ((dU (aF w.x o).now w.kind*16+dU (aF w.x o).last w.kind)*65536)) o w.dual },true)
def AS(b o:Nat):Nat:=b ^^^ (b &&& 2^o)
def gO(o:Order):Bool:=decide (o.pick.place>=0)&&decide (o.drop.place>=0)
def fW(w:Wk)(p:Part)(o:Nat)(drop:Bool):Part×Bool:=
 if drop=false then
   ({ p with load:=pC p.load (aF w.x o).load,board:=if gO (aF w.x o)=true then p.board ||| 2^o else p.board },fE (pC p.load (aF w.x o).load) w.t.cap)
 else if gO (aF w.x o)=true then
   if gL (p.board:Nat) (o:Nat)=true then({ p with load:=rS p.load (aF w.x o).load,board:=AS p.board o },fE (rS p.load (aF w.x o).load) w.t.cap)else(p,false)
 else(p,fE p.load w.t.cap)
def goP(w:Wk)(p:Part)(s:Stop):Part×Bool:=
 let d:=bI w.x.net w.t p.place s.place p.clocks
 ({ p with clocks:=eC s d.1,place:=s.place,visits:=p.visits+1,value:=addV p.value (W (W (w.t.perMile*d.2)*16777216)) },decide ((eC s d.1).length>0))
def cH(w:Wk)(p:Part)(v:Visit):Part×Bool:=
 if(decide ((p.visits:Int)>=(w.most:Int))||(aF w.x v.order.toNat).off|| !mU w.t.skills (aF w.x v.order.toNat).skills)=true then(p,false)
 else
   let s:=if(!v.drop||decide ((aF w.x v.order.toNat).pick.place<0))=true then fO w p v.order.toNat else(p,true)
   if s.2=true then
     let l:=fW w s.1 v.order.toNat v.drop
     if l.2=true then(if((dD w.x v).2 != 0)=true then(l.1,false)else goP w l.1 (dD w.x v).1)else(l.1,false)
   else(s.1,false)
def lL(close:Int)(out:Int)(c:Clk):Int:=if(decide (c.ready<=close)&&(decide (out<0)||decide (c.ready<out)))=true then c.ready else out
def iR(w:Wk)(p:Part):Int×Int×Bool:=
 if((p.visits:Int) == 0||(p.board:Int) != 0)=true then(0,0,false)
 else
   let d:=bI w.x.net w.t p.place w.t.dst p.clocks
   (d.1.foldl (lL w.t.close) (-1),d.2,decide (d.1.foldl (lL w.t.close) (-1)>=0))
def JI(w:Wk)(e:Int):Int:=W (e-w.t.start)
def XT(w:Wk)(e miles:Int):Int:=W (W (w.t.fixed+W (w.t.perMile*miles))+W (w.t.perTick*JI w e))
def oY(w:Wk)(p:Part)(e miles:Int):ByteArray:=
 addV p.value (W (W (XT w e miles*16777216)+W (W (Int.tdiv (JI w e) 64)*W (Int.tdiv (JI w e) 64))))
def uL(p q:Part):Bool:=
 if(p.place != q.place||(p.board:Int) != (q.board:Int)|| !decide (p.memory &&& q.memory=p.memory)||decide ((p.visits:Int)>(q.visits:Int))|| !fE p.load q.load||decide (xW p.value q.value>0))=true then false
 else q.clocks.all fun d=>p.clocks.any fun c=>iN c d
def dV(x:Instance):List Visit:=(List.range x.orders.length).flatMap fun i=>if(aF x i).off=true then[]else eM x.orders (i:Nat)
def fC(w:Wk):Part:=⟨w.t.src,0,0,0,List.replicate w.t.cap.length 0,[⟨w.t.start,0⟩],dec 0⟩
structure Srch where
 known:List Part
 more:List Part
 best:ByteArray
 found:Bool
def Bi(w:Wk)(s:Srch)(q:Part):Srch:=
 let e:=iR w q
 let r:=oY w q e.1 e.2.1
 if(e.2.2&&(!s.found||decide (xW r s.best<0)))=true then { known:=s.known++[q],more:=s.more++[q],best:=r,found:=true }else { s with known:=s.known++[q],more:=s.more++[q] }
def vV(w:Wk)(p:Part)(s:Srch)(v:Visit):Srch:=
 let q:=cH w p v
 if(!q.2||s.known.any fun k=>uL k q.1)=true then s else Bi w s q.1
def A0(w:Wk)(vs:List Visit)(s:Srch)(fresh:List Part):Srch:=fresh.foldl (fun s p=>vs.foldl (vV w p) s) { s with more:=[] }
def kN(w:Wk)(vs:List Visit):Nat->Srch->List Part->Srch
 | 0,s,_=>s
 | n+1,s,fresh=>if fresh=[]then s else kN w vs n (A0 w vs s fresh) (A0 w vs s fresh).more
end Go.Proofs.YtdlijlecpopadaaGreatDoor.Rx
end
section
namespace Go.Proofs.YtdlijlecpopadaaGreatDoor.Rx
open Go.Proofs.Tryz(prog)
open Go.Aw Go.Aw.D Go.Proofs Ty Go.Nu
open Sq (W dH mU pC rS fE eM dD gL NetOk)
open Nu (zG uE AF ltB geB)
theorem adS{a b:Nat}(I:a<2^63)(E:b<2^63):pX .and .i64 (a:Int) (b:Int)=((a &&& b:Nat):Int):=by
 have h:((BitVec.ofInt 64 (a:Int) &&& BitVec.ofInt 64 (b:Int)).toNat:Int)=((a &&& b:Nat):Int):=by
   rw[BitVec.toNat_and,BitVec.toNat_ofInt,BitVec.toNat_ofInt];have h1:((a:Int)%((2^64:Nat):Int)).toNat=a:=by omega
   have F:((b:Int)%((2^64:Nat):Int)).toNat=b:=by omega
   rw[h1,F]
 refine Eq.trans (congrArg IntKind.i64.wrap h) ?_;have:=Nat.and_lt_two_pow a E;exact aW (by omega)
theorem JB(a:Int)(kind:Nat):PC prog 148 [int a,int (kind:Nat)] (int (dU a kind)):=by
 have e:dU a kind=if(a != -1&&a != (kind:Int))=true then 1 else 0:=rfl
 generalize dU a kind=D at e;refine pcd Tryz.func148 ?_;unfold Tryz.f148;simp only[gdS];simp only[go_sem];refine aB (fun E=>?_) (fun E=>?_)
 . rw[if_pos E]at e
   subst e;simp only[go_sem];exact .refl _
 . rw[if_neg (by rw[E];simp)]at e
   subst e;simp only[go_sem];exact .refl _
theorem Gb(c d:Clk):PC prog 100 [.agg (cP c),.agg (cP d)] (boo (iN c d)):=by
 refine pcd Tryz.func100 ?_;unfold Tryz.f100;simp only[gdS];simp only[go_sem];exact .refl _
theorem eV{H:aJ}{i j:Nat}{a b:Row}(hi:H i=some a)(E:H j=some b)(F:(a.e == b.e)=false):i≠j:=fun e=>by
 subst e;rw[hi]at E;rw[congrArg Row.e (Option.some.inj E)]at F;simp at F
structure NearB(near:List Int):Prop where
 len:near.length<=62
 num:∀n∈near,0<=n/\n<4611686018427387904
theorem Gf(near:List Int)(m o:Nat)(F:o<near.length)(h:NearB near)(J:m<2^62):PC prog 15 [.sl (near.map aR),int (m:Nat),int (o:Nat)] (int (rI near m o:Nat)):=by
 obtain⟨n,E⟩:=aQ F;have Y:=inB F;have hl:=h.len;have Z:=h.num n (Xad E);obtain⟨N,rfl⟩:=Int.eq_ofNat_of_zero_le Z.1;have I:=inB F;have e:rI near m o=(m &&& N) ||| 2^o:=by unfold rI;rw[List.getD,E];rfl
 generalize rI near m o=D at e;subst e;have O:2^o<2^63:=Xbz (by decide) (by omega);have X:m &&& N<2^63:=Xbb Xcw (Nat.lt_trans J (by decide));refine pcd Tryz.func15 ?_;unfold Tryz.f15;simp only[gdS];simp only[go_sem];refine aB (fun I=>?_) (fun I=>?_)
 . simp at I;omega
 simp only[go_sem];refine lO [(0,true),(1,true),(2,true),(3,true),(4,true),(5,true),(6,true),(7,true),(8,true),(9,true)] (by kernel_rfl) ?_;simp only[go_sem,aH E,Y,Sq.C8 (show o<=62 by omega),adS (show m<2^63 from Nat.lt_trans J (by decide)) (show N<2^63 by omega),Sq.Gv X O];exact .refl _
abbrev nF(w:Wk):Row:=⟨89,24,[jZ w]⟩
abbrev zF(c:Clk):Row:=⟨157,2,[cP c]⟩
abbrev tH(l:List Clk):Row:=⟨157,2,l.map cP⟩
theorem aoO{n:Int}(h0: -9223372036854775808<=n)(h1:n<=9223372036854775807):(zed n).size<=8194:=by
 have:=Go.Nu.jF (m:=n) (K0 (k:=20) (by omega) (by omega));omega
theorem QT(H:aJ)(E:AV)(a:ByteArray)(n:Int)(F:a.size<=1048576)(h0: -9223372036854775808<=n)(h1:n<=9223372036854775807):LC prog 94 [E,str a,int n] H (str (addV a n)):=by
 have I:=aoO h0 h1;refine LC.body (c:=Tryz.f94.body.getD .skip) (fun _=>false) mixed Tryz.func94 rfl (by kernel_rfl) ?_;unfold Tryz.f94;simp only[gdS];simp only[go_sem];refine PC.use (AF n h0 h1) ?_;simp only[go_sem];refine PC.use (zG a (zed n) F (by omega)) ?_;simp only[go_sem];exact rA.flat (Sup.refl _) _
def KF(n:Network)(t:VType)(place goal:Int)(s:List Clk×Int)(c:Clk):Nat->(List Clk×Int)×Clk
 | 0=>(s,c)
 | 1=>(xT n t place goal s c,c)
 | _=>(Ck n t place goal s c,oL t c)
theorem FC(n:Network)(t:VType)(place goal:Int)(s:List Clk×Int)(c:Clk):(xT n t place goal s c).1.length<=s.1.length+1:=by
 unfold xT;split
 . simp
 . omega
theorem Nt(n:Network)(t:VType)(place goal:Int)(s:List Clk×Int)(c:Clk):∀k,(KF n t place goal s c k).1.1.length<=s.1.length+k
 | 0=>Xag _
 | 1=>FC n t place goal s c
 | k+2=>by
   have h1:=FC n t place goal s c;have E:=FC n t place goal (xT n t place goal s c) (oL t c);show(Ck n t place goal s c).1.length<=_;unfold Ck;omega
theorem BU(n:Network)(t:VType)(place goal:Int)(l:List Clk):∀k,((l.take k).foldl (Ck n t place goal) ([],0)).1.length<=2*k
 | 0=>by simp
 | k+1=>by
   have h:=BU n t place goal l k;by_cases F:k<l.length
   . obtain⟨c,E⟩:=aQ F
     rw[Sq.eY E];have:=Nt n t place goal ((l.take k).foldl (Ck n t place goal) ([],0)) c 2;exact Xah this (by omega)
   . rw[Xaw (by omega)]
     rw[Xaw (by omega)]at h;omega
theorem Pf(l:List Clk)(a b:Int):(⟨157,2,l.map cP++[[int a,int b]]⟩:Row)=tH (l++[(⟨a,b⟩:Clk)]):=by
 show _=(⟨157,2,(l++[(⟨a,b⟩:Clk)]).map cP⟩:Row);rw[Xat];rfl
theorem SZ(H0:aJ)(jw:Nat)(w:Wk)(hw:H0 jw=some (nF w))(p:Part)(goal:Int)(hn:NetOk w.x.net)(hl:p.clocks.length<=1048576):
   LC prog 92 [.op jw 0 0,.agg (cC p),int goal] H0 (.tup [.sl ((bI w.x.net w.t p.place goal p.clocks).1.map cP),int (bI w.x.net w.t p.place goal p.clocks).2]):=by
 refine LC.body (c:=Tryz.f92.body.getD .skip) (fun t=>t == 8) mixed Tryz.func92 rfl (by kernel_rfl) ?_;unfold Tryz.f92;simp only[gdS];simp only[go_sem];have U:=Sup.refl H0;refine aN fun j a7=>?_
 have a8:=U.none a7;generalize a0:aI _ j _=HGj;replace U:=Sup.eq (U.upd a8 _) a0;have R:HGj j=some (tH []):=by rw[<-a0,aA];try rfl
 clear a0 a7;simp only[go_sem,R];refine⟨fun ρ H=>∃(k:Nat) (j:Nat),k<=p.clocks.length/\ρ 0=.op jw 0 0/\ρ 2=int goal/\ρ 4=.rp (cC p) 0/\ρ 19=.sl (p.clocks.map cP)/\ρ 20=int (p.clocks.length:Nat)/\ρ 21=int k/\ρ 8=.os j/\ρ 9=int ((p.clocks.take k).foldl (Ck w.x.net w.t p.place goal) ([],0)).2/\Sup H0 H/\H0 j=none/\H j=some (tH ((p.clocks.take k).foldl (Ck w.x.net w.t p.place goal) ([],0)).1),fun ρ _=>p.clocks.length-aX (ρ 21),⟨0,j,Xab _,by simp only[go_sem],by simp only[go_sem],by simp only[go_sem],by simp only[go_sem],by simp only[go_sem,Xaa],(by simp only[go_sem];rfl),by simp only[go_sem],by simp only[go_sem];rfl,U,a8,R⟩,?_⟩;rintro ρ H ⟨k,j,hk,e0,e2,Z,I,E,F,Y,O,U,nj,R⟩;simp only[go_sem,e0,e2,Z,I,E,F,Y,O];refine aB (fun al=>?_) (fun am=>?_)
 . have al:=ltB (by simpa using al)
   obtain⟨c,hc⟩:=aQ al;have b1:=inB al;have hs:=Sq.eY (f:=Ck w.x.net w.t p.place goal) (b:=(([],0):List Clk×Int)) hc;have bc:=BU w.x.net w.t p.place goal p.clocks k;generalize (p.clocks.take k).foldl (Ck w.x.net w.t p.place goal) ([],0)=s at *;simp only[go_sem,e0,e2,Z,I,E,F,Y,O,aH hc,b1];refine aN fun ad ak=>?_
   have ab:j≠ad:=aO R ak;simp only[go_sem,e0,e2,Z,I,E,F,Y,O,R];refine aM (aA _ _ _) (by simp[lT]) ?_;have ah:=U.none ak;generalize aj:aI (aI _ ad _) ad _=HGi11;replace U:=Sup.eq ((U.upd ah _).upd ah _) aj;replace R:=(congrFun aj.symm j).trans ((aD _ _ _ _ ab).trans ((aD _ _ _ _ ab).trans R));have X:HGi11 ad=some (zF c):=by rw[<-aj,aA];try rfl
   clear aj ak;simp only[go_sem,e0,e2,Z,I,E,F,Y,O,X,R];generalize be:k=k0 at *;refine⟨fun ρ H=>∃(k:Nat) (j:Nat),k<=2/\ρ 0=.op jw 0 0/\ρ 2=int goal/\ρ 4=.rp (cC p) 0/\ρ 11=.op ad 0 0/\ρ 19=.sl (p.clocks.map cP)/\ρ 20=int (p.clocks.length:Nat)/\ρ 21=int (k0:Nat)/\ρ 25=.sl [[.v (.bool false)],[.v (.bool true)]]/\ρ 26=int (2:Nat)/\ρ 27=int k/\ρ 8=.os j/\ρ 9=int (KF w.x.net w.t p.place goal s c k).1.2/\Sup H0 H/\H0 j=none/\H j=some (tH (KF w.x.net w.t p.place goal s c k).1.1)/\H ad=some (zF (KF w.x.net w.t p.place goal s c k).2)/\j≠ad,fun ρ _=>2-aX (ρ 27),⟨0,j,Xab _,by simp only[go_sem,e0,e2,Z,I,E,F,Y,O],by simp only[go_sem,e0,e2,Z,I,E,F,Y,O],by simp only[go_sem,e0,e2,Z,I,E,F,Y,O],by simp only[go_sem,e0,e2,Z,I,E,F,Y,O],by simp only[go_sem,e0,e2,Z,I,E,F,Y,O],by simp only[go_sem,e0,e2,Z,I,E,F,Y,O],by simp only[go_sem,e0,e2,Z,I,E,F,Y,O],by simp only[go_sem,e0,e2,Z,I,E,F,Y,O],by simp only[go_sem,Xaa,e0,e2,Z,I,E,F,Y,O],(by simp only[go_sem,e0,e2,Z,I,E,F,Y,O];rfl),by simp only[go_sem,Y],by simp only[go_sem,O];rfl,U,nj,R,X,ab⟩,?_⟩;rintro ρ H ⟨k,j,hk,e0,e2,Z,ac,I,E,F,aa,af,ae,Y,O,U,nj,R,X,ax⟩;simp only[go_sem,e0,e2,Z,ac,I,E,F,aa,af,ae,Y,O];refine aB (fun al=>?_) (fun am=>?_)
   . have a6:k<2:=by have:=of_decide_eq_true al;omega
     have an:=U.at hw;have ne:jw≠ad:=Sup.ne (Sup.refl H0) hw ah;have b2:((0:Int)<=(k:Nat)/\((k:Nat):Int)<((2:Nat):Int)):=by omega
     have ba:(KF w.x.net w.t p.place goal s c k).1.1.length<=2*k0+k:=by
       have:=Nt w.x.net w.t p.place goal s c k;omega
     have a5:KF w.x.net w.t p.place goal s c (k+1)=(xT w.x.net w.t p.place goal (KF w.x.net w.t p.place goal s c k).1 (if k=0 then c else oL w.t c),if k=0 then c else oL w.t c):=by
       obtain rfl|rfl:k=0\/k=1:=by omega
       . rfl
       . rfl
     have bb:(KF w.x.net w.t p.place goal s c k).2=c:=by
       obtain rfl|rfl:k=0\/k=1:=by omega
       . rfl
       . rfl
     have a4:([[.v (.bool false)],[.v (.bool true)]]:List (List AV)).getD k []=[.v (.bool (decide (k=1)))]:=by
       obtain rfl|rfl:k=0\/k=1:=by omega
       . rfl
       . rfl
     rw[bb]at X;generalize KF w.x.net w.t p.place goal s c k=s2 at *;simp only[go_sem,e0,e2,Z,ac,I,E,F,aa,af,ae,Y,O,a4,b2,Xac,List.length_nil];refine bH (fun J H'=>J 0=ρ 0/\J 2=ρ 2/\J 4=ρ 4/\J 11=ρ 11/\J 19=ρ 19/\J 20=ρ 20/\J 21=ρ 21/\J 25=ρ 25/\J 26=ρ 26/\J 27=ρ 27/\J 8=ρ 8/\J 9=ρ 9/\H' ad=some (zF (if k=0 then c else oL w.t c))/\H' j=some (tH s2.1.1)/\Sup H0 H') ?_ fun K hK=>aB (fun hb=>?_) (fun hb=>?_)
     rotate_left
     . have ay:(if k=0 then c else oL w.t c)=oL w.t c:=if_neg (show ¬k=0 by simp at hb;omega)
       rw[ay]at hK;refine dP [jw] [(0,true),(2,true),(3,true),(4,true),(5,true),(6,true),(1,false),(7,false),(8,false),(9,false)] (by simp[an]) (by kernel_rfl) fun Hp Hr hp hr _ a9=>?_
       have ai:=(hp jw (by simp)).trans an;have ag:=(hr ad (by simp[ne.symm])).trans X;simp only[go_sem,e0,e2,Z,ac,I,E,F,aa,af,ae,Y,O,ai,ag];refine aM ag (by simp) ?_;refine iM hr (by simp[ne.symm]) ?_;refine hK _ _ ⟨by simp only[go_sem],by simp only[go_sem],by simp only[go_sem],by simp only[go_sem],by simp only[go_sem],by simp only[go_sem],by simp only[go_sem],by simp only[go_sem],by simp only[go_sem],by simp only[go_sem],by simp only[go_sem],by simp only[go_sem],aA _ _ _,(aD _ _ _ _ ax).trans R,U.upd ah _⟩
     . have ay:(if k=0 then c else oL w.t c)=c:=if_pos (show k=0 by simp at hb;omega)
       rw[ay]at hK;refine hK _ _ ⟨by simp only[go_sem],by simp only[go_sem],by simp only[go_sem],by simp only[go_sem],by simp only[go_sem],by simp only[go_sem],by simp only[go_sem],by simp only[go_sem],by simp only[go_sem],by simp only[go_sem],by simp only[go_sem],by simp only[go_sem],X,R,U⟩
     rintro ρ H ⟨k0,k2,k4,au,ap,ao,aw,av,aq,ar,k8,k9,X,R,U⟩;replace e0:=k0.trans e0;clear k0;replace e2:=k2.trans e2;clear k2;replace Z:=k4.trans Z;clear k4;replace ac:=au.trans ac;clear au;replace I:=ap.trans I;clear ap;replace E:=ao.trans E;clear ao;replace F:=aw.trans F;clear aw;replace aa:=av.trans aa;clear av;replace af:=aq.trans af;clear aq;replace ae:=ar.trans ae;clear ar;replace Y:=k8.trans Y;clear k8;replace O:=k9.trans O;clear k9;generalize ay:(if k=0 then c else oL w.t c)=cc at *;have an:=U.at hw;refine dP [jw] [(0,true),(1,true),(2,true),(3,true),(4,true),(5,true),(6,true),(7,true),(8,true),(9,true),(10,true),(11,true),(12,true),(13,false),(14,false),(15,false),(16,false),(17,true),(18,true),(19,true),(20,false),(21,false),(22,false)] (by simp[an]) (by kernel_rfl) fun Hp Hr hp hr _ a9=>?_
     have ai:=(hp jw (by simp)).trans an;have ag:=(hr ad (by simp[ne.symm])).trans X;simp only[go_sem,e0,e2,Z,ac,I,E,F,aa,af,ae,Y,O,ai,ag];refine PC.use (Sq.TO w.x.net w.t.profile p.place goal cc.ready hn) ?_;simp only[go_sem,e0,e2,Z,ac,I,E,F,aa,af,ae,Y,O,ai,ag];refine iY hr ?_;simp only[go_sem,e0,e2,Z,ac,I,E,F,aa,af,ae,Y,O,X,an];refine hU (fun J H'=>∃(j':Nat),J 0=ρ 0/\J 2=ρ 2/\J 4=ρ 4/\J 11=ρ 11/\J 19=ρ 19/\J 20=ρ 20/\J 21=ρ 21/\J 25=ρ 25/\J 26=ρ 26/\J 27=ρ 27/\J 8=.os j'/\J 9=int (xT w.x.net w.t p.place goal s2.1 cc).2/\H' j'=some (tH (xT w.x.net w.t p.place goal s2.1 cc).1)/\Sup H0 H'/\H0 j'=none/\H' ad=some (zF cc)/\j'≠ad) ?_ fun K hK bd bf=>aB (fun hb=>?_) (fun hb=>?_)
     rotate_left
     . have hd:xT w.x.net w.t p.place goal s2.1 cc=(s2.1.1++[⟨(dH w.x.net w.t.profile p.place goal cc.ready).1,W (W (cc.since+(dH w.x.net w.t.profile p.place goal cc.ready).1)-cc.ready)⟩],(dH w.x.net w.t.profile p.place goal cc.ready).2.1):=if_pos hb
       rw[hd]at hK;simp only[go_sem,e0,e2,Z,ac,I,E,F,aa,af,ae,Y,O];refine bG R ⟨rfl,rfl⟩ (by simp only[go_sem]) (by simp only[Xaa,Xac,List.length_nil];omega) (fun j' az=>?_);simp only[go_sem,e0,e2,Z,ac,I,E,F,aa,af,ae,Y,O];refine hK _ _ ⟨j',by simp only[go_sem],by simp only[go_sem],by simp only[go_sem],by simp only[go_sem],by simp only[go_sem],by simp only[go_sem],by simp only[go_sem],by simp only[go_sem],by simp only[go_sem],by simp only[go_sem],by simp only[go_sem],by simp only[go_sem],(aA _ _ _).trans (congrArg some (Pf _ _ _)),(U.upd nj _).upd (U.none az) _,U.none az,(aD _ _ _ _ (aO X az)).trans ((aD _ _ _ _ ax.symm).trans X),(aO X az).symm⟩
     . have hd:xT w.x.net w.t p.place goal s2.1 cc=s2.1:=if_neg (fun h=>Bool.noConfusion (hb.symm.trans h))
       rw[hd]at hK;refine hK _ _ ⟨j,by simp only[go_sem],by simp only[go_sem],by simp only[go_sem],by simp only[go_sem],by simp only[go_sem],by simp only[go_sem],by simp only[go_sem],by simp only[go_sem],by simp only[go_sem],by simp only[go_sem],by simp only[go_sem,Y],by simp only[go_sem,O],R,U,nj,X,ax⟩
     rintro ρ H ⟨j',k0,k2,k4,au,ap,ao,aw,av,aq,ar,Y,O,R,U,nj,X,ax⟩;replace e0:=k0.trans e0;clear k0;replace e2:=k2.trans e2;clear k2;replace Z:=k4.trans Z;clear k4;replace ac:=au.trans ac;clear au;replace I:=ap.trans I;clear ap;replace E:=ao.trans E;clear ao;replace F:=aw.trans F;clear aw;replace aa:=av.trans aa;clear av;replace af:=aq.trans af;clear aq;replace ae:=ar.trans ae;clear ar;simp only[go_sem,e0,e2,Z,ac,I,E,F,aa,af,ae,Y,O,aS (show k<=4611686018427387904 by omega)];refine⟨⟨k+1,j',a6,rfl,?_⟩,by simp only[aG];omega⟩;rw[a5];exact⟨rfl,rfl,U,nj,R,X,ax⟩
   have am:k=2:=by have:=of_decide_eq_false am;omega
   subst am;simp only[go_sem,e0,e2,Z,I,E,F,Y,O,aS (show k0<=4611686018427387904 by omega)];refine⟨⟨k0+1,j,al,rfl,rfl,?_⟩,by simp only[aG];omega⟩;rw[hs];exact⟨rfl,U,nj,R⟩
 have am:=geB hk (by simpa using am);subst am;rw[Xaf]at O R;simp only[go_sem,e0,e2,Z,I,E,F,Y,O];refine⟨U,[j],by simpa using nj,.tup _ _ (.cons _ _ _ _ (.row _ _ _ (by simp;exact R) (ConvE.refl _)) (.cons _ _ _ _ (.refl _) .nil))⟩
end Go.Proofs.YtdlijlecpopadaaGreatDoor.Rx
end
