import Derived.Lib.ItoaMem
import Derived.Test.YtohmomanmikphaaGreatDoorPf10
import Derived.Test.YtohmomanmikphaaGreatDoorPf13
set_option linter.unusedSimpArgs false
set_option linter.unusedVariables false
set_option maxRecDepth 100000
section
namespace Go.Aw
open Go.RowKit
section
variable{P:Program}{f:FuncId}{args:List AV}{H:aG}{K:AV->aG->Prop}
def WC(P:Program)(f:FuncId)(args:List AV)(Φ:AV->Prop):Prop:=RC P f args fun x _=>Φ x
theorem PC.w{r:AV}{u:AV->Prop}(h:PC P f args r)(O:u r):WC P f args u:=fun S w vals M E I=>
 (h S w vals M E I).mono fun e w' ⟨v,x,H',S',F,J,q⟩=>⟨v,x,H',S',F,J▸O,q⟩
theorem YV{S:Sg}{w:World}{v:Value}(h:rep S w (.v (.slice none 0 0)) v):rep S w (.sl []) v:=by
 have u:v=.slice none 0 0:=by simp only[rep]at h;exact h
 subst u;simp only[rep];exact⟨none,0,0,rfl,rfl,Nat.le_refl _,Nat.zero_le _,.inl trivial⟩
theorem aX.nil0{E:List AV}(h:aX P f (.sl []::E) H K):aX P f (.v (.slice none 0 0)::E) H K:=fun S w vals I F=>h S w vals I (by
 simp only[bF]at F |-;obtain⟨u,t,e,h1,J⟩:=F;exact⟨u,t,e,YV h1,J⟩)
end
end Go.Aw
end
section
namespace Go.Proofs.YtohmomanmikphaaGreatDoor.Sq
open Go.Proofs.Tryz(prog)
open Go.Aw Go.Aw.D Go.Proofs Ty
open Go.Nu (iK)
open Go.Proofs.YtohmomanmikphaaGreatDoor.Nu (ltB geB BT)
open Mv (bW cN NC.pc aT)
def Mm(v:Visit):Int:=if v.drop=true then 1 else 0
def or2(a b:Int):Int:=if a=0 then b else a
def mQ(a b:Visit):Int:=or2 (iK a.order b.order) (iK (Mm a) (Mm b))
def RB:List Visit->List Visit->Int
 | [],[]=>0
 | [],_::_=> -1
 | _::_,[]=>1
 | a::l,b::m=>or2 (mQ a b) (RB l m)
def Q2:List Int->Int
 | []=>0
 | a::l=>if a=0 then Q2 l else a
theorem wI{α:Type}{l:List α}{k:Nat}{u:α}(h:l[k]?=some u):l.drop k=u::l.drop (k+1):=by
 obtain⟨E,rfl⟩:=List.getElem?_eq_some_iff.1 h;rw[List.drop_eq_getElem_cons E]
theorem aiQ(l:List Int)(hl:l.length<=1048576):PC prog 324 [.sl (l.map bN)] (int (Q2 l)):=by
 refine pcd Tryz.func324 ?_;unfold Tryz.f324;simp only[gdS];simp only[go_sem];refine⟨fun ρ H=>∃(k:Nat),k<=l.length/\ρ 3=int 0/\ρ 6=.sl (l.map bN)/\ρ 7=int (l.length:Nat)/\ρ 8=int k/\Q2 l=Q2 (l.drop k),fun ρ _=>l.length-aV (ρ 8),⟨0,Xac _,by simp only[go_sem],by simp only[go_sem],by simp only[go_sem,Xaa],(by simp only[go_sem];rfl),rfl⟩,?_⟩;rintro ρ H ⟨k,hk,O,I,T,J,M⟩;simp only[go_sem,O,I,T,J];refine aB (fun E=>?_) (fun F=>?_)
 . have E:=ltB E
   obtain⟨u,hu⟩:=aN E;have b1:=inB E;rw[wI hu,Q2]at M;simp only[go_sem,O,I,T,J,aE hu,b1];refine aB (fun Z=>?_) (fun Z=>?_)
   . simp only[go_sem,O,I,T,J]
     exact bW (by rw[M,if_neg (by simpa using Z)])
   . rw[if_pos (by simpa using Z)]at M
     simp only[go_sem,O,I,T,J,aP (show k<=4611686018427387904 by omega)];exact⟨⟨k+1,E,rfl,M⟩,by simp only[aF];omega⟩
 . have F:=geB hk F
   subst F;simp only[go_sem,O,I,T,J];exact bW (by rw[M,Xbw];rfl)
theorem Vx(v:Visit):PC prog 323 [.agg (aK v)] (int (Mm v)):=by
 refine pcd Tryz.func323 ?_;unfold Tryz.f323;simp only[gdS];simp only[go_sem];unfold Mm;refine aB (fun u=>?_) (fun u=>?_)
 . simp only[go_sem,u]
   exact bW (by simp)
 . simp only[go_sem,u]
   exact bW (by simp)
theorem MD(a b:Visit):PC prog 279 [.agg (aK a),.agg (aK b)] (int (mQ a b)):=by
 refine pcd Tryz.func279 ?_;unfold Tryz.f279;simp only[gdS];simp only[go_sem];refine Dn (by kernel_rfl) ?_;simp only[go_sem];refine⟨_,(BT a.order b.order).q rfl,?_⟩;simp only[go_sem];refine⟨_,(Vx a).q rfl,?_⟩;simp only[go_sem];refine⟨_,(Vx b).q rfl,?_⟩;simp only[go_sem];refine⟨_,(BT (Mm a) (Mm b)).q rfl,?_⟩;simp only[go_sem];refine PC.use (aiQ [iK a.order b.order,iK (Mm a) (Mm b)] (by simp)) ?_;simp only[go_sem];refine bW ?_;unfold mQ or2;simp only[Q2];split
 . split
   . next h=>exact h.symm
   . rfl
 . rfl
theorem YY(a b:List Visit)(ha:a.length<=1048576):PC prog 278 [.sl (a.map aK),.sl (b.map aK),.v (.func (.func 279) #[] #[])] (int (RB a b)):=by
 have ai:aC prog 279=true:=by kernel_rfl
 refine pcd Tryz.func278 ?_;unfold Tryz.f278;simp only[gdS];simp only[go_sem];refine⟨fun ρ H=>∃(k:Nat),k<=a.length/\ρ 0=.sl (a.map aK)/\ρ 1=.sl (b.map aK)/\ρ 2=.v (.func (.func 279) #[] #[])/\ρ 11=.sl (a.map aK)/\ρ 12=int (a.length:Nat)/\ρ 13=int k/\RB a b=RB (a.drop k) (b.drop k)/\k<=b.length,fun ρ _=>a.length-aV (ρ 13),⟨0,Xac _,by simp only[go_sem],by simp only[go_sem],by simp only[go_sem],by simp only[go_sem],by simp only[go_sem,Xaa],(by simp only[go_sem];rfl),rfl,Xac _⟩,?_⟩;rintro ρ H ⟨k,hk,Z,O,T,I,E,F,hz,aj⟩;simp only[go_sem,Z,O,T,I,E,F];refine aB (fun aa=>?_) (fun ae=>?_)
 . have aa:=ltB (by simpa using aa)
   obtain⟨u,hu⟩:=aN aa;have b1:=inB aa;rw[wI hu]at hz;simp only[go_sem,Z,O,T,I,E,F,aE hu,b1];refine aM fun i8 ag=>?_
   simp only[go_sem,Z,O,T,I,E,F];refine aJ (aA _ _ _) (by simp[cU]) ?_;generalize ad:aI (aI _ i8 _) i8 _=HGi8;have R8:HGi8 i8=some ((⟨119,2,[aK u]⟩:Row)):=by rw[<-ad,aA];try rfl
   clear ad ag;simp only[go_sem,Z,O,T,I,E,F,R8];refine aB (fun M=>?_) (fun M=>?_)
   . have ah:b.length<=k:=by simpa using M
     simp only[go_sem,Z,O,T,I,E,F];refine bW ?_;rw[hz,List.drop_of_length_le ah];rfl
   have af:k<b.length:=by simpa using M
   obtain⟨v,hv⟩:=aN af;have b2:=inB af;rw[wI hv]at hz;simp only[go_sem,Z,O,T,I,E,F,aE hv,b2];refine aM fun i9 ac=>?_
   have J:i8≠i9:=aO R8 ac;simp only[go_sem,Z,O,T,I,E,F,R8];refine aJ (aA _ _ _) (by simp[cU]) ?_;generalize ab:aI (aI _ i9 _) i9 _=HGi9;replace R8:=(congrFun ab.symm i8).trans ((aD _ _ _ _ J).trans ((aD _ _ _ _ J).trans R8));have R9:HGi9 i9=some ((⟨119,2,[aK v]⟩:Row)):=by rw[<-ab,aA];try rfl
   clear ab ac;simp only[go_sem,Z,O,T,I,E,F,R9,R8];refine PC.use (MD u v) ?_;simp only[go_sem,Z,O,T,I,E,F];refine aB (fun M=>?_) (fun M=>?_)
   . have hc:¬mQ u v=0:=by simpa using M
     simp only[go_sem,Z,O,T,I,E,F];refine bW ?_;rw[hz];show _=or2 (mQ u v) _;unfold or2;rw[if_neg hc]
   . have hc:mQ u v=0:=by simpa using M
     simp only[go_sem,Z,O,T,I,E,F,aP (show k<=4611686018427387904 by omega)];refine⟨⟨k+1,aa,rfl,?_,af⟩,by simp only[aF];omega⟩;rw[hz];show or2 (mQ u v) _=_;unfold or2;rw[if_pos hc]
 have ae:=geB hk (by simpa using ae);subst ae;rw[Xbw]at hz;simp only[go_sem,Z,O,T,I,E,F,Xaa];refine aB (fun M=>?_) (fun M=>?_)
 . have M:a.length<b.length:=by simpa using M
   simp only[go_sem];refine bW ?_;obtain⟨v,hv⟩:=aN M;rw[hz,wI hv];rfl
 . have M:¬a.length<b.length:=by simpa using M
   simp only[go_sem];refine bW ?_;rw[hz,List.drop_of_length_le (by omega)];rfl
theorem Yl(a b:List Visit)(u:a.length<=1048576):PC prog 242 [.sl (a.map aK),.sl (b.map aK)] (boo (decide (RB a b<0))):=by
 refine pcd Tryz.func242 ?_;unfold Tryz.f242;simp only[gdS];simp only[go_sem];refine PC.use (YY a b u) ?_;simp only[go_sem];exact .refl _
end Go.Proofs.YtohmomanmikphaaGreatDoor.Sq
end
section
namespace Go.Proofs.YtohmomanmikphaaGreatDoor.Sq
open Go.Proofs.Tryz(prog)
open Go.Aw Go.Aw.D Go.Proofs Ty
open Go.Proofs.YtohmomanmikphaaGreatDoor.Nu (ltB geB)
open Mv (bW cN NC.pc aT)
def eqV(w v:Visit):Bool:=w.order == v.order&&(w.drop == v.drop&&true)
def qG(l:List Visit)(w:Visit):Bool:= !decide (eV l w<0)
def I8(W l:List Visit)(v:Visit):Bool:=(W.takeWhile fun w=> !eqV w v).all (qG l)
def X8(x:Instance)(l:List Visit)(v:Visit):Bool:=x.before.all fun q=>(q.b != v.order)||(iE x.orders q.a).all (qG l)
def rK(x:Instance)(l:List Visit)(v:Visit):Bool:=(!decide (eV l v>=0)&&I8 (iE x.orders v.order) l v)&&X8 x l v
theorem Qp{α:Type}{p:α->Bool}{W:List α}{k:Nat}(h:∀u∈W.take k,p u=true):W.takeWhile p=W.take k++(W.drop k).takeWhile p:=by
 conv=>lhs;rw[<-Xcb k W]
 exact List.takeWhile_append_of_pos h
theorem Pu{W l:List Visit}{v:Visit}{k:Nat}(h:∀u∈W.take k,eqV u v=false/\qG l u=true):I8 W l v=I8 (W.drop k) l v:=by
 unfold I8;rw[Qp (k:=k) (fun u E=>by rw[(h u E).1];rfl),List.all_append];have:(W.take k).all (qG l)=true:=Xao.2 fun u E=>(h u E).2
 rw[this,Xbj]
theorem YE(x:Instance)(l:List Visit)(v:Visit)(hl:l.length<=1048576)(hb:x.before.length<=1048576):PC prog 243 [.agg (aH x),.sl (l.map aK),.agg (aK v)] (boo (rK x l v)):=by
 refine pcd Tryz.func243 ?_;unfold Tryz.f243;simp only[gdS];simp only[go_sem];refine PC.use (AP l v hl) ?_;simp only[go_sem];refine aB (fun c1=>?_) (fun c1=>?_)
 . simp only[go_sem]
   refine cN ?_;unfold rK;have c1:decide (eV l v>=0)=true:=c1;rw[c1];rfl
 have c1:decide (eV l v>=0)=false:=c1;have hW:=pJ x.orders v.order;simp only[go_sem];refine PC.use (pA x.orders v.order) ?_;simp only[go_sem,Xaa];have hr:rK x l v=(I8 (iE x.orders v.order) l v&&X8 x l v):=by unfold rK;rw[c1];rfl
 generalize iE x.orders v.order=W at *;refine DO (fun ap _=>ap 1=.sl (l.map aK)/\ap 3=.rp (aH x) 0/\ap 5=.rp (aK v) 0/\I8 W l v=true) ?_ fun Q hQ av=>?_
 . rintro ρ H ⟨h1,h3,h5,a0⟩
   rw[a0,Xbj]at hr;simp only[go_sem,h1,h3,h5,Xaa];refine⟨fun ρ H=>∃(k:Nat),k<=x.before.length/\ρ 1=.sl (l.map aK)/\ρ 3=.rp (aH x) 0/\ρ 5=.rp (aK v) 0/\ρ 36=.sl (x.before.map bZ)/\ρ 37=int (x.before.length:Nat)/\ρ 38=int k/\(∀q∈x.before.take k,((q.b != v.order)||(iE x.orders q.a).all (qG l))=true),fun ρ _=>x.before.length-aV (ρ 38),⟨0,Xac _,by simp only[go_sem,h1,h3,h5],by simp only[go_sem,h1,h3,h5],by simp only[go_sem,h1,h3,h5],by simp only[go_sem,h1,h3,h5],by simp only[go_sem,Xaa,h1,h3,h5],(by simp only[go_sem,h1,h3,h5];rfl),by simp⟩,?_⟩;rintro ρ H ⟨k,hk,M,O,J,I,F,E,hz⟩;simp only[go_sem,M,O,J,I,F,E];refine aB (fun ac=>?_) (fun ae=>?_)
   . have ac:=ltB (by simpa using ac)
     obtain⟨q,hq⟩:=aN ac;have b1:=inB ac;simp only[go_sem,M,O,J,I,F,E,aE hq,b1];refine aM fun ar au=>?_
     simp only[go_sem,M,O,J,I,F,E];refine aJ (aA _ _ _) (by simp[jY]) ?_;generalize aj:aI (aI _ ar _) ar _=HGi10;have az:HGi10 ar=some (⟨194,2,[bZ q]⟩):=by rw[<-aj,aA];try rfl
     clear aj au;simp only[go_sem,M,O,J,I,F,E,az];refine⟨by decide,aB (fun T=>?_) (fun T=>?_)⟩
     . simp only[go_sem,M,O,J,I,F,E,aP (show k<=4611686018427387904 by omega)]
       exact⟨⟨k+1,ac,rfl,aT (p:=fun q:Pair=>((q.b != v.order)||(iE x.orders q.a).all (qG l))=true) hq (by rw[show(q.b != v.order)=true from T];rfl) hz⟩,by simp only[aF];omega⟩
     have T:(q.b != v.order)=false:=T;have hV:=pJ x.orders q.a;simp only[go_sem,M,O,J,I,F,E,az];refine⟨by decide,PC.use (pA x.orders q.a) ?_⟩;simp only[go_sem,M,O,J,I,F,E,Xaa];have ax:((q.b != v.order)||(iE x.orders q.a).all (qG l))=(iE x.orders q.a).all (qG l):=by rw[T];rfl
     generalize ay:iE x.orders q.a=V at *;refine⟨fun ρ _=>∃m:Nat,m<=V.length/\ρ 1=.sl (l.map aK)/\ρ 3=.rp (aH x) 0/\ρ 5=.rp (aK v) 0/\ρ 36=.sl (x.before.map bZ)/\ρ 37=int x.before.length/\ρ 38=int (k:Nat)/\ρ 51=.sl (V.map aK)/\ρ 52=int V.length/\ρ 53=int (m:Nat)/\∀u∈V.take m,qG l u=true,fun ρ _=>V.length-aV (ρ 53),⟨0,Xac _,by simp only[go_sem,M,O,J,I,F,E],by simp only[go_sem,M,O,J,I,F,E],by simp only[go_sem,M,O,J,I,F,E],by simp only[go_sem,M,O,J,I,F,E],by simp only[go_sem,M,O,J,I,F,E],by simp only[go_sem,M,O,J,I,F,E],by simp only[go_sem,M,O,J,I,F,E],by simp only[go_sem,M,O,J,I,F,E],by simp only[go_sem,M,O,J,I,F,E];rfl,by simp⟩,?_⟩;clear M O J I F E h1 h3 h5;rintro ρ H ⟨m,hm,M,O,J,I,F,E,ai,ah,ag,hy⟩;simp only[go_sem,M,O,J,I,F,E,ai,ah,ag];refine aB (fun ak=>?_) (fun ao=>?_)
     . have ak:=ltB (by simpa using ak)
       obtain⟨u,hu⟩:=aN ak;have b2:=inB ak;simp only[go_sem,M,O,J,I,F,E,ai,ah,ag,aE hu,b2];refine aM fun an aq=>?_
       simp only[go_sem,M,O,J,I,F,E,ai,ah,ag];refine aJ (aA _ _ _) (by simp[cU]) ?_;generalize al:aI (aI _ an _) an _=HGi12;have a4:HGi12 an=some ((⟨119,2,[aK u]⟩:Row)):=by rw[<-al,aA];try rfl
       clear al aq;simp only[go_sem,M,O,J,I,F,E,ai,ah,ag,a4];refine PC.use (AP l u hl) ?_;simp only[go_sem,M,O,J,I,F,E,ai,ah,ag];refine aB (fun ad=>?_) (fun ad=>?_)
       . simp only[go_sem]
         refine cN ?_;have af:qG l u=false:=by unfold qG;rw[show decide (eV l u<0)=true from ad];rfl
         rw[hr];unfold X8;exact(List.all_eq_false.2 ⟨q,Xae hq,by
           rw[ay,ax];rw[Bool.not_eq_true];exact List.all_eq_false.2 ⟨u,Xae hu,by rw[af];simp⟩⟩).symm
       . have af:qG l u=true:=by unfold qG;rw[show decide (eV l u<0)=false from ad];rfl
         simp only[go_sem,M,O,J,I,F,E,ai,ah,ag,aP (show m<=4611686018427387904 by omega)];exact⟨⟨m+1,ak,rfl,aT (p:=fun u:Visit=>qG l u=true) hu af hy⟩,by simp only[aF];omega⟩
     have ao:=geB hm (by simpa using ao);subst ao;rw[Xag]at hy;simp only[go_sem,M,O,J,I,F,E,aP (show k<=4611686018427387904 by omega)];exact⟨⟨k+1,ac,rfl,aT (p:=fun q:Pair=>((q.b != v.order)||(iE x.orders q.a).all (qG l))=true) hq (by rw[ay,ax];exact Xao.2 hy) hz⟩,by simp only[aF];omega⟩
   have ae:=geB hk (by simpa using ae);subst ae;rw[Xag]at hz;simp only[go_sem];refine cN ?_;rw[hr];unfold X8;exact(Xao.2 hz).symm
 refine⟨fun ρ H=>∃(k:Nat),k<=W.length/\ρ 1=.sl (l.map aK)/\ρ 3=.rp (aH x) 0/\ρ 5=.rp (aK v) 0/\ρ 21=.sl (W.map aK)/\ρ 22=int (W.length:Nat)/\ρ 23=int k/\(∀u∈W.take k,eqV u v=false/\qG l u=true),fun ρ _=>W.length-aV (ρ 23),⟨0,Xac _,by simp only[go_sem],by simp only[go_sem],by simp only[go_sem],by simp only[go_sem],by simp only[go_sem,Xaa],(by simp only[go_sem];rfl),by simp⟩,?_⟩;rintro ρ H ⟨k,hk,M,O,J,ab,aa,Z,hz⟩;simp only[go_sem,M,O,J,ab,aa,Z];refine aB (fun ac=>?_) (fun ae=>?_)
 . have ac:=ltB (by simpa using ac)
   obtain⟨u,hu⟩:=aN ac;have b1:=inB ac;have hp:=Pu (l:=l) (v:=v) hz;rw[wI hu]at hp;simp only[go_sem,M,O,J,ab,aa,Z,aE hu,b1];refine aM fun i8 aw=>?_
   simp only[go_sem,M,O,J,ab,aa,Z];refine aJ (aA _ _ _) (by simp[cU]) ?_;generalize am:aI (aI _ i8 _) i8 _=HGi8;have R8:HGi8 i8=some ((⟨119,2,[aK u]⟩:Row)):=by rw[<-am,aA];try rfl
   clear am aw;simp only[go_sem,M,O,J,ab,aa,Z,R8];refine aB (fun T=>?_) (fun T=>?_)
   . have T:eqV u v=true:=T
     simp only[go_sem];refine hQ _ _ ⟨by simp only[go_sem,M,O,J,ab,aa,Z],by simp only[go_sem,M,O,J,ab,aa,Z],by simp only[go_sem,M,O,J,ab,aa,Z],?_⟩;rw[hp];unfold I8;rw[List.takeWhile_cons,T];rfl
   have T:eqV u v=false:=T;simp only[go_sem,M,O,J,ab,aa,Z,R8];refine PC.use (AP l u hl) ?_;simp only[go_sem,M,O,J,ab,aa,Z];refine aB (fun ad=>?_) (fun ad=>?_)
   . have af:qG l u=false:=by unfold qG;rw[show decide (eV l u<0)=true from ad];rfl
     simp only[go_sem];refine av _ _ ?_;simp only[go_sem];refine cN ?_;have:I8 W l v=false:=by
       rw[hp];unfold I8;rw[List.takeWhile_cons,T];show(u::_).all (qG l)=false;rw[List.all_cons,af];rfl
     rw[hr,this];rfl
   . have af:qG l u=true:=by unfold qG;rw[show decide (eV l u<0)=false from ad];rfl
     simp only[go_sem,M,O,J,ab,aa,Z,aP (show k<=4611686018427387904 by omega)];exact⟨⟨k+1,ac,rfl,aT (p:=fun u:Visit=>eqV u v=false/\qG l u=true) hu ⟨T,af⟩ hz⟩,by simp only[aF];omega⟩
 have ae:=geB hk (by simpa using ae);subst ae;have hp:=Pu (l:=l) (v:=v) hz;rw[Xbw]at hp;simp only[go_sem];exact hQ _ _ ⟨by simp only[go_sem,M,O,J,ab,aa,Z],by simp only[go_sem,M,O,J,ab,aa,Z],by simp only[go_sem,M,O,J,ab,aa,Z],hp⟩
def acC(x:Instance)(i:Nat):Bool:=match x.orders[i]? with|some o=>o.off|none=>false
def PE(x:Instance)(set:Int)(i:Nat):Bool:=(decide ((i:Int)>62)||(qI .and .i64 (shV .shr .i64 set (i:Nat)) 1 == 0))||acC x i
def Dr(x:Instance)(set:Int)(l:List Visit)(i:Nat):List Visit:=if PE x set i=true then[]else(iE x.orders (i:Nat)).filter (rK x l)
def yR(x:Instance)(set:Int)(l:List Visit)(k:Nat):List Visit:=(List.range k).flatMap (Dr x set l)
def AW(x:Instance)(set:Int)(l:List Visit):List Visit:=yR x set l x.orders.length
theorem Cd(x:Instance)(set:Int)(l:List Visit)(k:Nat):yR x set l (k+1)=yR x set l k++Dr x set l k:=by
 unfold yR;rw[Xbk,List.flatMap_append];simp
theorem No(x:Instance)(set:Int)(l:List Visit)(i:Nat):(Dr x set l i).length<=2:=by
 unfold Dr;split
 . simp
 . exact Xaj (Xbt _ _) (pJ _ _)
theorem zF(x:Instance)(set:Int)(l:List Visit):∀k,(yR x set l k).length<=2*k
 | 0=>Xaf _
 | k+1=>by
   rw[Cd,Xab];have:=zF x set l k;have:=No x set l k;omega
abbrev ZO(l:List Visit):Row:=⟨119,2,l.map aK⟩
theorem Wx(l:List Visit)(v:Visit):(⟨119,2,l.map aK++[aK v]⟩:Row)=ZO (l++[v]):=by
 show _=(⟨119,2,(l++[v]).map aK⟩:Row);rw[Xam];rfl
theorem Ck{α:Type}{p:α->Bool}{l:List α}{k:Nat}{a:α}(h:l[k]?=some a):(l.take (k+1)).filter p=(l.take k).filter p++(if p a=true then[a]else[]):=by
 rw[bQ h,List.filter_append]
 congr 1
 rw[List.filter_cons];rfl
theorem aaE(x:Instance)(set:Int)(l:List Visit)(hl:l.length<=1048576)(hb:x.before.length<=1048576)(hx:x.orders.length<=100000):PC prog 190 [.agg (aH x),int set,.sl (l.map aK)] (.sl ((AW x set l).map aK)):=by
 refine pcb (fun t=>t == 7) Tryz.func190 ?_;unfold Tryz.f190;simp only[gdS];simp only[go_sem];refine aM fun j aw=>?_
 generalize ar:aI _ j _=HGj;have R:HGj j=some (ZO []):=by rw[<-ar,aA];try rfl
 clear ar aw;simp only[go_sem,R];refine⟨fun ρ H=>∃(k:Nat) (j:Nat),k<=x.orders.length/\ρ 1=int set/\ρ 2=.sl (l.map aK)/\ρ 3=.rp (aH x) 0/\ρ 13=.sl (x.orders.map bD)/\ρ 14=int (x.orders.length:Nat)/\ρ 15=int k/\ρ 7=.os j/\H j=some (ZO (yR x set l k)),fun ρ _=>x.orders.length-aV (ρ 15),⟨0,j,Xac _,by simp only[go_sem],by simp only[go_sem],by simp only[go_sem],by simp only[go_sem],by simp only[go_sem,Xaa],(by simp only[go_sem];rfl),by simp only[go_sem],R⟩,?_⟩;rintro ρ H ⟨k,j,hk,O,T,Z,J,I,E,M,R⟩;simp only[go_sem,O,T,Z,J,I,E,M];refine aB (fun ah=>?_) (fun ap=>?_)
 . have ah:=ltB (by simpa using ah)
   obtain⟨o,ho⟩:=aN ah;have b1:=inB ah;have hs:=Cd x set l k;have ax:=zF x set l k;have au:acC x k=o.off:=by unfold acC;rw[ho]
   have av:PE x set k=((decide ((k:Int)>62)||(qI .and .i64 (shV .shr .i64 set (k:Nat)) 1 == 0))||o.off):=by unfold PE;rw[au]
   have hA:Dr x set l k=if PE x set k=true then[]else(iE x.orders (k:Nat)).filter (rK x l):=rfl
   rw[hA,av]at hs;generalize yR x set l k=L at *;simp only[go_sem,O,T,Z,J,I,E,M,aE ho,b1];refine aM fun i9 am=>?_
   have ab:j≠i9:=aO R am;simp only[go_sem,O,T,Z,J,I,E,M,R];refine aJ (aA _ _ _) (by simp[oP]) ?_;generalize aj:aI (aI _ i9 _) i9 _=HGi9;replace R:=(congrFun aj.symm j).trans ((aD _ _ _ _ ab).trans ((aD _ _ _ _ ab).trans R));have R9:HGi9 i9=some ((⟨111,16,[bD o]⟩:Row)):=by rw[<-aj,aA];try rfl
   clear aj am;simp only[go_sem,O,T,Z,J,I,E,M,R9,R];refine⟨fun _=>by omega,?_⟩;refine aB (fun hc=>?_) (fun hc=>?_)
   . rw[if_pos hc,Xah]at hs
     simp only[go_sem,O,T,Z,J,I,E,M,aP (show k<=4611686018427387904 by omega)];refine⟨⟨k+1,j,ah,rfl,rfl,?_⟩,by simp only[aF];omega⟩;rw[hs];exact R
   rw[if_neg (by rw[hc];simp)]at hs;simp only[go_sem,O,T,Z,J,I,E,M];refine PC.use (pA x.orders (k:Nat)) ?_;simp only[go_sem,O,T,Z,J,I,E,M,Xaa];have hV:=pJ x.orders (k:Nat);generalize iE x.orders (k:Nat)=V at *;refine⟨fun ρ H=>∃m j:Nat,m<=V.length/\ρ 1=int set/\ρ 2=.sl (l.map aK)/\ρ 3=.rp (aH x) 0/\ρ 13=.sl (x.orders.map bD)/\ρ 14=int x.orders.length/\ρ 15=int (k:Nat)/\ρ 36=.sl (V.map aK)/\ρ 37=int V.length/\ρ 38=int (m:Nat)/\ρ 7=.os j/\H j=some (ZO (L++(V.take m).filter (rK x l))),fun ρ _=>V.length-aV (ρ 38),⟨0,j,Xac _,by simp only[go_sem,O,T,Z,J,I,E,M],by simp only[go_sem,O,T,Z,J,I,E,M],by simp only[go_sem,O,T,Z,J,I,E,M],by simp only[go_sem,O,T,Z,J,I,E,M],by simp only[go_sem,O,T,Z,J,I,E,M],by simp only[go_sem,O,T,Z,J,I,E,M],by simp only[go_sem,O,T,Z,J,I,E,M],by simp only[go_sem,O,T,Z,J,I,E,M],by simp only[go_sem,O,T,Z,J,I,E,M];rfl,by simp only[go_sem,O,T,Z,J,I,E,M],by simpa using R⟩,?_⟩;clear O T Z J I E M R R9;rintro ρ H ⟨m,j,hm,O,T,Z,J,I,E,ae,ad,ac,M,R⟩;simp only[go_sem,O,T,Z,J,I,E,ae,ad,ac,M];refine aB (fun ag=>?_) (fun an=>?_)
   . have ag:=ltB (by simpa using ag)
     obtain⟨u,hu⟩:=aN ag;have b2:=inB ag;have al:=Ck (p:=rK x l) hu;have ay:((V.take m).filter (rK x l)).length<=2:=Xaj (Xbt _ _) (by rw[Xal];omega);simp only[go_sem,O,T,Z,J,I,E,ae,ad,ac,M,aE hu,b2];generalize (V.take m).filter (rK x l)=F at *;refine aM fun ak ai=>?_
     have aa:j≠ak:=aO R ai;simp only[go_sem,O,T,Z,J,I,E,ae,ad,ac,M,R];refine aJ (aA _ _ _) (by simp[cU]) ?_;generalize af:aI (aI _ ak _) ak _=HGi11;replace R:=(congrFun af.symm j).trans ((aD _ _ _ _ aa).trans ((aD _ _ _ _ aa).trans R));have aq:HGi11 ak=some ((⟨119,2,[aK u]⟩:Row)):=by rw[<-af,aA];try rfl
     clear af ai;simp only[go_sem,O,T,Z,J,I,E,ae,ad,ac,M,aq,R];refine PC.use (YE x l u hl hb) ?_;simp only[go_sem,O,T,Z,J,I,E,ae,ad,ac,M];refine aB (fun ao=>?_) (fun ao=>?_)
     . rw[if_pos ao]at al
       simp only[go_sem,O,T,Z,J,I,E,ae,ad,ac,M,aq];refine bE R ⟨rfl,rfl⟩ (by simp only[go_sem]) (by simp only[Xaa,Xab,Xad,List.length_nil];omega) (fun j2 az=>?_);simp only[go_sem,O,T,Z,J,I,E,ae,ad,ac,M,aP (show m<=4611686018427387904 by omega)];refine⟨⟨m+1,j2,ag,rfl,rfl,?_⟩,by simp only[aF];omega⟩;rw[al,<-Xai,aA];exact congrArg some (Wx _ _)
     . rw[if_neg (by rw[ao];simp),Xah]at al
       simp only[go_sem,O,T,Z,J,I,E,ae,ad,ac,M,aP (show m<=4611686018427387904 by omega)];refine⟨⟨m+1,j,ag,rfl,rfl,?_⟩,by simp only[aF];omega⟩;rw[al];exact R
   have an:=geB hm (by simpa using an);subst an;rw[Xag]at R;simp only[go_sem,O,T,Z,J,I,E,M,aP (show k<=4611686018427387904 by omega)];refine⟨⟨k+1,j,ah,rfl,rfl,?_⟩,by simp only[aF];omega⟩;rw[hs];exact R
 have ap:=geB hk (by simpa using ap);subst ap;simp only[go_sem,O,T,Z,J,I,E,M];exact .row _ _ _ R (ConvE.refl _)
end Go.Proofs.YtohmomanmikphaaGreatDoor.Sq
end
section
namespace Go.Aw
open Go.RowKit
section
variable{P:Program}{f:FuncId}{args:List AV}{H:aG}{K:AV->aG->Prop}{r:AV}
def Sup(H H':aG):Prop:=∀k row,H k=some row->H' k=some row
def Ij(H:aG)(r:AV)(a:AV)(H':aG):Prop:=Sup H H'/\∃l:List Nat,(∀k,k∈l->H k=none)/\Conv (fun k=>if k∈l then H' k else none) a r
theorem aX.data(h:aX P f args H (Ij H r))(hK:K r H):aX P f args H K:=by
 intro S w vals hS O;refine(h S w vals hS O).mono fun e w' ⟨v,x,H',S',I,⟨hm,l,J,Z⟩,E,hv,M,hn⟩=>?_
 obtain⟨h1,h2,T⟩:=E.frz l;refine⟨v,r,H,S'.froze _,I,hK,h1.drop (fun k row F=>?_),Z.rep T hv,M.trans h2,fun k _ h0=>h0⟩;have u:¬k∈l:=fun u=>by rw[J k u]at F;cases F
 show(if k∈l then none else H' k)=some row;rw[if_neg u];exact hm k row F
def LC(P:Program)(f:FuncId)(args:List AV)(H:aG)(r:AV):Prop:=∀K:AV->aG->Prop,K r H->aX P f args H K
theorem LC.use(h:LC P f args H r)(u:K r H):aX P f args H K:=h K u
theorem LC.body{fn:Func}{c:Code}(mt:Nat->Bool)(I:P.follows .mixedOrders=true)(u:P.funcs[f]?=some fn)(F:fn.body=some c)(J:yG fn c args.length=true)
 (h:awp P (aX P) (cZ P) mt c (Fg P fn.results.toList (Ij H r)) (Bg args) H):LC P f args H r:=fun K E=>aX.data (aX.body mt I u F J h) E
theorem Sup.refl(H:aG):Sup H H:=fun _ _ h=>h
theorem Sup.upd{H H':aG}(h:Sup H H'){i:Nat}(E:H i=none)(a:Option Row):Sup H (aI H' i a):=fun k row u=>by
 rw[aD _ _ _ _ (fun e=>by subst e;rw[E]at u;cases u)];exact h k row u
theorem Sup.none{H H':aG}(h:Sup H H'){i:Nat}(u:H' i=none):H i=none:=by
 cases e:H i with
 | none=>rfl
 | some row=>rw[h i row e]at u;cases u
theorem Sup.eq{H A B:aG}(h:Sup H A)(e:A=B):Sup H B:=e▸h
theorem Sup.at{H H':aG}(h:Sup H H'){i:Nat}{row:Row}(u:H i=some row):H' i=some row:=h i row u
theorem Sup.ne{H H':aG}(h:Sup H H'){i j:Nat}{row:Row}(E:H i=some row)(u:H j=.none):i≠j:=fun e=>by subst e;rw[E]at u;cases u
theorem Ij.flat{H H':aG}(h:Sup H H')(r:AV):Ij H r r H':=⟨h,[],by simp,.refl r⟩
theorem lP{l:List Nat}{H u:aG}{K:Env->aG->Prop}{ρ:Env}(E:∀k,k∉l->u k=H k)(h:K ρ H):kU l H K ρ u:=fun _ I h1 F=>by
 have:I=H:=funext fun k=>by
   by_cases e:k∈l
   . exact h1 k e
   . rw[F k e,E k e]
 rw[this];exact h
theorem nM{l:List Nat}{H E:aG}{K:Env->aG->Prop}{ρ:Env}{i:Nat}{r:Option Row}(F:∀k,k∉l->E k=H k)(I:i∉l)(h:K ρ (aI H i r)):kU l H K ρ (aI E i r):=fun _ M h1 J=>by
 have:M=aI H i r:=funext fun k=>by
   by_cases e:k∈l
   . rw[h1 k e,aD _ _ _ _ (fun u=>I (by rw[<-u];exact e))]
   . rw[J k e]
     by_cases u:k=i
     . subst u;rw[aA,aA]
     . rw[aD _ _ _ _ u,aD _ _ _ _ u,F k e]
 rw[this];exact h
theorem uW{l:List Nat}{H F:aG}{K:Env->aG->Prop}{ρ:Env}{i:Nat}{a:Option Row}{b:Row}(I:∀k,k∉l->F k=H k)(J:F i=none)(h:H i=none->K ρ (aI (aI H i a) i (some b))):kU l H K ρ (aI (aI F i a) i (some b)):=fun h0 O h1 M=>by
 have E:i∉l:=fun e=>by have:=h0 i e;rw[aA]at this;cases this
 have:O=aI (aI H i a) i (some b):=funext fun k=>by
   by_cases e:k∈l
   . rw[h1 k e,aD _ _ _ _ (fun u=>E (by rw[<-u];exact e)),aD _ _ _ _ (fun u=>E (by rw[<-u];exact e))]
   . rw[M k e]
     by_cases u:k=i
     . subst u;rw[aA,aA]
     . rw[aD _ _ _ _ u,aD _ _ _ _ u,aD _ _ _ _ u,aD _ _ _ _ u,I k e]
 rw[this];exact h ((I i E).symm.trans J)
theorem KA{S:Sg}{w:World}:∀(A B:List AV) (l:List Value),bF S w (A++B) l->bF S w A (l.take A.length)
 | [],_,l,_=>by simp only[List.length_nil,List.take_zero,bF]
 | x::A,B,l,h=>by
   simp only[List.cons_append,bF]at h |-;obtain⟨u,t,rfl,h1,E⟩:=h;exact⟨u,t.take A.length,by rw[List.length_cons,List.take_succ_cons],h1,KA A B t E⟩
theorem G2{sz:Nat}:∀(es:List (List AV)) (i:Nat),(∀cs∈es,cs.length=sz)->i<=es.length->((es.take i).flatten).length=i*sz
 | _,0,_,_=>by simp
 | [],i+1,_,h=>by simp at h
 | c::es,i+1,hl,h=>by
   rw[List.take_succ_cons,List.flatten_cons,List.length_append,hl c (by simp),G2 es i (fun cs u=>hl cs (by simp[u])) (by simpa using h),Nat.add_mul,Nat.one_mul,Nat.add_comm]
theorem St.cut{S:Sg}{w:World}{H:aG}(M:St S w H){k i c n:Nat}{r:Row}{ad:Option Addr}(hk:H k=some r)(hl:S.loc k=.slice ad n c)(hi:i<=r.es.length):
   St (S.addRow (.slice ad i c) r.sz) w (aI (aI H k none) S.N (some ⟨r.e,r.sz,r.es.take i⟩))/\Grow S w (S.addRow (.slice ad i c) r.sz) w:=by
 have hR:=M.rows k r hk;obtain⟨xs,ho,hr,h1⟩:=hR.sl hl;have Z:=S.le_addRow (.slice ad i c) r.sz;have F:(S.addRow (.slice ad i c) r.sz).loc S.N=.slice ad i c:=by simp[Sg.addRow]
 have J:∀k,k<S.N->(S.addRow (.slice ad i c) r.sz).loc k=S.loc k:=Z.loc;have al:k≠S.N:=Nat.ne_of_lt hR.lt;have I:∀q row,q≠S.N->aI (aI H k none) S.N (some ⟨r.e,r.sz,r.es.take i⟩) q=some row->H q=some row/\q≠k:=fun q row hq h=>by
   rw[aD _ _ _ _ hq]at h;by_cases e:q=k
   . subst e;rw[aA]at h;cases h
   . rw[aD _ _ _ _ e]at h;exact⟨h,e⟩
 have aa:blk (.slice ad i c)=blk (S.loc k):=by rw[hl];cases ad <;> rfl
 refine⟨⟨M.ro_fz,M.fz_lt,?_,?_,?_,M.tabs.keep Z (eL.refl S w)⟩,⟨Z,fun _ h=>h,rfl,rfl,rfl,Nat.le_refl _,fun _ _=>rfl,fun _ h=>.inl h⟩⟩
 . intro q row hq
   by_cases e0:q=S.N
   . subst e0
     rw[aA]at hq;injection hq with hq;subst hq;have ai:=G2 r.es i hR.len hi;have ab:(r.es.take i).length=i:=by rw[List.length_take];omega
     have am:xs.length=r.es.length*r.sz:=ho.1;have af:i*r.sz<=r.es.length*r.sz:=Nat.mul_le_mul_right _ hi;refine⟨Nat.lt_succ_self _,by simp[Sg.addRow],hR.pos,fun cs ac=>hR.len cs (List.mem_of_mem_take ac),.inl ⟨xs.take (i*r.sz),⟨?_,?_⟩,?_,fun u hu=>h1 u (List.mem_of_mem_take hu)⟩⟩
     . show(xs.take (i*r.sz)).length=(r.es.take i).length*r.sz
       rw[List.length_take,ab];omega
     . rw[F]
       simp only[ab];rcases ho.2 with⟨hv,hn⟩|⟨g,cap,cur,hv,hb,T,ak,ah,ac,aj⟩
       . rw[hl]at hv
         injection hv with e1 e2 e3;refine .inl ⟨?_,by omega⟩;rw[e1,e3,show i=0 by omega]
       . rw[hl]at hv
         injection hv with e1 e2 e3;refine .inr ⟨g,cap,cur,by rw[e1,e3],hb,T,by omega,ah,ac,?_⟩;rw[<-aj,List.take_take,Nat.min_eq_left af]
     . refine dD Z (eL.refl S w) _ _ ?_
       have:r.es.flatten=(r.es.take i).flatten++(r.es.drop i).flatten:=by rw[<-List.flatten_append,List.take_append_drop]
       rw[this]at hr;have:=KA _ _ _ hr;rw[ai]at this;exact this
   . obtain⟨h2,_⟩:=I q row e0 hq
     exact(M.rows q row h2).keep Z (eL.refl S w) fun _ _=>rfl
 . intro q row hq g T
   by_cases e0:q=S.N
   . subst e0
     rw[F,aa]at T;exact M.free k r hk g T
   . obtain⟨h2,_⟩:=I q row e0 hq
     rw[J q (M.rows q row h2).lt]at T;exact M.free q row h2 g T
 . intro q q' row E hq ae ag g T O
   by_cases e0:q=S.N
   . subst e0
     rw[F,aa]at T;obtain⟨h2,h3⟩:=I q' E (Ne.symm ag) ae;rw[J q' (M.rows q' E h2).lt]at O;exact M.disj k q' r E hk h2 (Ne.symm h3) g T O
   . obtain⟨h2,h3⟩:=I q row e0 hq
     rw[J q (M.rows q row h2).lt]at T;by_cases e1:q'=S.N
     . subst e1
       rw[F,aa]at O;exact M.disj q k row r h2 hk h3 g T O
     . obtain⟨h4,h5⟩:=I q' E e1 ae
       rw[J q' (M.rows q' E h4).lt]at O;exact M.disj q q' row E h2 h4 ag g T O
end
end Go.Aw
end
section
namespace Go.Proofs.YtohmomanmikphaaGreatDoor.Sq
open Go.Aw Go.Aw.D Go.Proofs Ty
open Go.Proofs.YtohmomanmikphaaGreatDoor.Nu (ltB geB)
open Mv (bW cN NC.pc aT)
def EA(L:List Nat):Nat:=(L.map fun a=>2^62-a).sum
theorem Mu:∀{L:List Nat} {i u v:Nat},L[i]?=some u->u<v->v<=2^62->EA (L.set i v)<EA L
 | [],i,u,v,h,_,_=>by simp at h
 | a::L,0,u,v,h,h1,h2=>by
   have:a=u:=by simpa using h
   subst this;show(2^62-v)+(L.map fun a=>2^62-a).sum<(2^62-a)+(L.map fun a=>2^62-a).sum;omega
 | a::L,i+1,u,v,h,h1,h2=>by
   have:=Mu (L:=L) (i:=i) (by simpa using h) h1 h2;show(2^62-a)+EA (L.set i v)<(2^62-a)+EA L;omega
abbrev BO(L:List Nat):Row:=⟨3,1,L.map fun n=>[int (n:Nat)]⟩
def alJ:List AV->Nat
 | [.v (.int _ a)]=>2^62-a.toNat
 | _=>0
def YO(x b:AV)(H:aG):Nat:=match x,b with
 | .os j,.v (.bool true)=>match H j with
   | some r=>(r.es.map alJ).sum+1
   | none=>0
 | _,_=>0
theorem WH{j:Nat}{H:aG}{L:List Nat}(h:H j=some (BO L)):YO (.os j) (boo true) H=EA L+1:=by
 unfold YO;simp only[h,List.map_map];rfl
theorem aeX{j:Nat}{H:aG}:YO (.os j) (boo false) H=0:=rfl
theorem WE{s:Int}{a:Int}(h:a∈fR s):∃k:Nat,a=(k:Nat):=by
 unfold fR qF at h;obtain⟨k,_,rfl⟩:=List.mem_map.1 h;exact⟨k,rfl⟩
theorem VR(s:Int):(fR s).length<=63:=by
 unfold fR qF;rw[Xaa];exact Xaj (Xbt _ _) (by rw[Xas];exact Xaf _)
end Go.Proofs.YtohmomanmikphaaGreatDoor.Sq
end
section
namespace Go.Proofs.YtohmomanmikphaaGreatDoor.Sq
open Go.Aw Go.Aw.D Go.Proofs Ty
structure Lab where
 ready:Int
 since:Int
 sheet:Sheet
def Nk:Tm:=⟨0,0,0,false⟩
def dY(s:Sheet)(k:Nat)(b:Bool)(d:Int):Sheet:=match k with
 | 0=>{ s with rest:=b,depart:=d }
 | j+1=>{ s with times:=s.times.set j ⟨(s.times.getD j Nk).arrive,(s.times.getD j Nk).begin_,d,b⟩ }
def A4(t:VType)(l:Lab)(b:Bool):Int:=if b=true then W (l.ready+t.rest)else l.ready
def BV(l:Lab)(b:Bool):Int:=if b=true then 0 else l.since
def goL(x:Instance)(t:VType)(p q:Int)(l:Lab)(b:Bool):Int×Int×Int:=iM x.net t.profile p q (A4 t l b)
def Rq(x:Instance)(t:VType)(p q:Int)(l:Lab)(b:Bool):Int:=W (W (BV l b+(goL x t p q l b).1)-A4 t l b)
def NO(x:Instance)(t:VType)(p:Int)(s:Stop)(k:Nat)(l:Lab)(b:Bool):Sheet:=
 { dY l.sheet k b (A4 t l b)with
   times:=(dY l.sheet k b (A4 t l b)).times++[⟨(goL x t p s.place l b).1,jW (goL x t p s.place l b).1 s.start,0,false⟩]
   miles:=W (l.sheet.miles+(goL x t p s.place l b).2.1) }
def Ge(x:Instance)(t:VType)(p:Int)(s:Stop)(k:Nat)(l:Lab)(b:Bool):Except Int Lab:=
 if((goL x t p s.place l b).2.2 != 0)=true then .error 12
 else if jW (goL x t p s.place l b).1 s.start>s.close then .error 14
 else if Rq x t p s.place l b>t.drive then .error 16
 else .ok ⟨W (jW (goL x t p s.place l b).1 s.start+s.service),Rq x t p s.place l b,NO x t p s k l b⟩
def U9(x:Instance)(t:VType)(p:Int)(k:Nat)(l:Lab)(b:Bool):Sheet:=
 { dY l.sheet k b (A4 t l b)with
   end_:=(goL x t p t.dst l b).1
   miles:=W (l.sheet.miles+(goL x t p t.dst l b).2.1) }
def JB(x:Instance)(t:VType)(p:Int)(k:Nat)(l:Lab)(b:Bool):Except Int Lab:=
 if((goL x t p t.dst l b).2.2 != 0)=true then .error 12
 else if(goL x t p t.dst l b).1>t.close then .error 15
 else if Rq x t p t.dst l b>t.drive then .error 16
 else .ok ⟨(goL x t p t.dst l b).1,Rq x t p t.dst l b,U9 x t p k l b⟩
def FJ(t:VType)(r:Route):Lab:=⟨jW t.start r.start,0,cA⟩
theorem oO(s:Sheet)(k:Nat)(b:Bool)(d:Int):(dY s k b d).miles=s.miles/\(dY s k b d).end_=s.end_/\(dY s k b d).times.length=s.times.length:=by
 cases k <;> simp[dY]
structure GoB(x:Instance)(t:VType):Prop where
 arrive:∀p q d,0<=d/\d<=12288->(iM x.net t.profile p q d).2.2=0->0<=(iM x.net t.profile p q d).1
 rest:0<=t.rest/\t.rest<=4096
 close:t.close<=4096
 drive:t.drive<=4096
structure StopB(s:Stop):Prop where
 start:0<=s.start
 close:s.close<=4096
 service:0<=s.service/\s.service<=4096
structure LabB(l:Lab)(k:Nat):Prop where
 ready:0<=l.ready/\l.ready<=8192
 since: -(12288*(k:Int))<=l.since/\l.since<=4096
def jJ(fixed:List Bool)(k:Nat):List Bool:=if k<fixed.length then[fixed.getD k false]else[false,true]
def Aa(m l:Lab):Bool:=m.ready == l.ready&&decide (m.since<=l.since)
def FA(out:List Lab)(e:Except Int Lab):List Lab:=match e with
 | .error _=>out
 | .ok l=>if out.any (Aa · l)=true then out else out++[l]
structure RouteB(x:Instance)(t:VType)(r:Route):Prop where
 go:GoB x t
 stop:∀v∈r.visits,StopB (iF x v).1
 first:LabB (FJ t r) 0
 short:r.visits.length<=1048575
theorem MW{r:Route}(u:r.rests.length<=r.visits.length+1):(BH r).length=r.visits.length+1:=by unfold BH;simp;omega
theorem Q5{x:Instance}{t:VType}{p:Int}{s:Stop}{k:Nat}{l:Lab}{b:Bool}{e:Int}(h:Ge x t p s k l b=.error e):e≠0:=by
 unfold Ge at h
 repeat' split at h
 all_goals first|(injection h with h;omega)|cases h
theorem TJ{x:Instance}{t:VType}{p:Int}{k:Nat}{l:Lab}{b:Bool}{e:Int}(h:JB x t p k l b=.error e):e≠0:=by
 unfold JB at h
 repeat' split at h
 all_goals first|(injection h with h;omega)|cases h
def Ld(e:Except Int Lab):Int:=match e with| .error e=>e| .ok _=>0
end Go.Proofs.YtohmomanmikphaaGreatDoor.Sq
end
section
namespace Go.Proofs.YtohmomanmikphaaGreatDoor.Rx
open Go.Aw Go.Aw.D Go.Proofs Ty Go.Nu
open Sq (W iM sZ vN zZ jE iE eM dH NetOk)
structure Clk where
 ready:Int
 since:Int
structure Part where
 place:Int
 memory:Nat
 board:Nat
 visits:Nat
 load:List Int
 clocks:List Clk
 value:ByteArray
structure Wk where
 x:Instance
 kind:Nat
 t:VType
 near:List Int
 dual:Option (List ByteArray)
 most:Nat
section
variable(w:Wk)
end
def Ik(c d:Clk):Bool:=c.ready == d.ready&&decide (c.since<=d.since)
def SK(n:Network)(t:VType)(place goal:Int)(s:List Clk×Int)(c:Clk):List Clk×Int:=
 if((iM n t.profile place goal c.ready).2.2 == 0&&decide (W (W (c.since+(iM n t.profile place goal c.ready).1)-c.ready)<=t.drive))=true
 then(s.1++[⟨(iM n t.profile place goal c.ready).1,W (W (c.since+(iM n t.profile place goal c.ready).1)-c.ready)⟩],(iM n t.profile place goal c.ready).2.1)else s
def Vt(t:VType)(c:Clk):Clk:=⟨W (c.ready+t.rest),0⟩
def Rc(n:Network)(t:VType)(place goal:Int)(s:List Clk×Int)(c:Clk):List Clk×Int:=SK n t place goal (SK n t place goal s c) (Vt t c)
def DE(n:Network)(t:VType)(place goal:Int)(l:List Clk):List Clk×Int:=l.foldl (Rc n t place goal) ([],0)
def kO(s:Stop)(a:Int):Int×Int:=if jW a s.start>s.close then(0,14)else(W (jW a s.start+s.service),0)
def ZG(s:Stop)(out:List Clk)(c:Clk):List Clk:=
 if((kO s c.ready).2 != 0)=true then out
 else if(out.any fun d=>Ik d ⟨(kO s c.ready).1,c.since⟩)=true then out
 else(out.filter fun d=> !Ik ⟨(kO s c.ready).1,c.since⟩ d)++[⟨(kO s c.ready).1,c.since⟩]
def Dp(s:Stop)(l:List Clk):List Clk:=l.foldl (ZG s) []
def adJ(near:List Int)(m o:Nat):Nat:=(m &&& (near.getD o 0).toNat) ||| 2^o
def abT(a:Int)(kind:Nat):Int:=if(a != -1&&a != (kind:Int))=true then 1 else 0
def W8(a:ByteArray)(n:Int):ByteArray:=(zJ a (zed n)).1
def fG(x:Instance)(o:Nat):Order:=x.orders.getD o ⟨ByteArray.empty,[],⟨0,0,0,0⟩,⟨0,0,0,0⟩,0,0,0,0,0,false⟩
def abE(a:ByteArray)(o:Nat):Option (List ByteArray)->ByteArray
 | none=>a
 | some l=>(Ev a (l.getD o ByteArray.empty)).1
def lN(w:Wk)(p:Part)(o:Nat):Part×Bool:=
 if(dH (p.memory:Nat) (o:Nat)||dH (p.board:Nat) (o:Nat))=true then(p,false)
 else({ p with memory:=adJ w.near p.memory o,value:=abE (W8 p.value ((abT (fG w.x o).now w.kind*16+abT (fG w.x o).last w.kind)*65536)) o w.dual },true)
def T8(b o:Nat):Nat:=b ^^^ (b &&& 2^o)
def U7(o:Order):Bool:=decide (o.pick.place>=0)&&decide (o.drop.place>=0)
def oX(w:Wk)(p:Part)(o:Nat)(drop:Bool):Part×Bool:=
 if drop=false then
   ({ p with load:=vN p.load (fG w.x o).load,board:=if U7 (fG w.x o)=true then p.board ||| 2^o else p.board },jE (vN p.load (fG w.x o).load) w.t.cap)
 else if U7 (fG w.x o)=true then
   if dH (p.board:Nat) (o:Nat)=true then({ p with load:=zZ p.load (fG w.x o).load,board:=T8 p.board o },jE (zZ p.load (fG w.x o).load) w.t.cap)else(p,false)
 else(p,jE p.load w.t.cap)
def goP(w:Wk)(p:Part)(s:Stop):Part×Bool:=
 let d:=DE w.x.net w.t p.place s.place p.clocks
 ({ p with clocks:=Dp s d.1,place:=s.place,visits:=p.visits+1,value:=W8 p.value (W (W (w.t.perMile*d.2)*16777216)) },decide ((Dp s d.1).length>0))
def AE(w:Wk)(p:Part)(v:Visit):Part×Bool:=
 if(decide ((p.visits:Int)>=(w.most:Int))||(fG w.x v.order.toNat).off|| !sZ w.t.skills (fG w.x v.order.toNat).skills)=true then(p,false)
 else
   let s:=if(!v.drop||decide ((fG w.x v.order.toNat).pick.place<0))=true then lN w p v.order.toNat else(p,true)
   if s.2=true then
     let l:=oX w s.1 v.order.toNat v.drop
     if l.2=true then(if((eM w.x v).2 != 0)=true then(l.1,false)else goP w l.1 (eM w.x v).1)else(l.1,false)
   else(s.1,false)
def aiS(close:Int)(out:Int)(c:Clk):Int:=if(decide (c.ready<=close)&&(decide (out<0)||decide (c.ready<out)))=true then c.ready else out
def aqM(w:Wk)(p:Part):Int×Int×Bool:=
 if((p.visits:Int) == 0||(p.board:Int) != 0)=true then(0,0,false)
 else
   let d:=DE w.x.net w.t p.place w.t.dst p.clocks
   (d.1.foldl (aiS w.t.close) (-1),d.2,decide (d.1.foldl (aiS w.t.close) (-1)>=0))
def Uc(w:Wk)(e:Int):Int:=W (e-w.t.start)
def asF(w:Wk)(e miles:Int):Int:=W (W (w.t.fixed+W (w.t.perMile*miles))+W (w.t.perTick*Uc w e))
def MI(w:Wk)(p:Part)(e miles:Int):ByteArray:=
 W8 p.value (W (W (asF w e miles*16777216)+W (W (Int.tdiv (Uc w e) 64)*W (Int.tdiv (Uc w e) 64))))
def afC(p q:Part):Bool:=
 if(p.place != q.place||(p.board:Int) != (q.board:Int)|| !decide (p.memory &&& q.memory=p.memory)||decide ((p.visits:Int)>(q.visits:Int))|| !jE p.load q.load||decide (Fj p.value q.value>0))=true then false
 else q.clocks.all fun d=>p.clocks.any fun c=>Ik c d
structure Srch where
 known:List Part
 more:List Part
 best:ByteArray
 found:Bool
def Tu(w:Wk)(s:Srch)(q:Part):Srch:=
 let e:=aqM w q
 let r:=MI w q e.1 e.2.1
 if(e.2.2&&(!s.found||decide (Fj r s.best<0)))=true then { known:=s.known++[q],more:=s.more++[q],best:=r,found:=true }else { s with known:=s.known++[q],more:=s.more++[q] }
def apC(w:Wk)(p:Part)(s:Srch)(v:Visit):Srch:=
 let q:=AE w p v
 if(!q.2||s.known.any fun k=>afC k q.1)=true then s else Tu w s q.1
end Go.Proofs.YtohmomanmikphaaGreatDoor.Rx
end
section
namespace Go.Proofs.YtohmomanmikphaaGreatDoor.Rx
open Go.Aw Go.Aw.D Go.Proofs Ty Go.Nu
open Sq (W iM sZ vN zZ jE iE eM dH NetOk)
open Nu (wN wV Am ltB geB)
structure NearB(near:List Int):Prop where
 len:near.length<=62
 num:∀n∈near,0<=n/\n<4611686018427387904
def drvs(n:Network)(t:VType)(place goal:Int)(s:List Clk×Int)(c:Clk):Nat->(List Clk×Int)×Clk
 | 0=>(s,c)
 | 1=>(SK n t place goal s c,c)
 | _=>(Rc n t place goal s c,Vt t c)
theorem Dw(n:Network)(t:VType)(place u:Int)(s:List Clk×Int)(c:Clk):(SK n t place u s c).1.length<=s.1.length+1:=by
 unfold SK;split
 . simp
 . omega
theorem UP(n:Network)(t:VType)(place u:Int)(s:List Clk×Int)(c:Clk):∀k,(drvs n t place u s c k).1.1.length<=s.1.length+k
 | 0=>Xaf _
 | 1=>Dw n t place u s c
 | k+2=>by
   have h1:=Dw n t place u s c;have E:=Dw n t place u (SK n t place u s c) (Vt t c);show(Rc n t place u s c).1.length<=_;unfold Rc;omega
theorem PO(n:Network)(t:VType)(place u:Int)(l:List Clk):∀k,((l.take k).foldl (Rc n t place u) ([],0)).1.length<=2*k
 | 0=>by simp
 | k+1=>by
   have h:=PO n t place u l k;by_cases F:k<l.length
   . obtain⟨c,E⟩:=aN F
     rw[Sq.gQ E];have:=UP n t place u ((l.take k).foldl (Rc n t place u) ([],0)) c 2;exact Xaj this (by omega)
   . rw[Xan (by omega)]
     rw[Xan (by omega)]at h;omega
end Go.Proofs.YtohmomanmikphaaGreatDoor.Rx
end
section
namespace Go.Proofs.YtohmomanmikphaaGreatDoor.Rx
open Go.Proofs.Tryz(prog)
open Go.Aw Go.Aw.D Go.Proofs Ty Go.Nu
open Sq (W iM sZ vN zZ jE iE eM dH NetOk lU mS kN nX)
open Mv (bW cN NC.pc aT)
open Nu (wN wV Am ltB geB)
theorem aX.cutO{P:Program}{f:FuncId}{args:List AV}{H:aG}{K:AV->aG->Prop}
   (h:aX P f args H fun a H'=>K a H'\/∃j i row,a=.oz j 0 i/\H' j=some row/\i<=row.es.length/\∀F,H' F=none->K (.os F) (aI (aI H' j none) F (some ⟨row.e,row.sz,row.es.take i⟩))):aX P f args H K:=by
 intro S w vals hS ha;refine(h S w vals hS ha).mono fun e w' ⟨v,x,H',S',he,M,E,T,O,hn⟩=>?_
 rcases M with M|M
 . exact⟨v,x,H',S',he,M,E,T,O,hn⟩
 have h2:∀K2:AV->aG->Prop,(∃j i row,x=.oz j 0 i/\H' j=some row/\i<=row.es.length/\∀F,H' F=none->K2 (.os F) (aI (aI H' j none) F (some ⟨row.e,row.sz,row.es.take i⟩)))->∃v x H' S',e=.returned v/\K2 x H'/\St S' w' H'/\rep S' w' x v/\Grow S w S' w'/\∀k,k<S.N->H k=none->H' k=none:=by
   rintro K2 ⟨j,i,row,rfl,hj,hi,hk⟩;simp only[rep]at T;obtain⟨ab,ad,n,c,aa,cc,J,I,_,ac,_,h0⟩:=T;obtain⟨rfl,rfl⟩:=h0 trivial;obtain⟨c1,c2⟩:=E.cut hj J hi;have u:H' S'.N=none:=by
     cases e:H' S'.N with
     | none=>rfl
     | some row2=>exact absurd (E.rows _ _ e).lt (Nat.lt_irrefl _)
   refine⟨v,.os S'.N,_,_,he,hk S'.N u,c1,?_,O.trans c2,fun q hq h0=>?_⟩
   . simp only[rep]
     refine⟨Nat.lt_succ_self _,?_,aa,i-0,cc,I⟩;rw[I];simp[Sg.addRow]
   . have Z:q≠S'.N:=Nat.ne_of_lt (Xbn hq O.le.N)
     rw[aD _ _ _ _ Z];by_cases e:q=j
     . subst e;rw[aA]
     . rw[aD _ _ _ _ e];exact hn q hq h0
 exact h2 K M
theorem BF{α:Type}{p:α->Bool}:∀{l:List α} {n:Int},0<=n->lU p l n= -1->∀y∈l,p y=false
 | [],_,_,_,y,u=>by simp at u
 | a::r,n,hn,h,y,u=>by
   simp only[lU]at h;split at h
   . omega
   . next E=>
     rcases List.mem_cons.1 u with rfl|u
     . simpa using E
     . exact BF (by omega) h y u
theorem Be{α:Type}{p:α->Bool}:∀{l:List α} {n:Int},lU p l n≠ -1->∃(i:Nat) (y:α),lU p l n=n+i/\l[i]?=some y/\p y=true/\∀u∈l.take i,p u=false
 | [],_,h=>absurd rfl h
 | a::r,n,h=>by
   simp only[lU]at h |-;by_cases E:p a=true
   . exact⟨0,a,by rw[if_pos E];omega,rfl,E,by simp⟩
   . rw[if_neg E]at h |-
     obtain⟨i,y,h1,J,I,M⟩:=Be h;refine⟨i+1,y,by omega,J,I,fun u F=>?_⟩;rw[List.take_succ_cons]at F;rcases List.mem_cons.1 F with rfl|F
     . simpa using E
     . exact M u F
theorem yD{α:Type}(l:List α){m:Nat}{v:α}(h:m<l.length):(l.set m v).take (m+1)=l.take m++[v]:=by
 have u:(l.set m v)[m]?=some v:=by simp[h]
 rw[List.take_add_one,u,List.take_set_of_le (Xaf m)];rfl
theorem Xi(s:Stop)(a:Int):PC prog 245 [.agg (dR s),int a] (.tup [int (kO s a).1,int (kO s a).2]):=by
 refine pcd Tryz.func245 ?_;unfold Tryz.f245;simp only[gdS];simp only[go_sem];refine PC.use (Sq.PX s a) ?_;unfold kO;by_cases h:jW a s.start>s.close
 . simp only[if_pos h]
   simp only[go_sem];refine aB (fun u=>?_) (fun u=>?_)
   . simp only[go_sem]
     exact .refl _
   . simp at u
 . simp only[if_neg h]
   simp only[go_sem];refine aB (fun u=>?_) (fun u=>?_)
   . simp at u
   . simp only[go_sem]
     exact .refl _
theorem Zp(s:Stop)(out:List Clk)(c:Clk):(ZG s out c).length<=out.length+1:=by
 unfold ZG;split
 . omega
 . split
   . omega
   . have:=Xbt (fun d=> !Ik ⟨(kO s c.ready).1,c.since⟩ d) out
     rw[Xab,List.length_singleton];omega
theorem KR(s:Stop)(l:List Clk):∀k,((l.take k).foldl (ZG s) []).length<=k
 | 0=>by simp
 | k+1=>by
   have h:=KR s l k;by_cases E:k<l.length
   . obtain⟨c,u⟩:=aN E
     rw[Sq.gQ u];exact Xaj (Zp _ _ _) (by omega)
   . rw[Xan (by omega)]
     rw[Xan (by omega)]at h;omega
end Go.Proofs.YtohmomanmikphaaGreatDoor.Rx
end
section
namespace Go.Proofs.YtohmomanmikphaaGreatDoor.Rx
open Go.Aw Go.Aw.D Go.Proofs Ty Go.Nu
open Sq (W iM sZ vN zZ jE iE eM dH NetOk)
open Nu (wN wV Am ltB geB)
structure WkOk(w:Wk):Prop where
 net:NetOk w.x.net
 near:NearB w.near
 len:w.near.length=w.x.orders.length
 kind:w.kind<4611686018427387904
 dual:∀l,w.dual=some l->l.length=w.x.orders.length/\∀a∈l,a.size<=1048576
structure PartOk(p:Part):Prop where
 mem:p.memory<2^62
 board:p.board<2^62
 value:p.value.size<=1048576
theorem PQ(x y:Rat):(EB x y).1.size<=8194:=by
 by_cases h:(EB x y).2=0
 . obtain⟨e,u⟩:=zG h
   rw[e];exact GU u
 . have F : EB x y = (emp, 4) := by
     unfold EB at h |-;split
     . rfl
     . next E=>rw[if_neg E]at h;exact absurd rfl h
   rw[F];exact Xac _
theorem aaJ(a b:ByteArray):(zJ a b).1.size<=8194:=by
 unfold zJ;split
 . exact PQ _ _
 . exact Xac _
theorem XX(a b:ByteArray):(Ev a b).1.size<=8194:=by
 unfold Ev;split
 . exact PQ _ _
 . exact Xac _
theorem BE(a:ByteArray)(n:Int):(W8 a n).size<=8194:=by
 unfold W8;exact aaJ _ _
theorem aaB(a b:List Int)(h:a.length=b.length):(vN a b).length=a.length/\(zZ a b).length=a.length:=by
 constructor
 . show(List.zipWith _ a b).length=_
   rw[List.length_zipWith];omega
 . show(List.zipWith _ a b).length=_
   rw[List.length_zipWith];omega
theorem Wc(n:Int): -9223372036854775808<=IntKind.i64.wrap n/\IntKind.i64.wrap n<=9223372036854775807:=by
 have e:IntKind.i64.wrap n=Go.RowKit.wrap64 n:=IntWalk.i64_left n;rw[e];unfold Go.RowKit.wrap64;omega
theorem Xw{near:List Int}{m o:Nat}(u:m<2^62)(E:o<=61):adJ near m o<2^62:=by
 unfold adJ;exact Xbs (Nat.lt_of_le_of_lt Nat.and_le_left u) (Xby (by decide) (by omega))
theorem N6(a:ByteArray)(o:Nat)(d:Option (List ByteArray))(h:a.size<=1048576):(abE a o d).size<=1048576:=by
 cases d with
 | none=>exact h
 | some l=>exact Xaj (XX _ _) (by decide)
theorem S6{w:Wk}{p:Part}{o:Nat}(h:PartOk p)(u:o<=61):PartOk (lN w p o).1/\(lN w p o).1.load=p.load/\(lN w p o).1.clocks=p.clocks/\(lN w p o).1.visits=p.visits/\(lN w p o).1.place=p.place:=by
 unfold lN;split
 . exact⟨h,rfl,rfl,rfl,rfl⟩
 . exact⟨⟨Xw h.mem u,h.board,N6 _ _ _ (Xaj (BE _ _) (by decide))⟩,rfl,rfl,rfl,rfl⟩
theorem Nv{w:Wk}{p:Part}{o:Nat}{d:Bool}(h:PartOk p)(F:o<=61):PartOk (oX w p o d).1/\(oX w p o d).1.clocks=p.clocks/\(oX w p o d).1.visits=p.visits/\(oX w p o d).1.place=p.place:=by
 have E:p.board ||| 2^o<2^62:=Xbs h.board (Xby (by decide) (by omega));have u:T8 p.board o<2^62:=Nat.xor_lt_two_pow h.board (Nat.lt_of_le_of_lt Nat.and_le_left h.board);unfold oX;split
 . refine⟨⟨h.mem,?_,h.value⟩,rfl,rfl,rfl⟩
   show(if U7 (fG w.x o)=true then p.board ||| 2^o else p.board)<2^62;split
   . exact E
   . exact h.board
 . split
   . split
     . exact⟨⟨h.mem,u,h.value⟩,rfl,rfl,rfl⟩
     . exact⟨h,rfl,rfl,rfl⟩
   . exact⟨h,rfl,rfl,rfl⟩
abbrev xW(s:Stop):Row:=⟨109,4,[dR s]⟩
end Go.Proofs.YtohmomanmikphaaGreatDoor.Rx
end
section
namespace Go.Proofs.YtohmomanmikphaaGreatDoor.Rx
open Go.Aw Go.Aw.D Go.Proofs Ty Go.Nu
open Sq (W iM sZ vN zZ jE iE eM dH NetOk)
open Nu (wN wV Am ltB geB tV)
open Mv (bW cN NC.pc aT)
def adO(x:Instance)(k:Nat):VType:=x.types.getD k ⟨ByteArray.empty,0,0,0,[],0,0,0,0,0,0,0,0,0⟩
structure PInv(D:Nat)(p:Part):Prop where
 ok:PartOk p
 load:p.load.length=D
 clk:p.clocks.length<=2^p.visits
structure WkB(D:Nat)(w:Wk):Prop where
 ok:WkOk w
 dim:∀o,o<w.x.orders.length->(fG w.x o).load.length=D
 D:D<=1048576
 n:w.x.orders.length<=62
 most:w.most<=16
structure VisOk(x:Instance)(v:Visit):Prop where
 ex:∃o:Nat,v.order=(o:Nat)/\o<x.orders.length
theorem LS{D:Nat}{w:Wk}{p:Part}{o:Nat}{d:Bool}(u:p.load.length=D)(F:(fG w.x o).load.length=D):(oX w p o d).1.load.length=D:=by
 have E:=aaB p.load (fG w.x o).load (by omega);unfold oX;split
 . show(vN p.load (fG w.x o).load).length=D;omega
 . split
   . split
     . show(zZ p.load (fG w.x o).load).length=D;omega
     . exact u
   . exact u
theorem Ot(s:Stop)(l:List Clk):(Dp s l).length<=l.length:=by
 have:=KR s l l.length
 rwa [Xag]at this
theorem Ss(n:Network)(t:VType)(a b:Int)(l:List Clk):(DE n t a b l).1.length<=2*l.length:=by
 have:=PO n t a b l l.length
 rwa [Xag]at this
theorem Ts{D:Nat}{w:Wk}{p:Part}{v:Visit}(hw:WkB D w)(h:PInv D p)(hv:VisOk w.x v)(u:(AE w p v).2=true):PInv D (AE w p v).1/\(AE w p v).1.visits=p.visits+1/\p.visits<w.most:=by
 obtain⟨o,ad,ho⟩:=hv.ex;have aa:v.order.toNat=o:=by rw[ad];rfl
 have E:o<=61:=by have:=hw.n;omega
 unfold AE at u |-;rw[aa]at u |-;by_cases h1:(decide ((p.visits:Int)>=(w.most:Int))||(fG w.x o).off|| !sZ w.t.skills (fG w.x o).skills)=true
 . rw[if_pos h1]at u;cases u
 rw[if_neg h1]at u |-;have ab:p.visits<w.most:=by
   simp only[Xbl,decide_eq_true_eq,not_or]at h1;have:=h1.1.1;omega
 have hs:PartOk (if(!v.drop||decide ((fG w.x o).pick.place<0))=true then lN w p o else(p,true)).1/\(if(!v.drop||decide ((fG w.x o).pick.place<0))=true then lN w p o else(p,true)).1.load=p.load/\(if(!v.drop||decide ((fG w.x o).pick.place<0))=true then lN w p o else(p,true)).1.clocks=p.clocks/\(if(!v.drop||decide ((fG w.x o).pick.place<0))=true then lN w p o else(p,true)).1.visits=p.visits:=by
   split
   . have:=S6 (w:=w) h.ok E
     exact⟨this.1,this.2.1,this.2.2.1,this.2.2.2.1⟩
   . exact⟨h.ok,rfl,rfl,rfl⟩
 generalize (if(!v.drop||decide ((fG w.x o).pick.place<0))=true then lN w p o else(p,true))=S at *;simp only at u |-;by_cases h2:S.2=true
 . rw[if_pos h2]at u |-
   obtain⟨M,T,ac,F⟩:=hs;have hl:=Nv (w:=w) (o:=o) (d:=v.drop) M E;have O:=LS (D:=D) (w:=w) (p:=S.1) (o:=o) (d:=v.drop) (by rw[T];exact h.load) (hw.dim o ho);generalize oX w S.1 o v.drop=L at *;by_cases h3:L.2=true
   . rw[if_pos h3]at u |-
     by_cases h4:((eM w.x v).2 != 0)=true
     . rw[if_pos h4]at u;cases u
     rw[if_neg h4]at u |-;obtain⟨J,Z,I,ae⟩:=hl;have hc:L.1.clocks.length<=2^p.visits:=by rw[Z,ac];exact h.clk
     have hd:=Ss w.x.net w.t L.1.place (eM w.x v).1.place L.1.clocks;have af:=Ot (eM w.x v).1 (DE w.x.net w.t L.1.place (eM w.x v).1.place L.1.clocks).1;refine⟨⟨⟨J.mem,J.board,Xaj (BE _ _) (by decide)⟩,O,?_⟩,?_,ab⟩
     . show(Dp (eM w.x v).1 (DE w.x.net w.t L.1.place (eM w.x v).1.place L.1.clocks).1).length<=2^(L.1.visits+1)
       rw[I,F,Nat.pow_succ];omega
     . show L.1.visits+1=_
       rw[I,F]
   . rw[if_neg h3]at u;cases u
 . rw[if_neg h2]at u;cases u
def arB(w:Wk)(p:Part)(n:Int):Int:=if(aqM w p).2.2=true then W (n+1)else n
def countP(w:Wk)(vs:List Visit):Nat->Part->Int->Int
 | 0,p,n=>arB w p n
 | f+1,p,n=>vs.foldl (fun n v=>if n>8192 then n else if(AE w p v).2=true then countP w vs f (AE w p v).1 n else n) (arB w p n)
structure XB(D:Nat)(x:Instance):Prop where
 net:NetOk x.net
 dim:∀o,o<x.orders.length->(fG x o).load.length=D
 cap:∀k,k<x.types.length->(adO x k).cap.length=D
 D:D<=1048576
 n:x.orders.length<=8
 types:x.types.length<=1048576
end Go.Proofs.YtohmomanmikphaaGreatDoor.Rx
end
section
namespace Go.Proofs.YtohmomanmikphaaGreatDoor.Rx
open Go.Aw Go.Aw.D Go.Proofs Ty Go.Nu
open Sq (W iM sZ vN zZ jE iE eM dH NetOk lU mS kN nX)
open Nu (wN wV Am ltB geB tV xB)
open Mv (bW cN NC.pc aT)
section
variable{H:aG}{w:Wk}{jw jk jm jf:Nat}{known more fresh:List Part}
end
structure SI(D:Nat)(w:Wk)(r m K:Nat)(s:Srch):Prop where
 known:∀p∈s.known,PInv D p/\p.visits<=6
 more:∀p∈s.more,PInv D p/\p.visits=r+1/\r+1<=w.most
 ml:s.more.length<=m
 kl:s.known.length<=K+s.more.length
 best:s.best.size<=8194
theorem SI.le{D:Nat}{w:Wk}{r m u K:Nat}{s:Srch}(h:SI D w r m K s)(E:m<=u):SI D w r u K s:=⟨h.known,h.more,Xaj h.ml E,h.kl,h.best⟩
theorem VS(w:Wk)(q:Part)(e m:Int):(MI w q e m).size<=8194:=BE _ _
theorem ML(w:Wk)(s:Srch)(q:Part):(Tu w s q).known=s.known++[q]/\(Tu w s q).more=s.more++[q]/\((Tu w s q).best=s.best\/∃e m,(Tu w s q).best=MI w q e m):=by
 unfold Tu;simp only;split
 . exact⟨rfl,rfl,.inr ⟨_,_,rfl⟩⟩
 . exact⟨rfl,rfl,.inl rfl⟩
theorem SI.try{D:Nat}{w:Wk}{r m K:Nat}{s:Srch}(h:SI D w r m K s)(Z:WkB D w)(aa:w.most<=6){p:Part}(hp:PInv D p)(ab:p.visits=r){v:Visit}(hv:VisOk w.x v):SI D w r (m+1) K (apC w p s v):=by
 unfold apC;simp only;split
 . exact h.le (Nat.le_succ m)
 . next T=>
   simp only[Xbl,not_or]at T;have J:(AE w p v).2=true:=by simpa using T.1
   obtain⟨O,q2,q3⟩:=Ts Z hp hv J;obtain⟨M,I,F⟩:=ML w s (AE w p v).1;refine⟨fun u E=>?_,fun u E=>?_,?_,?_,?_⟩
   . rw[M]at E
     rcases Xba.1 E with E|E
     . exact h.known u E
     . rw[Xat]at E;subst E;exact⟨O,by omega⟩
   . rw[I]at E
     rcases Xba.1 E with E|E
     . exact h.more u E
     . rw[Xat]at E;subst E;exact⟨O,by omega,by omega⟩
   . rw[I,Xab,List.length_singleton];have:=h.ml;omega
   . rw[M,I,Xab,Xab];have:=h.kl;omega
   . rcases F with F|⟨e,mm,F⟩
     . rw[F];exact h.best
     . rw[F];exact VS _ _ _ _
end Go.Proofs.YtohmomanmikphaaGreatDoor.Rx
end
section
namespace Go.So
variable{α:Type}
structure SWO(lt:α->α->Bool):Prop where
 asym:∀a b,lt a b=true->lt b a=false
 neg:∀a b c,lt a b=false->lt b c=false->lt a c=false
def tlt(lt:α->α->Bool)(p q:α×Nat):Prop:=lt p.1 q.1=true\/(lt q.1 p.1=false/\p.2<q.2)
section
variable{lt:α->α->Bool}(h:SWO lt)
include h
theorem amG{a b c:α}(h1:lt a b=true)(u:lt c b=false):lt a c=true:=by
 cases E:lt a c with
 | true=>rfl
 | false=>have:=h.neg _ _ _ E u;rw[h1]at this;cases this
theorem acI{a b c:α}(h1:lt a b=true)(u:lt a c=false):lt c b=true:=by
 cases E:lt c b with
 | true=>rfl
 | false=>have:=h.neg _ _ _ u E;rw[h1]at this;cases this
theorem QK{p q:α×Nat}(h1:tlt lt p q):lt q.1 p.1=false:=h1.elim (fun e=>h.asym _ _ e) (fun e=>e.1)
theorem sS{p q r:α×Nat}(h1:tlt lt p q)(u:tlt lt q r):tlt lt p r:=by
 rcases h1 with h1|⟨h1,E⟩
 . exact .inl (amG h h1 (QK h u))
 . rcases u with u|⟨u,F⟩
   . exact .inl (acI h u h1)
   . exact .inr ⟨h.neg _ _ _ u h1,by omega⟩
theorem WP{p q:α×Nat}(h1:tlt lt p q)(u:tlt lt q p):False:=by
 rcases h1 with h1|⟨h1,E⟩
 . have:=QK h u;rw[h1]at this;cases this
 . rcases u with u|⟨u,F⟩
   . rw[h1]at u;cases u
   . omega
end
theorem Cp{R:α->α->Prop}(M:∀a b,R a b->R b a->False):∀J I:List α,J.Perm I->J.Pairwise R->I.Pairwise R->J=I
 | [],I,hp,_,_=>(List.nil_perm.1 hp).symm
 | a::t,[],hp,_,_=>absurd hp.length_eq (by simp)
 | a::t,b::u,hp,h1,h2=>by
   have F:=List.pairwise_cons.1 h1;have E:=List.pairwise_cons.1 h2;by_cases e:a=b
   . subst e
     rw[Cp M t u ((List.perm_cons a).1 hp) F.2 E.2]
   . have T:a∈u:=(List.mem_cons.1 (hp.mem_iff.1 (List.mem_cons_self ..))).resolve_left e
     have O:b∈t:=(List.mem_cons.1 (hp.mem_iff.2 (List.mem_cons_self ..))).resolve_left (fun x=>e x.symm);exact(M a b (F.1 b O) (E.1 a T)).elim
def ins(lt:α->α->Bool)(x:α):List α->List α
 | []=>[x]
 | z::r=>if lt x z=true then x::z::r else z::ins lt x r
def vQ(lt:α->α->Bool)(l:List α):List α:=l.foldl (fun acc x=>ins lt x acc) []
theorem AC(lt:α->α->Bool)(x:α):∀l:List α,(ins lt x l).Perm (x::l)
 | []=>.refl _
 | z::r=>by
   unfold ins;split
   . exact .refl _
   . exact((AC lt x r).cons z).trans (.swap x z r)
theorem QH{u:Type}(lt:α->α->Bool)(f:u->α)(x:u):∀l:List u,(ins (fun a b=>lt (f a) (f b)) x l).map f=ins lt (f x) (l.map f)
 | []=>rfl
 | z::r=>by
   rw[List.map_cons];unfold ins;split
   . rfl
   . rw[List.map_cons,QH lt f x r]
theorem QF{lt:α->α->Bool}{x y:α}{l:List α}:y∈ins lt x l↔y=x\/y∈l:=by rw[(AC lt x l).mem_iff,List.mem_cons]
theorem D6{lt:α->α->Bool}(h:SWO lt)(x:α×Nat):∀l:List (α×Nat),l.Pairwise (tlt lt)->(∀y∈l,y.2<x.2)->(ins (fun a b=>lt a.1 b.1) x l).Pairwise (tlt lt)
 | [],_,_=>by simp[ins]
 | z::r,hs,hr=>by
   have E:=List.pairwise_cons.1 hs;unfold ins;split
   . next F=>
     refine List.pairwise_cons.2 ⟨fun y u=>?_,hs⟩;rcases List.mem_cons.1 u with rfl|u
     . exact .inl F
     . exact sS h (.inl F) (E.1 y u)
   . next F=>
     refine List.pairwise_cons.2 ⟨fun y u=>?_,D6 h x r E.2 fun y u=>hr y (List.mem_cons_of_mem _ u)⟩;rcases QF.1 u with rfl|u
     . exact .inr ⟨by simpa using F,hr z (List.mem_cons_self ..)⟩
     . exact E.1 y u
theorem Ho{lt:α->α->Bool}(h:SWO lt):∀(l u:List (α×Nat)) (k:Nat),u.Pairwise (tlt lt)->(∀y∈u,y.2<k)->(∀i (y:α×Nat),l[i]?=some y->y.2=k+i) ->
   ((l.foldl (fun a x=>ins (fun a b=>lt a.1 b.1) x a) u).Pairwise (tlt lt)/\(l.foldl (fun a x=>ins (fun a b=>lt a.1 b.1) x a) u).Perm (u++l)/\(l.foldl (fun a x=>ins (fun a b=>lt a.1 b.1) x a) u).map Prod.fst=(l.map Prod.fst).foldl (fun a x=>ins lt x a) (u.map Prod.fst))
 | [],u,k,hs,_,_=>⟨hs,by simp,rfl⟩
 | x::l,u,k,hs,hk,hl=>by
   have I:x.2=k:=by have:=hl 0 x rfl;omega
   have ih:=Ho h l (ins (fun a b=>lt a.1 b.1) x u) (k+1) (D6 h x u hs fun y E=>by have:=hk y E;omega) (fun y E=>by
     rcases QF.1 E with rfl|E
     . omega
     . have:=hk y E;omega) (fun i y F=>by have:=hl (i+1) y (by simpa using F);omega)
   rw[List.foldl_cons];refine⟨ih.1,ih.2.1.trans ?_,?_⟩
   . refine((AC _ x u).append_right l).trans ?_
     exact List.perm_middle.symm
   . rw[ih.2.2,QH lt Prod.fst x u,List.map_cons,List.foldl_cons]
def tag(l:List α):List (α×Nat):=l.zipIdx
theorem HU(l:List α):(tag l).map Prod.fst=l:=by unfold tag;exact List.zipIdx_map_fst 0 l
theorem Az{l:List α}{i:Nat}{y:α×Nat}(h:(tag l)[i]?=some y):y.2=i:=by
 unfold tag at h;rw[List.getElem?_zipIdx]at h;cases u:l[i]? with
 | none=>rw[u]at h;cases h
 | some a=>rw[u]at h;simp at h;rw[<-h]
theorem Z9(l:List α):(tag l).length=l.length:=by unfold tag;exact List.length_zipIdx
theorem TA{lt:α->α->Bool}(h:SWO lt){l:List α}{L:List (α×Nat)}(F:L.Perm (tag l))(E:L.Pairwise (tlt lt)):L.map Prod.fst=vQ lt l:=by
 have u:=Ho h (tag l) [] 0 List.Pairwise.nil (by simp) (fun i y I=>by have:=Az I;omega);rw[Cp (fun a b=>WP h) L _ (F.trans u.2.1.symm) E u.1,u.2.2,HU];rfl
section
variable{lt:α->α->Bool}(h:SWO lt)
include h
theorem yX{Q B:List (α×Nat)}{x:α×Nat}(hs:(Q++B).Pairwise (tlt lt))(h1:∀y,Q.getLast?=some y->tlt lt y x)(Z:∀y,B.head?=some y->tlt lt x y):(Q++x::B).Pairwise (tlt lt):=by
 obtain⟨T,O,F⟩:=List.pairwise_append.1 hs;have J:∀b∈B,tlt lt x b:=by
   intro b E;cases B with
   | nil=>cases E
   | cons y r=>
     rcases List.mem_cons.1 E with rfl|E
     . exact Z b rfl
     . exact sS h (Z y rfl) ((List.pairwise_cons.1 O).1 b E)
 have I:∀a∈Q,tlt lt a x:=by
   intro a u;rcases List.eq_nil_or_concat Q with rfl|⟨Q',y,rfl⟩
   . cases u
   . rw[List.concat_eq_append]at *
     have M:=h1 y (by simp);rcases List.mem_append.1 u with u|u
     . exact sS h ((List.pairwise_append.1 T).2.2 a u y (by simp)) M
     . rw[List.mem_singleton.1 u];exact M
 refine List.pairwise_append.2 ⟨T,List.pairwise_cons.2 ⟨J,O⟩,fun a u b E=>?_⟩;rcases List.mem_cons.1 E with rfl|E
 . exact I a u
 . exact F a u b E
theorem AD{T A2 M O J Z:List (α×Nat)}(hA:(T++A2).Pairwise (tlt lt))(hB:(M++O).Pairwise (tlt lt))
   (h1:∀x y,T.getLast?=some x->O.head?=some y->tlt lt x y) (h2:∀x y,M.getLast?=some x->A2.head?=some y->tlt lt x y)
   (p1:J.Perm (T++M)) (p2:Z.Perm (A2++O)) (s1:J.Pairwise (tlt lt)) (s2:Z.Pairwise (tlt lt)):
   (J++Z).Pairwise (tlt lt)/\(J++Z).Perm ((T++A2)++(M++O)):=by
 have Uj:∀{X Y:List (α×Nat)},X.Pairwise (tlt lt)->Y.Pairwise (tlt lt)->(∀x y,X.getLast?=some x->Y.head?=some y->tlt lt x y)->∀x∈X,∀y∈Y,tlt lt x y:=by
   intro X Y hX hY hc x E y u;rcases List.eq_nil_or_concat X with rfl|⟨X',z,rfl⟩
   . cases E
   . rw[List.concat_eq_append]at *
     cases Y with
     | nil=>cases u
     | cons w r=>
       have I:=hc z w (by simp) rfl;have ad:x=z\/tlt lt x z:=by
         rcases List.mem_append.1 E with E|E
         . exact .inr ((List.pairwise_append.1 hX).2.2 x E z (by simp))
         . exact .inl (List.mem_singleton.1 E)
       have ac:y=w\/tlt lt w y:=by
         rcases List.mem_cons.1 u with u|u
         . exact .inl u
         . exact .inr ((List.pairwise_cons.1 hY).1 y u)
       have F:tlt lt x w:=ad.elim (fun e=>e▸I) (fun e=>sS h e I);exact ac.elim (fun e=>e▸F) (fun e=>sS h F e)
 obtain⟨a1,a2,aa⟩:=List.pairwise_append.1 hA;obtain⟨b1,b2,ab⟩:=List.pairwise_append.1 hB;refine⟨List.pairwise_append.2 ⟨s1,s2,fun x E y u=>?_⟩,?_⟩
 . rcases List.mem_append.1 (p1.mem_iff.1 E)with E|E <;> rcases List.mem_append.1 (p2.mem_iff.1 u)with u|u
   . exact aa x E y u
   . exact Uj a1 b2 h1 x E y u
   . exact Uj b1 a2 h2 x E y u
   . exact ab x E y u
 . refine(p1.append p2).trans ?_
   rw[List.append_assoc,List.append_assoc];refine List.Perm.append_left _ ?_;rw[<-List.append_assoc,<-List.append_assoc];exact(List.perm_append_comm).append_right _
end
def swp(l:List α)(i j:Nat):List α:=match l[i]?,l[j]? with
 | some x,some y=>(l.set i y).set j x
 | _,_=>l
theorem Zf(l:List α)(i j:Nat):(swp l i j).length=l.length:=by
 unfold swp;split <;> simp
theorem Xm{U V W:List α}{x y:α}{i j:Nat}(F:i=U.length)(u:j=U.length+1+V.length):swp (U++x::(V++y::W)) i j=U++y::(V++x::W):=by
 subst F u;unfold swp;have E:(U++x::(V++y::W))[U.length]?=some x:=by simp
 have I:(U++x::(V++y::W))[U.length+1+V.length]?=some y:=by
   rw[List.getElem?_append_right (by omega),show U.length+1+V.length-U.length=V.length+1 by omega,List.getElem?_cons_succ,List.getElem?_append_right (by omega)];simp
 rw[E,I];simp only;rw[List.set_append_right _ _ (by omega),show U.length-U.length=0 by omega,List.set_cons_zero,List.set_append_right _ _ (by omega),show U.length+1+V.length-U.length=V.length+1 by omega,List.set_cons_succ,List.set_append_right _ _ (by omega),Nat.sub_self,List.set_cons_zero]
theorem E7{U W:List α}{x y:α}{i j:Nat}(E:i=U.length)(u:j=U.length+1):swp (U++x::y::W) i j=U++y::x::W:=Xm (V:=[]) E (by simpa using u)
theorem Jt(l:List α)(i j:Nat)(h:i≠j):swp l i j=swp l j i:=by
 unfold swp;cases l[i]? with
 | none=>cases l[j]? <;> rfl
 | some x=>cases l[j]? with
   | none=>rfl
   | some y=>exact List.set_comm _ _ h
def At(l:List α)(a b:Nat):Nat->List α
 | 0=>l
 | n+1=>swp (At l a b n) (a+n) (b+n)
theorem Jz(l:List α)(a b:Nat):∀n,(At l a b n).length=l.length
 | 0=>rfl
 | n+1=>by rw[At,Zf,Jz l a b n]
theorem Qg{P X V Y S:List α}(h:X.length=Y.length):∀n,n<=X.length->At (P++X++V++Y++S) P.length (P.length+X.length+V.length) n=P++(Y.take n++X.drop n)++V++(X.take n++Y.drop n)++S
 | 0,_=>by simp[At]
 | n+1,hn=>by
   rw[At,Qg h n (by omega)];have E:n<X.length:=by omega
   have u:n<Y.length:=by omega
   rw[<-List.getElem_cons_drop (h:=E),<-List.getElem_cons_drop (h:=u)];have e:=Xm (U:=P++Y.take n) (V:=X.drop (n+1)++V++X.take n) (W:=Y.drop (n+1)++S) (x:=X[n]) (y:=Y[n]) (i:=P.length+n) (j:=P.length+X.length+V.length+n) (by rw[List.length_append,List.length_take];omega) (by
     simp only[List.length_append,List.length_take,List.length_drop];omega)
   simp only[List.append_assoc,List.cons_append]at e |-;rw[e];simp only[List.take_add_one,List.getElem?_eq_getElem E,List.getElem?_eq_getElem u,Option.toList_some,List.append_assoc,List.cons_append,List.nil_append]
theorem EQ{P X V Y S:List α}{a b n:Nat}(F:a=P.length)(E:b=P.length+X.length+V.length)(u:n=X.length)(h:Y.length=n):At (P++X++V++Y++S) a b n=P++Y++V++X++S:=by
 subst F E u;rw[Qg h.symm _ (Nat.le_refl _),List.take_of_length_le (by omega),List.drop_length,List.append_nil,List.take_length,List.drop_of_length_le (by omega),List.append_nil]
def CA(A B:List (α×Nat)):Prop:=∀x∈A,∀y∈B,x.2<y.2
structure Good(lt:α->α->Bool)(R:List (List (α×Nat))):Prop where
 srt:∀A∈R,A.Pairwise (tlt lt)
 rk:R.Pairwise CA
def qM(n:Nat):List (List (α×Nat))->Prop
 | []=>True
 | [A]=>1<=A.length/\A.length<=n
 | A::B::r=>A.length=n/\qM n (B::r)
theorem OQ{n:Nat}{A:List (α×Nat)}{r:List (List (α×Nat))}(h1:A.length=n)(h0:1<=n)(h:qM n r):qM n (A::r):=by
 cases r with
 | nil=>exact⟨by omega,by omega⟩
 | cons B r=>exact⟨h1,h⟩
theorem xQ{n:Nat}{D r:List (List (α×Nat))}(h1:∀A∈D,A.length=n)(h0:1<=n)(h:qM n r):qM n (D++r):=by
 induction D with
 | nil=>exact h
 | cons A D ih=>exact OQ (h1 A (by simp)) h0 (ih fun A u=>h1 A (by simp[u]))
theorem To{n:Nat}{R:List (List (α×Nat))}(h0:1<=n)(h:qM n R)(u:2*n<=R.flatten.length):∃A B r,R=A::B::r/\A.length=n/\B.length=n/\qM n r:=by
 match R,h with
 | [],_=>simp at u;omega
 | [A],h=>simp at u;have:=h.2;omega
 | [A,B],h=>exact⟨A,B,[],rfl,h.1,by have:=h.1;have:=h.2.2;simp at u;omega,trivial⟩
 | A::B::C::r,h=>exact⟨A,B,C::r,rfl,h.1,h.2.1,h.2.2⟩
theorem Pd{n:Nat}{R:List (List (α×Nat))}(h:qM n R)(E:R.flatten.length<2*n)(u:n<R.flatten.length):∃A B,R=[A,B]/\A.length=n/\1<=B.length/\B.length<=n:=by
 match R,h with
 | [],_=>simp at u
 | [A],h=>simp at u;have:=h.2;omega
 | [A,B],h=>exact⟨A,B,rfl,h.1,h.2.1,h.2.2⟩
 | A::B::C::r,h=>have:=h.1;have:=h.2.1;simp at E;omega
theorem F9{n:Nat}{R:List (List (α×Nat))}(h0:1<=n)(h:qM n R)(u:R.flatten.length<=n):R=[]\/∃A,R=[A]/\1<=A.length/\A.length<=n:=by
 match R,h with
 | [],_=>exact .inl rfl
 | [A],h=>exact .inr ⟨A,rfl,h⟩
 | [A,B],h=>have:=h.1;have:=h.2.1;simp at u;omega
 | A::B::C::r,h=>have:=h.1;have:=h.2.1;simp at u;omega
theorem DU{lt:α->α->Bool}{D r:List (List (α×Nat))}{A B:List (α×Nat)}(h:Good lt (D++A::B::r)):CA A B/\A.Pairwise (tlt lt)/\B.Pairwise (tlt lt):=by
 have u:=(List.pairwise_append.1 h.rk).2.1;exact⟨(List.pairwise_cons.1 u).1 B (by simp),h.srt A (by simp),h.srt B (by simp)⟩
theorem E2{lt:α->α->Bool}{D r:List (List (α×Nat))}{A B M:List (α×Nat)}(h:Good lt (D++A::B::r))(T:M.Perm (A++B))(hs:M.Pairwise (tlt lt)):Good lt (D++M::r):=by
 obtain⟨Z,q2,J⟩:=List.pairwise_append.1 h.rk;obtain⟨q4,q5⟩:=List.pairwise_cons.1 q2;obtain⟨q6,q7⟩:=List.pairwise_cons.1 q5;refine⟨fun C u=>?_,List.pairwise_append.2 ⟨Z,List.pairwise_cons.2 ⟨fun C u x I y F=>?_,q7⟩,fun C u E O=>?_⟩⟩
 . rcases List.mem_append.1 u with u|u
   . exact h.srt C (by simp[u])
   . rcases List.mem_cons.1 u with rfl|u
     . exact hs
     . exact h.srt C (by simp[u])
 . rcases List.mem_append.1 (T.mem_iff.1 I)with I|I
   . exact q4 C (by simp[u]) x I y F
   . exact q6 C u x I y F
 . rcases List.mem_cons.1 O with rfl|O
   . intro x I y F
     rcases List.mem_append.1 (T.mem_iff.1 F)with F|F
     . exact J C u A (by simp) x I y F
     . exact J C u B (by simp) x I y F
   . exact J C u E (by simp[O])
theorem Xh{lt:α->α->Bool}{n:Nat}{R:List (List (α×Nat))}(h:Good lt R)(h0:1<=n)(u:qM n R)(E:R.flatten.length<=n):R.flatten.Pairwise (tlt lt):=by
 rcases F9 h0 u E with rfl|⟨A,rfl,_⟩
 . exact List.Pairwise.nil
 . simpa using h.srt A (by simp)
theorem GE{lt:α->α->Bool}{D:List (List (α×Nat))}{A:List (α×Nat)}(h:Good lt D)(F:A.Pairwise (tlt lt))(I:∀B∈D,CA B A):Good lt (D++[A]):=by
 refine⟨fun C u=>?_,List.pairwise_append.2 ⟨h.rk,List.pairwise_singleton _ _,fun C u E J=>?_⟩⟩
 . rcases List.mem_append.1 u with u|u
   . exact h.srt C u
   . rw[List.mem_singleton.1 u];exact F
 . rw[List.mem_singleton.1 J];exact I C u
theorem Td{l:List α}{P Q:List (α×Nat)}(h:P++Q=tag l):CA P Q:=by
 intro x J y F;obtain⟨i,u,rfl⟩:=List.getElem_of_mem J;obtain⟨j,E,rfl⟩:=List.getElem_of_mem F;have I:(tag l)[i]?=some P[i]:=by rw[<-h,List.getElem?_append_left u,List.getElem?_eq_getElem u]
 have M:(tag l)[P.length+j]?=some Q[j]:=by rw[<-h,List.getElem?_append_right (by omega),Nat.add_sub_cancel_left,List.getElem?_eq_getElem E]
 rw[Az I,Az M];omega
end Go.So
end
section
namespace Go.Proofs.YtohmomanmikphaaGreatDoor.Rx
open Go.Proofs.Tryz(prog)
open Go.Aw Go.Aw.D Go.Proofs Ty Go.Nu Go.So
open Nu (ltB geB)
abbrev wA(l:List Int):Row:=⟨3,1,l.map bN⟩
theorem EU(x:Int):(bN x).length=1:=(rfl)
abbrev TB:=Int×Nat
def fs(L:List TB):List Int:=L.map Prod.fst
structure CmpOk(gf:Nat)(cap':List AV)(lt:Int->Int->Bool)(ok:Int->Prop):Prop where
 call:aC Tryz.prog gf=true
 cmp:∀x y,ok x->ok y->∃n:Int,decide (n<0)=lt x y/\PC Tryz.prog gf (int x::int y::cap') (int n)
section
variable{gf:Nat}{cx:AV}{jc:Nat}{rc:Row}{cap':List AV}{lt:Int->Int->Bool}{ok:Int->Prop}
end
end Go.Proofs.YtohmomanmikphaaGreatDoor.Rx
end
section
namespace Go.Proofs.YtohmomanmikphaaGreatDoor.Rx
open Go.Aw Go.Aw.D Go.Proofs Ty Go.Nu Go.So
open Sq (W iE eM dH NetOk lU mS kN nX)
open Nu (ltB geB BT)
open Mv (bW cN NC.pc aT)
end Go.Proofs.YtohmomanmikphaaGreatDoor.Rx
end
section
namespace Go.Proofs.YtohmomanmikphaaGreatDoor.Rx
open Go.Aw Go.Aw.D Go.Proofs Ty Go.Nu Go.So
open Sq (W iE eM dH NetOk)
open Nu (ltB geB)
open Mv (bW cN NC.pc aT)
def jV(s i:Nat):Bool:=s/2^i%2 == 1
def Lm(o:Order):List Int:=(if decide (o.pick.place>=0)=true then[o.pick.place]else[])++(if decide (o.drop.place>=0)=true then[o.drop.place]else[])
def fR(near:List Int)(m o:Nat)(s i:Nat):Nat:=if(i == o||(jV m i&&jV (near.getD o 0).toNat i))=true then s+2^i else s
def d32A(p q:Int)(out:Int)(w:Arc):Int:=if((w.src == p&&w.dst == q)||(w.src == q&&w.dst == p))=true then ZH out w.miles else out
def d32Q(arcs:List Arc)(p:Int)(out q:Int):Int:=arcs.foldl (d32A p q) (if(p == q)=true then 0 else out)
def d32P(arcs:List Arc)(Q:List Int)(out p:Int):Int:=Q.foldl (d32Q arcs p) out
def Un(x:Instance)(a b:Nat):Int:=(Lm (fG x a)).foldl (d32P x.net.arcs (Lm (fG x b))) 10001
def AH(x:Instance)(a set:Nat)(best:Int)(b:Nat):Int:=if(!jV set b&&(decide (best<0)||decide (Un x a b<Un x a best.toNat)))=true then(b:Int)else best
end Go.Proofs.YtohmomanmikphaaGreatDoor.Rx
end
section
namespace Go.Proofs.YtohmomanmikphaaGreatDoor.Rx
open Go.Aw Go.Aw.D Go.Proofs Ty Go.Nu Go.So
open Sq (W iE eM dH NetOk iM)
open Nu (ltB geB)
open Mv (bW cN NC.pc aT)
structure Mom where
 time:Int
 driven:Int
structure RP where
 place:Int
 visits:Nat
 miles:Int
 moms:List Mom
 memory:Nat
 board:Nat
 load:List Int
 moved:Int
 other:Int
 dual:ByteArray
structure Rs where
 x:Instance
 t:VType
 kind:Nat
 near:List Int
 dual:List ByteArray
 most:Nat
 count:Int
 limited:Bool
 found:Bool
 least:ByteArray
section
variable(p:RP)
end
section
variable(w:Rs)
end
def arrM(n:Network)(t:VType)(place goal close:Int)(s:List Mom×Int)(m:Mom):List Mom×Int:=
 (if(((iM n t.profile place goal m.time).2.2 == 0&&decide ((iM n t.profile place goal m.time).1<=close))&&decide (W (W (m.driven+(iM n t.profile place goal m.time).1)-m.time)<=t.drive))=true
  then s.1++[⟨(iM n t.profile place goal m.time).1,W (W (m.driven+(iM n t.profile place goal m.time).1)-m.time)⟩]else s.1,(iM n t.profile place goal m.time).2.1)
def Fw(n:Network)(t:VType)(place goal close:Int)(l:List Mom):List Mom×Int:=l.foldl (arrM n t place goal close) ([],0)
end Go.Proofs.YtohmomanmikphaaGreatDoor.Rx
end
section
namespace Go.Aw
open Go.RowKit
section
variable{P:Program}{f:FuncId}{args:List AV}{H H1:aG}{K:AV->aG->Prop}{r:AV}
def MC(P:Program)(f:FuncId)(args:List AV)(H H1:aG)(r:AV):Prop:=∀K:AV->aG->Prop,K r H1->aX P f args H K
theorem MC.use(h:MC P f args H H1 r)(u:K r H1):aX P f args H K:=h K u
theorem aX.dataM(hs:∀k,H k=none->H1 k=none)(h:aX P f args H (Ij H1 r))(hK:K r H1):aX P f args H K:=by
 intro S w vals hS O;refine(h S w vals hS O).mono fun e w' ⟨v,x,H',S',I,⟨hm,l,J,Z⟩,E,hv,M,hn⟩=>?_
 obtain⟨h1,h2,T⟩:=E.frz l;refine⟨v,r,H1,S'.froze _,I,hK,h1.drop (fun k row F=>?_),Z.rep T hv,M.trans h2,fun k _ h0=>hs k h0⟩;have u:¬k∈l:=fun u=>by rw[J k u]at F;cases F
 show(if k∈l then none else H' k)=some row;rw[if_neg u];exact hm k row F
theorem MC.body{fn:Func}{c:Code}(mt:Nat->Bool)(u:∀k,H k=none->H1 k=none)(J:P.follows .mixedOrders=true)(E:P.funcs[f]?=some fn)(I:fn.body=some c)(M:yG fn c args.length=true)
 (h:awp P (aX P) (cZ P) mt c (Fg P fn.results.toList (Ij H1 r)) (Bg args) H):MC P f args H H1 r:=fun K F=>aX.dataM u (aX.body mt J E I M h) F
theorem J5{H:aG}{j:Nat}{a:Row}(h:H j=some a):aI H j (some a)=H:=funext fun k=>by
 by_cases e:k=j
 . subst e;rw[aA,h]
 . rw[aD _ _ _ _ e]
theorem RU(H:aG)(j:Nat)(a b:Option Row):aI (aI H j a) j b=aI H j b:=funext fun k=>by
 by_cases e:k=j
 . subst e;rw[aA,aA]
 . rw[aD _ _ _ _ e,aD _ _ _ _ e,aD _ _ _ _ e]
theorem Sup.set{H H':aG}(h:Sup H H')(j:Nat)(a:Option Row):Sup (aI H j a) (aI H' j a):=fun k row u=>by
 by_cases e:k=j
 . subst e;rw[aA]at u |-;exact u
 . rw[aD _ _ _ _ e]at u |-;exact h k row u
theorem Sup.set2{H H':aG}{j:Nat}{b:Option Row}(h:Sup (aI H j b) H')(a:Option Row):Sup (aI H j a) (aI H' j a):=by
 have:=Sup.set h j a
 rwa [RU]at this
theorem OP{H:aG}{j:Nat}{a:Option Row}{b:Row}(h:H j=some b):∀k,H k=none->aI H j a k=none:=fun k u=>by
 by_cases e:k=j
 . subst e;rw[h]at u;cases u
 . rw[aD _ _ _ _ e,u]
theorem AO{P:Program}{C:kH}{PC:FuncId->List AV->aG->AV->Prop}{mt:Nat->Bool}{ops:List Oper}{K:Env->aG->Prop}{m:Nat}{ρ:Env}{H:aG}(l:List Nat)(t:Mx)(J:Env->aG->Prop)(F:∀k,k∈l->(H k).isSome=true)(I:Kz ops.toArray t=true)
 (h:∀K':Env->aG->Prop,(∀u H',J u H'->K' u H')->∀Hp E:aG,(∀k,k∈l->Hp k=H k)->(∀k,k∉l->E k=H k)->(∀k,k∉l->Hp k=none)->(∀k,k∈l->E k=none)->lC P C PC mt ops.toArray (kU l H K') Hp t ρ E)
 (M:∀u H',J u H'->K u H'):qW P C PC mt ops.toArray K m ρ H:=uM l t F I (h K M)
end
end Go.Aw
namespace Go.Proofs.YtohmomanmikphaaGreatDoor.Rx
open Go.Aw Go.Aw.D Go.Proofs Ty Go.Nu Go.So
open Sq (W iE eM dH NetOk iM)
open Nu (ltB geB abS)
open Mv (bW cN NC.pc aT)
def C8(s:Rs)(v:ByteArray):Rs:=
 if(!s.found||decide (Fj v s.least<0))=true then { s with count:=W (s.count+1),found:=true,least:=v }else { s with count:=W (s.count+1) }
end Go.Proofs.YtohmomanmikphaaGreatDoor.Rx
end
