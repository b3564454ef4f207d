import Derived.Lib.ItoaMem
import Derived.Test.YtohmomanmikphaaGreatDoorPa10
import Derived.Test.YtohmomanmikphaaGreatDoorPa15
set_option linter.unusedSimpArgs false
set_option linter.unusedVariables false
set_option maxRecDepth 100000
section
namespace Go.Aw
open Go.RowKit
section
variable{P:Program}{f:FuncId}{args:List AV}{H:aK}{K:AV->aK->Prop}
theorem ajW{S:Sg}{w:World}{v:Value}(h:rep S w (.v (.slice none 0 0)) v):rep S w (.sl []) v:=by
 have E:v=.slice none 0 0:=by simp only[rep]at h;exact h
 subst E;simp only[rep];exact⟨none,0,0,rfl,rfl,Nat.le_refl _,Nat.zero_le _,.inl trivial⟩
theorem bF.nil0{F:List AV}(h:bF P f (.sl []::F) H K):bF P f (.v (.slice none 0 0)::F) H K:=fun S w vals J E=>h S w vals J (by
 simp only[bG]at E |-;obtain⟨u,t,e,h1,I⟩:=E;exact⟨u,t,e,ajW h1,I⟩)
end
end Go.Aw
end
namespace Go.Proofs.YtohmomanmikphaaGreatDoor
open Go.Aw Go.Aw.D Go.Proofs Ty
namespace Sq
open Go.Proofs.Tryz(prog)
open Go.Nu (jY)
open Go.Proofs.YtohmomanmikphaaGreatDoor.Nu (ltB geB Dr)
open Mv (bJ bR aM)
def IV(v:Visit):Int:=if v.drop=true then 1 else 0
def or2(a b:Int):Int:=if a=0 then b else a
def uH(a b:Visit):Int:=or2 (jY a.order b.order) (jY (IV a) (IV b))
def OM:List Visit->List Visit->Int
 | [],[]=>0
 | [],_::_=> -1
 | _::_,[]=>1
 | a::l,b::m=>or2 (uH a b) (OM l m)
def Xt:List Int->Int
 | []=>0
 | a::l=>if a=0 then Xt l else a
theorem rJ{α:Type}{l:List α}{k:Nat}{u:α}(h:l[k]?=some u):l.drop k=u::l.drop (k+1):=by
 obtain⟨E,rfl⟩:=List.getElem?_eq_some_iff.1 h;rw[List.drop_eq_getElem_cons E]
theorem atG(l:List Int)(hl:l.length<=1048576):PC prog 324 [.sl (l.map bW)] (int (Xt l)):=by
 refine pcd Tryz.func324 ?_;unfold Tryz.f324;simp only[gdS];simp only[go_sem];refine⟨fun ρ H=>∃(k:Nat),k<=l.length/\ρ 3=int 0/\ρ 6=.sl (l.map bW)/\ρ 7=int (l.length:Nat)/\ρ 8=int k/\Xt l=Xt (l.drop k),fun ρ _=>l.length-aV (ρ 8),⟨0,Xab _,by simp only[go_sem],by simp only[go_sem],by simp only[go_sem,Xaa],(by simp only[go_sem];rfl),rfl⟩,?_⟩;rintro ρ H ⟨k,hk,J,V,U,O,I⟩;simp only[go_sem,J,V,U,O];refine aB (fun E=>?_) (fun F=>?_)
 . have E:=ltB E
   obtain⟨u,Y⟩:=aN E;have Z:=inB E;rw[rJ Y,Xt]at I;simp only[go_sem,J,V,U,O,aC Y,Z];refine aB (fun X=>?_) (fun X=>?_)
   . simp only[go_sem,J,V,U,O]
     exact bJ (by rw[I,if_neg (by simpa using X)])
   . rw[if_pos (by simpa using X)]at I
     simp only[go_sem,J,V,U,O,aT (show k<=4611686018427387904 by omega)];exact⟨⟨k+1,E,rfl,I⟩,by simp only[aE];omega⟩
 . have F:=geB hk F
   subst F;simp only[go_sem,J,V,U,O];exact bJ (by rw[I,List.drop_length];rfl)
theorem adT(v:Visit):PC prog 323 [.agg (aJ v)] (int (IV v)):=by
 refine pcd Tryz.func323 ?_;unfold Tryz.f323;simp only[gdS];simp only[go_sem];unfold IV;refine aB (fun E=>?_) (fun E=>?_)
 . simp only[go_sem,E]
   exact bJ (by simp)
 . simp only[go_sem,E]
   exact bJ (by simp)
theorem Sx(a b:Visit):PC prog 279 [.agg (aJ a),.agg (aJ b)] (int (uH a b)):=by
 refine pcd Tryz.func279 ?_;unfold Tryz.f279;simp only[gdS];simp only[go_sem];refine FD (by kernel_rfl) ?_;simp only[go_sem];refine⟨_,(Dr a.order b.order).q rfl,?_⟩;simp only[go_sem];refine⟨_,(adT a).q rfl,?_⟩;simp only[go_sem];refine⟨_,(adT b).q rfl,?_⟩;simp only[go_sem];refine⟨_,(Dr (IV a) (IV b)).q rfl,?_⟩;simp only[go_sem];refine PC.use (atG [jY a.order b.order,jY (IV a) (IV b)] (by simp)) ?_;simp only[go_sem];refine bJ ?_;unfold uH or2;simp only[Xt];split
 . split
   . next h=>exact h.symm
   . rfl
 . rfl
theorem aiH(a b:List Visit)(ha:a.length<=1048576):PC prog 278 [.sl (a.map aJ),.sl (b.map aJ),.v (.func (.func 279) #[] #[])] (int (OM a b)):=by
 have ag:aG prog 279=true:=by kernel_rfl
 refine pcd Tryz.func278 ?_;unfold Tryz.f278;simp only[gdS];simp only[go_sem];refine⟨fun ρ H=>∃(k:Nat),k<=a.length/\ρ 0=.sl (a.map aJ)/\ρ 1=.sl (b.map aJ)/\ρ 2=.v (.func (.func 279) #[] #[])/\ρ 11=.sl (a.map aJ)/\ρ 12=int (a.length:Nat)/\ρ 13=int k/\OM a b=OM (a.drop k) (b.drop k)/\k<=b.length,fun ρ _=>a.length-aV (ρ 13),⟨0,Xab _,by simp only[go_sem],by simp only[go_sem],by simp only[go_sem],by simp only[go_sem],by simp only[go_sem,Xaa],(by simp only[go_sem];rfl),rfl,Xab _⟩,?_⟩;rintro ρ H ⟨k,hk,U,X,V,E,F,I,hz,ah⟩;simp only[go_sem,U,X,V,E,F,I];refine aB (fun Z=>?_) (fun ad=>?_)
 . have Z:=ltB (by simpa using Z)
   obtain⟨u,hu⟩:=aN Z;have b1:=inB Z;rw[rJ hu]at hz;simp only[go_sem,U,X,V,E,F,I,aC hu,b1];refine aL fun i8 ae=>?_
   simp only[go_sem,U,X,V,E,F,I];refine aH (aA _ _ _) (by simp[cX]) ?_;generalize aa:aI (aI _ i8 _) i8 _=HGi8;have R8:HGi8 i8=some ((⟨119,2,[aJ u]⟩:Row)):=by rw[<-aa,aA];try rfl
   clear aa ae;simp only[go_sem,U,X,V,E,F,I,R8];refine aB (fun O=>?_) (fun O=>?_)
   . have af:b.length<=k:=by simpa using O
     simp only[go_sem,U,X,V,E,F,I];refine bJ ?_;rw[hz,List.drop_of_length_le af];rfl
   have ac:k<b.length:=by simpa using O
   obtain⟨v,hv⟩:=aN ac;have b2:=inB ac;rw[rJ hv]at hz;simp only[go_sem,U,X,V,E,F,I,aC hv,b2];refine aL fun i9 ab=>?_
   have J:i8≠i9:=aP R8 ab;simp only[go_sem,U,X,V,E,F,I,R8];refine aH (aA _ _ _) (by simp[cX]) ?_;generalize Y:aI (aI _ i9 _) i9 _=HGi9;replace R8:=kpR Y J J R8;have R9:HGi9 i9=some ((⟨119,2,[aJ v]⟩:Row)):=by rw[<-Y,aA];try rfl
   clear Y ab;simp only[go_sem,U,X,V,E,F,I,R9,R8];refine PC.use (Sx u v) ?_;simp only[go_sem,U,X,V,E,F,I];refine aB (fun O=>?_) (fun O=>?_)
   . have hc:¬uH u v=0:=by simpa using O
     simp only[go_sem,U,X,V,E,F,I];refine bJ ?_;rw[hz];show _=or2 (uH u v) _;unfold or2;rw[if_neg hc]
   . have hc:uH u v=0:=by simpa using O
     simp only[go_sem,U,X,V,E,F,I,aT (show k<=4611686018427387904 by omega)];refine⟨⟨k+1,Z,rfl,?_,ac⟩,by simp only[aE];omega⟩;rw[hz];show or2 (uH u v) _=_;unfold or2;rw[if_pos hc]
 have ad:=geB hk (by simpa using ad);subst ad;rw[List.drop_length]at hz;simp only[go_sem,U,X,V,E,F,I,Xaa];refine aB (fun O=>?_) (fun O=>?_)
 . have O:a.length<b.length:=by simpa using O
   simp only[go_sem];refine bJ ?_;obtain⟨v,hv⟩:=aN O;rw[hz,rJ hv];rfl
 . have O:¬a.length<b.length:=by simpa using O
   simp only[go_sem];refine bJ ?_;rw[hz,List.drop_of_length_le (by omega)];rfl
theorem afP(a b:List Visit)(E:a.length<=1048576):PC prog 242 [.sl (a.map aJ),.sl (b.map aJ)] (boo (decide (OM a b<0))):=by
 refine pcd Tryz.func242 ?_;unfold Tryz.f242;simp only[gdS];simp only[go_sem];refine PC.use (aiH a b E) ?_;simp only[go_sem];exact .refl _
end Sq
namespace Sq
open Go.Proofs.Tryz(prog)
open Go.Proofs.YtohmomanmikphaaGreatDoor.Nu (ltB geB)
open Mv (bJ bR aM)
def eqV(w v:Visit):Bool:=w.order == v.order&&(w.drop == v.drop&&true)
def pG(l:List Visit)(w:Visit):Bool:= !decide (bD l w<0)
def Aj(W l:List Visit)(v:Visit):Bool:=(W.takeWhile fun w=> !eqV w v).all (pG l)
def WA(x:Instance)(l:List Visit)(v:Visit):Bool:=x.before.all fun q=>(q.b != v.order)||(fC x.orders q.a).all (pG l)
def qJ(x:Instance)(l:List Visit)(v:Visit):Bool:=(!decide (bD l v>=0)&&Aj (fC x.orders v.order) l v)&&WA x l v
theorem UV{α:Type}{p:α->Bool}{W:List α}{k:Nat}(h:∀u∈W.take k,p u=true):W.takeWhile p=W.take k++(W.drop k).takeWhile p:=by
 conv=>lhs;rw[<-List.take_append_drop k W]
 exact List.takeWhile_append_of_pos h
theorem UK{W l:List Visit}{v:Visit}{k:Nat}(h:∀u∈W.take k,eqV u v=false/\pG l u=true):Aj W l v=Aj (W.drop k) l v:=by
 unfold Aj;rw[UV (k:=k) (fun u E=>by rw[(h u E).1];rfl),List.all_append];have:(W.take k).all (pG l)=true:=Xaj.2 fun u E=>(h u E).2
 rw[this,Xbl]
theorem afG(x:Instance)(l:List Visit)(v:Visit)(hl:l.length<=1048576)(hb:x.before.length<=1048576):PC prog 243 [.agg (aD x),.sl (l.map aJ),.agg (aJ v)] (boo (qJ x l v)):=by
 refine pcd Tryz.func243 ?_;unfold Tryz.f243;simp only[gdS];simp only[go_sem];refine PC.use (De l v hl) ?_;simp only[go_sem];refine aB (fun c1=>?_) (fun c1=>?_)
 . simp only[go_sem]
   refine bR ?_;unfold qJ;have c1:decide (bD l v>=0)=true:=c1;rw[c1];rfl
 have c1:decide (bD l v>=0)=false:=c1;have hW:=tX x.orders v.order;simp only[go_sem];refine PC.use (sT x.orders v.order) ?_;simp only[go_sem,Xaa];have hr:qJ x l v=(Aj (fC x.orders v.order) l v&&WA x l v):=by unfold qJ;rw[c1];rfl
 generalize fC x.orders v.order=W at *;refine FJ (fun am _=>am 1=.sl (l.map aJ)/\am 3=.rp (aD x) 0/\am 5=.rp (aJ v) 0/\Aj W l v=true) ?_ fun Q hQ ax=>?_
 . rintro ρ H ⟨h1,h3,h5,ay⟩
   rw[ay,Xbl]at hr;simp only[go_sem,h1,h3,h5,Xaa];refine⟨fun ρ H=>∃(k:Nat),k<=x.before.length/\ρ 1=.sl (l.map aJ)/\ρ 3=.rp (aD x) 0/\ρ 5=.rp (aJ v) 0/\ρ 36=.sl (x.before.map cU)/\ρ 37=int (x.before.length:Nat)/\ρ 38=int k/\(∀q∈x.before.take k,((q.b != v.order)||(fC x.orders q.a).all (pG l))=true),fun ρ _=>x.before.length-aV (ρ 38),⟨0,Xab _,by simp only[go_sem,h1,h3,h5],by simp only[go_sem,h1,h3,h5],by simp only[go_sem,h1,h3,h5],by simp only[go_sem,h1,h3,h5],by simp only[go_sem,Xaa,h1,h3,h5],(by simp only[go_sem,h1,h3,h5];rfl),by simp⟩,?_⟩;rintro ρ H ⟨k,hk,U,O,J,E,F,I,hz⟩;simp only[go_sem,U,O,J,E,F,I];refine aB (fun ab=>?_) (fun ae=>?_)
   . have ab:=ltB (by simpa using ab)
     obtain⟨q,hq⟩:=aN ab;have b1:=inB ab;simp only[go_sem,U,O,J,E,F,I,aC hq,b1];refine aL fun ao ap=>?_
     simp only[go_sem,U,O,J,E,F,I];refine aH (aA _ _ _) (by simp[mO]) ?_;generalize ai:aI (aI _ ao _) ao _=HGi10;have aw:HGi10 ao=some (⟨194,2,[cU q]⟩):=by rw[<-ai,aA];try rfl
     clear ai ap;simp only[go_sem,U,O,J,E,F,I,aw];refine⟨by decide,aB (fun X=>?_) (fun X=>?_)⟩
     . simp only[go_sem,U,O,J,E,F,I,aT (show k<=4611686018427387904 by omega)]
       exact⟨⟨k+1,ab,rfl,aM (p:=fun q:Pair=>((q.b != v.order)||(fC x.orders q.a).all (pG l))=true) hq (by rw[show(q.b != v.order)=true from X];rfl) hz⟩,by simp only[aE];omega⟩
     have X:(q.b != v.order)=false:=X;have hV:=tX x.orders q.a;simp only[go_sem,U,O,J,E,F,I,aw];refine⟨by decide,PC.use (sT x.orders q.a) ?_⟩;simp only[go_sem,U,O,J,E,F,I,Xaa];have au:((q.b != v.order)||(fC x.orders q.a).all (pG l))=(fC x.orders q.a).all (pG l):=by rw[X];rfl
     generalize az:fC x.orders q.a=V at *;refine⟨fun ρ _=>∃m:Nat,m<=V.length/\ρ 1=.sl (l.map aJ)/\ρ 3=.rp (aD x) 0/\ρ 5=.rp (aJ v) 0/\ρ 36=.sl (x.before.map cU)/\ρ 37=int x.before.length/\ρ 38=int (k:Nat)/\ρ 51=.sl (V.map aJ)/\ρ 52=int V.length/\ρ 53=int (m:Nat)/\∀u∈V.take m,pG l u=true,fun ρ _=>V.length-aV (ρ 53),⟨0,Xab _,by simp only[go_sem,U,O,J,E,F,I],by simp only[go_sem,U,O,J,E,F,I],by simp only[go_sem,U,O,J,E,F,I],by simp only[go_sem,U,O,J,E,F,I],by simp only[go_sem,U,O,J,E,F,I],by simp only[go_sem,U,O,J,E,F,I],by simp only[go_sem,U,O,J,E,F,I],by simp only[go_sem,U,O,J,E,F,I],by simp only[go_sem,U,O,J,E,F,I];rfl,by simp⟩,?_⟩;clear U O J E F I h1 h3 h5;rintro ρ H ⟨m,hm,U,O,J,E,F,I,af,ah,ag,hy⟩;simp only[go_sem,U,O,J,E,F,I,af,ah,ag];refine aB (fun aj=>?_) (fun aq=>?_)
     . have aj:=ltB (by simpa using aj)
       obtain⟨u,hu⟩:=aN aj;have b2:=inB aj;simp only[go_sem,U,O,J,E,F,I,af,ah,ag,aC hu,b2];refine aL fun an ar=>?_
       simp only[go_sem,U,O,J,E,F,I,af,ah,ag];refine aH (aA _ _ _) (by simp[cX]) ?_;generalize ak:aI (aI _ an _) an _=HGi12;have a0:HGi12 an=some ((⟨119,2,[aJ u]⟩:Row)):=by rw[<-ak,aA];try rfl
       clear ak ar;simp only[go_sem,U,O,J,E,F,I,af,ah,ag,a0];refine PC.use (De l u hl) ?_;simp only[go_sem,U,O,J,E,F,I,af,ah,ag];refine aB (fun ac=>?_) (fun ac=>?_)
       . simp only[go_sem]
         refine bR ?_;have ad:pG l u=false:=by unfold pG;rw[show decide (bD l u<0)=true from ac];rfl
         rw[hr];unfold WA;exact(List.all_eq_false.2 ⟨q,Xac hq,by
           rw[az,au];rw[Xcd];exact List.all_eq_false.2 ⟨u,Xac hu,by rw[ad];simp⟩⟩).symm
       . have ad:pG l u=true:=by unfold pG;rw[show decide (bD l u<0)=false from ac];rfl
         simp only[go_sem,U,O,J,E,F,I,af,ah,ag,aT (show m<=4611686018427387904 by omega)];exact⟨⟨m+1,aj,rfl,aM (p:=fun u:Visit=>pG l u=true) hu ad hy⟩,by simp only[aE];omega⟩
     have aq:=geB hm (by simpa using aq);subst aq;rw[Xag]at hy;simp only[go_sem,U,O,J,E,F,I,aT (show k<=4611686018427387904 by omega)];exact⟨⟨k+1,ab,rfl,aM (p:=fun q:Pair=>((q.b != v.order)||(fC x.orders q.a).all (pG l))=true) hq (by rw[az,au];exact Xaj.2 hy) hz⟩,by simp only[aE];omega⟩
   have ae:=geB hk (by simpa using ae);subst ae;rw[Xag]at hz;simp only[go_sem];refine bR ?_;rw[hr];unfold WA;exact(Xaj.2 hz).symm
 refine⟨fun ρ H=>∃(k:Nat),k<=W.length/\ρ 1=.sl (l.map aJ)/\ρ 3=.rp (aD x) 0/\ρ 5=.rp (aJ v) 0/\ρ 21=.sl (W.map aJ)/\ρ 22=int (W.length:Nat)/\ρ 23=int k/\(∀u∈W.take k,eqV u v=false/\pG l u=true),fun ρ _=>W.length-aV (ρ 23),⟨0,Xab _,by simp only[go_sem],by simp only[go_sem],by simp only[go_sem],by simp only[go_sem],by simp only[go_sem,Xaa],(by simp only[go_sem];rfl),by simp⟩,?_⟩;rintro ρ H ⟨k,hk,U,O,J,Z,aa,Y,hz⟩;simp only[go_sem,U,O,J,Z,aa,Y];refine aB (fun ab=>?_) (fun ae=>?_)
 . have ab:=ltB (by simpa using ab)
   obtain⟨u,hu⟩:=aN ab;have b1:=inB ab;have hp:=UK (l:=l) (v:=v) hz;rw[rJ hu]at hp;simp only[go_sem,U,O,J,Z,aa,Y,aC hu,b1];refine aL fun i8 av=>?_
   simp only[go_sem,U,O,J,Z,aa,Y];refine aH (aA _ _ _) (by simp[cX]) ?_;generalize al:aI (aI _ i8 _) i8 _=HGi8;have R8:HGi8 i8=some ((⟨119,2,[aJ u]⟩:Row)):=by rw[<-al,aA];try rfl
   clear al av;simp only[go_sem,U,O,J,Z,aa,Y,R8];refine aB (fun X=>?_) (fun X=>?_)
   . have X:eqV u v=true:=X
     simp only[go_sem];refine hQ _ _ ⟨by simp only[go_sem,U,O,J,Z,aa,Y],by simp only[go_sem,U,O,J,Z,aa,Y],by simp only[go_sem,U,O,J,Z,aa,Y],?_⟩;rw[hp];unfold Aj;rw[Xbp,X];rfl
   have X:eqV u v=false:=X;simp only[go_sem,U,O,J,Z,aa,Y,R8];refine PC.use (De l u hl) ?_;simp only[go_sem,U,O,J,Z,aa,Y];refine aB (fun ac=>?_) (fun ac=>?_)
   . have ad:pG l u=false:=by unfold pG;rw[show decide (bD l u<0)=true from ac];rfl
     simp only[go_sem];refine ax _ _ ?_;simp only[go_sem];refine bR ?_;have:Aj W l v=false:=by
       rw[hp];unfold Aj;rw[Xbp,X];show(u::_).all (pG l)=false;rw[List.all_cons,ad];rfl
     rw[hr,this];rfl
   . have ad:pG l u=true:=by unfold pG;rw[show decide (bD l u<0)=false from ac];rfl
     simp only[go_sem,U,O,J,Z,aa,Y,aT (show k<=4611686018427387904 by omega)];exact⟨⟨k+1,ab,rfl,aM (p:=fun u:Visit=>eqV u v=false/\pG l u=true) hu ⟨X,ad⟩ hz⟩,by simp only[aE];omega⟩
 have ae:=geB hk (by simpa using ae);subst ae;have hp:=UK (l:=l) (v:=v) hz;rw[List.drop_length]at hp;simp only[go_sem];exact hQ _ _ ⟨by simp only[go_sem,U,O,J,Z,aa,Y],by simp only[go_sem,U,O,J,Z,aa,Y],by simp only[go_sem,U,O,J,Z,aa,Y],hp⟩
def Li(x:Instance)(i:Nat):Bool:=match x.orders[i]? with|some o=>o.off|none=>false
def EG(x:Instance)(set:Int)(i:Nat):Bool:=(decide ((i:Int)>62)||(vU .and .i64 (shV .shr .i64 set (i:Nat)) 1 == 0))||Li x i
def AF(x:Instance)(set:Int)(l:List Visit)(i:Nat):List Visit:=if EG x set i=true then[]else(fC x.orders (i:Nat)).filter (qJ x l)
def vN(x:Instance)(set:Int)(l:List Visit)(k:Nat):List Visit:=(List.range k).flatMap (AF x set l)
def nJ(x:Instance)(set:Int)(l:List Visit):List Visit:=vN x set l x.orders.length
theorem Ej(x:Instance)(set:Int)(l:List Visit)(k:Nat):vN x set l (k+1)=vN x set l k++AF x set l k:=by
 unfold vN;rw[Xbg,Xbu];simp
theorem Q7(x:Instance)(set:Int)(l:List Visit)(i:Nat):(AF x set l i).length<=2:=by
 unfold AF;split
 . simp
 . exact Xal (Xcc _ _) (tX _ _)
theorem BN(x:Instance)(set:Int)(l:List Visit):∀k,(vN x set l k).length<=2*k
 | 0=>Xah _
 | k+1=>by
   rw[Ej,Xae];have:=BN x set l k;have:=Q7 x set l k;omega
abbrev IR(l:List Visit):Row:=⟨119,2,l.map aJ⟩
theorem Gk(l:List Visit)(v:Visit):(⟨119,2,l.map aJ++[aJ v]⟩:Row)=IR (l++[v]):=by
 show _=(⟨119,2,(l++[v]).map aJ⟩:Row);rw[Xar];rfl
theorem Np{α:Type}{p:α->Bool}{l:List α}{k:Nat}{a:α}(h:l[k]?=some a):(l.take (k+1)).filter p=(l.take k).filter p++(if p a=true then[a]else[]):=by
 rw[bQ h,List.filter_append]
 congr 1
 rw[List.filter_cons];rfl
theorem aeI(x:Instance)(set:Int)(l:List Visit)(hl:l.length<=1048576)(hb:x.before.length<=1048576)(hx:x.orders.length<=100000):PC prog 190 [.agg (aD x),int set,.sl (l.map aJ)] (.sl ((nJ x set l).map aJ)):=by
 refine pcb (fun t=>t == 7) Tryz.func190 ?_;unfold Tryz.f190;simp only[gdS];simp only[go_sem];refine aL fun j ar=>?_
 generalize aq:aI _ j _=HGj;have R:HGj j=some (IR []):=by rw[<-aq,aA];try rfl
 clear aq ar;simp only[go_sem,R];refine⟨fun ρ H=>∃(k:Nat) (j:Nat),k<=x.orders.length/\ρ 1=int set/\ρ 2=.sl (l.map aJ)/\ρ 3=.rp (aD x) 0/\ρ 13=.sl (x.orders.map bI)/\ρ 14=int (x.orders.length:Nat)/\ρ 15=int k/\ρ 7=.os j/\H j=some (IR (vN x set l k)),fun ρ _=>x.orders.length-aV (ρ 15),⟨0,j,Xab _,by simp only[go_sem],by simp only[go_sem],by simp only[go_sem],by simp only[go_sem],by simp only[go_sem,Xaa],(by simp only[go_sem];rfl),by simp only[go_sem],R⟩,?_⟩;rintro ρ H ⟨k,j,hk,Y,X,O,J,E,I,U,R⟩;simp only[go_sem,Y,X,O,J,E,I,U];refine aB (fun af=>?_) (fun ao=>?_)
 . have af:=ltB (by simpa using af)
   obtain⟨o,ho⟩:=aN af;have b1:=inB af;have hs:=Ej x set l k;have aw:=BN x set l k;have av:Li x k=o.off:=by unfold Li;rw[ho]
   have au:EG x set k=((decide ((k:Int)>62)||(vU .and .i64 (shV .shr .i64 set (k:Nat)) 1 == 0))||o.off):=by unfold EG;rw[av]
   have hA:AF x set l k=if EG x set k=true then[]else(fC x.orders (k:Nat)).filter (qJ x l):=rfl
   rw[hA,au]at hs;generalize vN x set l k=L at *;simp only[go_sem,Y,X,O,J,E,I,U,aC ho,b1];refine aL fun i9 al=>?_
   have aa:j≠i9:=aP R al;simp only[go_sem,Y,X,O,J,E,I,U,R];refine aH (aA _ _ _) (by simp[sM]) ?_;generalize ah:aI (aI _ i9 _) i9 _=HGi9;replace R:=kpR ah aa aa R;have R9:HGi9 i9=some ((⟨111,16,[bI o]⟩:Row)):=by rw[<-ah,aA];try rfl
   clear ah al;simp only[go_sem,Y,X,O,J,E,I,U,R9,R];refine⟨fun _=>by omega,?_⟩;refine aB (fun hc=>?_) (fun hc=>?_)
   . rw[if_pos hc,Xai]at hs
     simp only[go_sem,Y,X,O,J,E,I,U,aT (show k<=4611686018427387904 by omega)];refine⟨⟨k+1,j,af,rfl,rfl,?_⟩,by simp only[aE];omega⟩;rw[hs];exact R
   rw[if_neg (by rw[hc];simp)]at hs;simp only[go_sem,Y,X,O,J,E,I,U];refine PC.use (sT x.orders (k:Nat)) ?_;simp only[go_sem,Y,X,O,J,E,I,U,Xaa];have hV:=tX x.orders (k:Nat);generalize fC x.orders (k:Nat)=V at *;refine⟨fun ρ H=>∃m j:Nat,m<=V.length/\ρ 1=int set/\ρ 2=.sl (l.map aJ)/\ρ 3=.rp (aD x) 0/\ρ 13=.sl (x.orders.map bI)/\ρ 14=int x.orders.length/\ρ 15=int (k:Nat)/\ρ 36=.sl (V.map aJ)/\ρ 37=int V.length/\ρ 38=int (m:Nat)/\ρ 7=.os j/\H j=some (IR (L++(V.take m).filter (qJ x l))),fun ρ _=>V.length-aV (ρ 38),⟨0,j,Xab _,by simp only[go_sem,Y,X,O,J,E,I,U],by simp only[go_sem,Y,X,O,J,E,I,U],by simp only[go_sem,Y,X,O,J,E,I,U],by simp only[go_sem,Y,X,O,J,E,I,U],by simp only[go_sem,Y,X,O,J,E,I,U],by simp only[go_sem,Y,X,O,J,E,I,U],by simp only[go_sem,Y,X,O,J,E,I,U],by simp only[go_sem,Y,X,O,J,E,I,U],by simp only[go_sem,Y,X,O,J,E,I,U];rfl,by simp only[go_sem,Y,X,O,J,E,I,U],by simpa using R⟩,?_⟩;clear Y X O J E I U R R9;rintro ρ H ⟨m,j,hm,Y,X,O,J,E,I,ab,ac,ad,U,R⟩;simp only[go_sem,Y,X,O,J,E,I,ab,ac,ad,U];refine aB (fun ag=>?_) (fun am=>?_)
   . have ag:=ltB (by simpa using ag)
     obtain⟨u,hu⟩:=aN ag;have b2:=inB ag;have ak:=Np (p:=qJ x l) hu;have ax:((V.take m).filter (qJ x l)).length<=2:=Xal (Xcc _ _) (by rw[Xao];omega);simp only[go_sem,Y,X,O,J,E,I,ab,ac,ad,U,aC hu,b2];generalize (V.take m).filter (qJ x l)=F at *;refine aL fun aj ai=>?_
     have Z:j≠aj:=aP R ai;simp only[go_sem,Y,X,O,J,E,I,ab,ac,ad,U,R];refine aH (aA _ _ _) (by simp[cX]) ?_;generalize ae:aI (aI _ aj _) aj _=HGi11;replace R:=kpR ae Z Z R;have ap:HGi11 aj=some ((⟨119,2,[aJ u]⟩:Row)):=by rw[<-ae,aA];try rfl
     clear ae ai;simp only[go_sem,Y,X,O,J,E,I,ab,ac,ad,U,ap,R];refine PC.use (afG x l u hl hb) ?_;simp only[go_sem,Y,X,O,J,E,I,ab,ac,ad,U];refine aB (fun an=>?_) (fun an=>?_)
     . rw[if_pos an]at ak
       simp only[go_sem,Y,X,O,J,E,I,ab,ac,ad,U,ap];refine aZ R ⟨rfl,rfl⟩ (by simp only[go_sem]) (by simp only[Xaa,Xae,Xad,List.length_nil];omega) (fun j2 ay=>?_);simp only[go_sem,Y,X,O,J,E,I,ab,ac,ad,U,aT (show m<=4611686018427387904 by omega)];refine⟨⟨m+1,j2,ag,rfl,rfl,?_⟩,by simp only[aE];omega⟩;rw[ak,<-Xaw,aA];exact congrArg some (Gk _ _)
     . rw[if_neg (by rw[an];simp),Xai]at ak
       simp only[go_sem,Y,X,O,J,E,I,ab,ac,ad,U,aT (show m<=4611686018427387904 by omega)];refine⟨⟨m+1,j,ag,rfl,rfl,?_⟩,by simp only[aE];omega⟩;rw[ak];exact R
   have am:=geB hm (by simpa using am);subst am;rw[Xag]at R;simp only[go_sem,Y,X,O,J,E,I,U,aT (show k<=4611686018427387904 by omega)];refine⟨⟨k+1,j,af,rfl,rfl,?_⟩,by simp only[aE];omega⟩;rw[hs];exact R
 have ao:=geB hk (by simpa using ao);subst ao;simp only[go_sem,Y,X,O,J,E,I,U];exact .row _ _ _ R (ConvE.refl _)
end Sq
end Go.Proofs.YtohmomanmikphaaGreatDoor
section
namespace Go.Aw
open Go.RowKit
section
variable{P:Program}{f:FuncId}{args:List AV}{H:aK}{K:AV->aK->Prop}{r:AV}
def Sup(H H':aK):Prop:=∀k row,H k=some row->H' k=some row
def K5(H:aK)(r:AV)(a:AV)(H':aK):Prop:=Sup H H'/\∃l:List Nat,(∀k,k∈l->H k=none)/\Conv (fun k=>if k∈l then H' k else none) a r
theorem bF.data(h:bF P f args H (K5 H r))(hK:K r H):bF P f args H K:=by
 intro S w vals hS V;refine(h S w vals hS V).mono fun e w' ⟨v,x,H',S',O,⟨U,l,X,Y⟩,F,hv,hg,hn⟩=>?_
 obtain⟨h1,J,Z⟩:=F.frz l;refine⟨v,r,H,S'.froze _,O,hK,h1.drop (fun k row I=>?_),Y.rep Z hv,hg.trans J,fun k _ h0=>h0⟩;have E:¬k∈l:=fun E=>by rw[X k E]at I;cases I
 show(if k∈l then none else H' k)=some row;rw[if_neg E];exact U k row I
def LC(P:Program)(f:FuncId)(args:List AV)(H:aK)(r:AV):Prop:=∀K:AV->aK->Prop,K r H->bF P f args H K
theorem LC.use(h:LC P f args H r)(E:K r H):bF P f args H K:=h K E
theorem LC.body{fn:Func}{c:Code}(mt:Nat->Bool)(O:P.follows .mixedOrders=true)(F:P.funcs[f]?=some fn)(E:fn.body=some c)(I:BG fn c args.length=true)
 (h:awp P (bF P) (dP P) mt c (IJ P fn.results.toList (K5 H r)) (DH args) H):LC P f args H r:=fun K J=>bF.data (bF.body mt O F E I h) J
theorem Sup.refl(H:aK):Sup H H:=fun _ _ h=>h
theorem Sup.upd{H H':aK}(h:Sup H H'){i:Nat}(hi:H i=none)(a:Option Row):Sup H (aI H' i a):=fun k row E=>by
 rw[aF _ _ _ _ (fun e=>by subst e;rw[hi]at E;cases E)];exact h k row E
theorem Sup.none{H H':aK}(h:Sup H H'){i:Nat}(hi:H' i=none):H i=none:=by
 cases e:H i with
 | none=>rfl
 | some row=>rw[h i row e]at hi;cases hi
theorem Sup.eq{H A B:aK}(h:Sup H A)(e:A=B):Sup H B:=e▸h
theorem Sup.at{H H':aK}(h:Sup H H'){i:Nat}{row:Row}(hi:H i=some row):H' i=some row:=h i row hi
theorem Sup.ne{H H':aK}(h:Sup H H'){i j:Nat}{row:Row}(hi:H i=some row)(E:H j=.none):i≠j:=fun e=>by subst e;rw[hi]at E;cases E
theorem K5.flat{H H':aK}(h:Sup H H')(r:AV):K5 H r r H':=⟨h,[],by simp,.refl r⟩
theorem oK{l:List Nat}{H E:aK}{K:Env->aK->Prop}{ρ:Env}(I:∀k,k∉l->E k=H k)(h:K ρ H):nB l H K ρ E:=fun _ J h1 F=>by
 have:J=H:=funext fun k=>by
   by_cases e:k∈l
   . exact h1 k e
   . rw[F k e,I k e]
 rw[this];exact h
theorem qU{l:List Nat}{H F:aK}{K:Env->aK->Prop}{ρ:Env}{i:Nat}{r:Option Row}(J:∀k,k∉l->F k=H k)(hi:i∉l)(h:K ρ (aI H i r)):nB l H K ρ (aI F i r):=fun _ O h1 I=>by
 have:O=aI H i r:=funext fun k=>by
   by_cases e:k∈l
   . rw[h1 k e,aF _ _ _ _ (fun E=>hi (by rw[<-E];exact e))]
   . rw[I k e]
     by_cases E:k=i
     . subst E;rw[aA,aA]
     . rw[aF _ _ _ _ E,aF _ _ _ _ E,J k e]
 rw[this];exact h
theorem zG{l:List Nat}{H I:aK}{K:Env->aK->Prop}{ρ:Env}{i:Nat}{a:Option Row}{b:Row}(J:∀k,k∉l->I k=H k)(hi:I i=none)(h:H i=none->K ρ (aI (aI H i a) i (some b))):nB l H K ρ (aI (aI I i a) i (some b)):=fun h0 U h1 O=>by
 have F:i∉l:=fun e=>by have:=h0 i e;rw[aA]at this;cases this
 have:U=aI (aI H i a) i (some b):=funext fun k=>by
   by_cases e:k∈l
   . rw[h1 k e,aF _ _ _ _ (fun E=>F (by rw[<-E];exact e)),aF _ _ _ _ (fun E=>F (by rw[<-E];exact e))]
   . rw[O k e]
     by_cases E:k=i
     . subst E;rw[aA,aA]
     . rw[aF _ _ _ _ E,aF _ _ _ _ E,aF _ _ _ _ E,aF _ _ _ _ E,J k e]
 rw[this];exact h ((J i F).symm.trans hi)
theorem N0{S:Sg}{w:World}:∀(A B:List AV) (l:List Value),bG S w (A++B) l->bG S w A (l.take A.length)
 | [],_,l,_=>by simp only[List.length_nil,List.take_zero,bG]
 | x::A,B,l,h=>by
   simp only[List.cons_append,bG]at h |-;obtain⟨u,t,rfl,h1,E⟩:=h;exact⟨u,t.take A.length,by rw[List.length_cons,List.take_succ_cons],h1,N0 A B t E⟩
theorem J8{sz:Nat}:∀(es:List (List AV)) (i:Nat),(∀cs∈es,cs.length=sz)->i<=es.length->((es.take i).flatten).length=i*sz
 | _,0,_,_=>by simp
 | [],i+1,_,h=>by simp at h
 | c::es,i+1,hl,h=>by
   rw[List.take_succ_cons,List.flatten_cons,List.length_append,hl c (by simp),J8 es i (fun cs E=>hl cs (by simp[E])) (by simpa using h),Nat.add_mul,Nat.one_mul,Nat.add_comm]
theorem St.cut{S:Sg}{w:World}{H:aK}(O:St S w H){k i c n:Nat}{r:Row}{ad:Option Addr}(hk:H k=some r)(hl:S.loc k=.slice ad n c)(hi:i<=r.es.length):
   St (S.addRow (.slice ad i c) r.sz) w (aI (aI H k none) S.N (some ⟨r.e,r.sz,r.es.take i⟩))/\Grow S w (S.addRow (.slice ad i c) r.sz) w:=by
 have hR:=O.rows k r hk;obtain⟨xs,ho,hr,h1⟩:=hR.sl hl;have aa:=S.le_addRow (.slice ad i c) r.sz;have F:(S.addRow (.slice ad i c) r.sz).loc S.N=.slice ad i c:=by simp[Sg.addRow]
 have J:∀k,k<S.N->(S.addRow (.slice ad i c) r.sz).loc k=S.loc k:=aa.loc;have al:k≠S.N:=Nat.ne_of_lt hR.lt;have I:∀q row,q≠S.N->aI (aI H k none) S.N (some ⟨r.e,r.sz,r.es.take i⟩) q=some row->H q=some row/\q≠k:=fun q row Z h=>by
   rw[aF _ _ _ _ Z]at h;by_cases e:q=k
   . subst e;rw[aA]at h;cases h
   . rw[aF _ _ _ _ e]at h;exact⟨h,e⟩
 have X:blk (.slice ad i c)=blk (S.loc k):=by rw[hl];cases ad <;> rfl
 refine⟨⟨O.ro_fz,O.fz_lt,?_,?_,?_,O.tabs.keep aa (gE.refl S w)⟩,⟨aa,fun _ h=>h,rfl,rfl,rfl,Nat.le_refl _,fun _ _=>rfl,fun _ h=>.inl h⟩⟩
 . intro q row Z
   by_cases e0:q=S.N
   . subst e0
     rw[aA]at Z;injection Z with Z;subst Z;have ai:=J8 r.es i hR.len hi;have ab:(r.es.take i).length=i:=by rw[List.length_take];omega
     have am:xs.length=r.es.length*r.sz:=ho.1;have ag:i*r.sz<=r.es.length*r.sz:=Nat.mul_le_mul_right _ hi;refine⟨Nat.lt_succ_self _,by simp[Sg.addRow],hR.pos,fun cs ac=>hR.len cs (List.mem_of_mem_take ac),.inl ⟨xs.take (i*r.sz),⟨?_,?_⟩,?_,fun u hu=>h1 u (List.mem_of_mem_take hu)⟩⟩
     . show(xs.take (i*r.sz)).length=(r.es.take i).length*r.sz
       rw[List.length_take,ab];omega
     . rw[F]
       simp only[ab];rcases ho.2 with⟨hv,hn⟩|⟨g,cap,cur,hv,hb,V,ak,aj,ac,ah⟩
       . rw[hl]at hv
         injection hv with e1 e2 e3;refine .inl ⟨?_,by omega⟩;rw[e1,e3,show i=0 by omega]
       . rw[hl]at hv
         injection hv with e1 e2 e3;refine .inr ⟨g,cap,cur,by rw[e1,e3],hb,V,by omega,aj,ac,?_⟩;rw[<-ah,List.take_take,Nat.min_eq_left ag]
     . refine dW aa (gE.refl S w) _ _ ?_
       have:r.es.flatten=(r.es.take i).flatten++(r.es.drop i).flatten:=by rw[<-List.flatten_append,List.take_append_drop]
       rw[this]at hr;have:=N0 _ _ _ hr;rw[ai]at this;exact this
   . obtain⟨Y,_⟩:=I q row e0 Z
     exact(O.rows q row Y).keep aa (gE.refl S w) fun _ _=>rfl
 . intro q row Z g V
   by_cases e0:q=S.N
   . subst e0
     rw[F,X]at V;exact O.free k r hk g V
   . obtain⟨Y,_⟩:=I q row e0 Z
     rw[J q (O.rows q row Y).lt]at V;exact O.free q row Y g V
 . intro q q' row E Z af ae g V U
   by_cases e0:q=S.N
   . subst e0
     rw[F,X]at V;obtain⟨Y,h3⟩:=I q' E (Ne.symm ae) af;rw[J q' (O.rows q' E Y).lt]at U;exact O.disj k q' r E hk Y (Ne.symm h3) g V U
   . obtain⟨Y,h3⟩:=I q row e0 Z
     rw[J q (O.rows q row Y).lt]at V;by_cases e1:q'=S.N
     . subst e1
       rw[F,X]at U;exact O.disj q k row r Y hk h3 g V U
     . obtain⟨h4,h5⟩:=I q' E e1 af
       rw[J q' (O.rows q' E h4).lt]at U;exact O.disj q q' row E Y h4 ae g V U
end
end Go.Aw
end
namespace Go.Proofs.YtohmomanmikphaaGreatDoor
open Go.Aw Go.Aw.D Go.Proofs Ty
namespace Sq
open Go.Proofs.YtohmomanmikphaaGreatDoor.Nu (ltB geB)
open Mv (bJ bR aM)
def Gs(L:List Nat):Nat:=(L.map fun a=>2^62-a).sum
theorem Nn:∀{L:List Nat} {i u v:Nat},L[i]?=some u->u<v->v<=2^62->Gs (L.set i v)<Gs L
 | [],i,u,v,h,_,_=>by simp at h
 | a::L,0,u,v,h,h1,h2=>by
   have:a=u:=by simpa using h
   subst this;show(2^62-v)+(L.map fun a=>2^62-a).sum<(2^62-a)+(L.map fun a=>2^62-a).sum;omega
 | a::L,i+1,u,v,h,h1,h2=>by
   have:=Nn (L:=L) (i:=i) (by simpa using h) h1 h2;show(2^62-a)+Gs (L.set i v)<(2^62-a)+Gs L;omega
abbrev D0(L:List Nat):Row:=⟨3,1,L.map fun n=>[int (n:Nat)]⟩
def atS:List AV->Nat
 | [.v (.int _ a)]=>2^62-a.toNat
 | _=>0
def alK(x b:AV)(H:aK):Nat:=match x,b with
 | .os j,.v (.bool true)=>match H j with
   | some r=>(r.es.map atS).sum+1
   | none=>0
 | _,_=>0
theorem aaW{j:Nat}{H:aK}{L:List Nat}(h:H j=some (D0 L)):alK (.os j) (boo true) H=Gs L+1:=by
 unfold alK;simp only[h,List.map_map];rfl
theorem aoE{j:Nat}{H:aK}:alK (.os j) (boo false) H=0:=rfl
theorem Yd{s:Int}{a:Int}(h:a∈gZ s):∃k:Nat,a=(k:Nat):=by
 unfold gZ oT at h;obtain⟨k,_,rfl⟩:=Xbd.1 h;exact⟨k,rfl⟩
theorem Zv(s:Int):(gZ s).length<=63:=by
 unfold gZ oT;rw[Xaa];exact Xal (Xcc _ _) (by rw[Xaz];exact Xah _)
end Sq
namespace Sq
structure Lab where
 ready:Int
 since:Int
 sheet:Sheet
def Dl:Tm:=⟨0,0,0,false⟩
def cO(s:Sheet)(k:Nat)(b:Bool)(d:Int):Sheet:=match k with
 | 0=>{ s with rest:=b,depart:=d }
 | j+1=>{ s with times:=s.times.set j ⟨(s.times.getD j Dl).arrive,(s.times.getD j Dl).begin_,d,b⟩ }
def gI(t:VType)(l:Lab)(b:Bool):Int:=if b=true then W (l.ready+t.rest)else l.ready
def mF(l:Lab)(b:Bool):Int:=if b=true then 0 else l.since
def goL(x:Instance)(t:VType)(p q:Int)(l:Lab)(b:Bool):Int×Int×Int:=eU x.net t.profile p q (gI t l b)
def lJ(x:Instance)(t:VType)(p q:Int)(l:Lab)(b:Bool):Int:=W (W (mF l b+(goL x t p q l b).1)-gI t l b)
def iL(x:Instance)(t:VType)(p:Int)(s:Stop)(k:Nat)(l:Lab)(b:Bool):Sheet:=
 { cO l.sheet k b (gI t l b)with
   times:=(cO l.sheet k b (gI t l b)).times++[⟨(goL x t p s.place l b).1,fP (goL x t p s.place l b).1 s.start,0,false⟩]
   miles:=W (l.sheet.miles+(goL x t p s.place l b).2.1) }
def nS(x:Instance)(t:VType)(p:Int)(s:Stop)(k:Nat)(l:Lab)(b:Bool):Except Int Lab:=
 if((goL x t p s.place l b).2.2 != 0)=true then .error 12
 else if fP (goL x t p s.place l b).1 s.start>s.close then .error 14
 else if lJ x t p s.place l b>t.drive then .error 16
 else .ok ⟨W (fP (goL x t p s.place l b).1 s.start+s.service),lJ x t p s.place l b,iL x t p s k l b⟩
def HD(x:Instance)(t:VType)(p:Int)(k:Nat)(l:Lab)(b:Bool):Sheet:=
 { cO l.sheet k b (gI t l b)with
   end_:=(goL x t p t.dst l b).1
   miles:=W (l.sheet.miles+(goL x t p t.dst l b).2.1) }
def pW(x:Instance)(t:VType)(p:Int)(k:Nat)(l:Lab)(b:Bool):Except Int Lab:=
 if((goL x t p t.dst l b).2.2 != 0)=true then .error 12
 else if(goL x t p t.dst l b).1>t.close then .error 15
 else if lJ x t p t.dst l b>t.drive then .error 16
 else .ok ⟨(goL x t p t.dst l b).1,lJ x t p t.dst l b,HD x t p k l b⟩
def C7(x:Instance)(t:VType):List Visit->List Bool->Int->Nat->Lab->Except Int Lab
 | [],b::_,p,k,l=>pW x t p k l b
 | v::vs,b::bs,p,k,l=>match nS x t p (bA x v).1 k l b with
   | .error e=>.error e
   | .ok l'=>C7 x t vs bs (bA x v).1.place (k+1) l'
 | _,[],_,_,l=>.ok l
def fT(t:VType)(r:Route):Lab:=⟨fP t.start r.start,0,aS⟩
theorem mQ(s:Sheet)(k:Nat)(b:Bool)(d:Int):(cO s k b d).miles=s.miles/\(cO s k b d).end_=s.end_/\(cO s k b d).times.length=s.times.length:=by
 cases k <;> simp[cO]
theorem wB(t:VType)(p:Int)(l:Lab)(m:Int)(b:Bool):kI t ⟨p,l.ready,l.since,m⟩ b=⟨p,gI t l b,mF l b,m⟩:=by
 unfold kI gI mF;cases b <;> rfl
theorem U4{a s c:Int}(h:s<=c):(fP a s>c)↔a>c:=by
 unfold fP;split <;> omega
theorem KX{x:Instance}{t:VType}{p:Int}{l:Lab}{b:Bool}{q c E:Int}:
   fU x t ⟨p,gI t l b,mF l b,l.sheet.miles⟩ q c E =
     if((goL x t p q l b).2.2 != 0)=true then(⟨p,gI t l b,mF l b,l.sheet.miles⟩,12)
     else if(goL x t p q l b).1>c then(⟨p,gI t l b,mF l b,l.sheet.miles⟩,E)
     else if lJ x t p q l b>t.drive then(⟨p,gI t l b,mF l b,l.sheet.miles⟩,16)
     else(⟨q,(goL x t p q l b).1,lJ x t p q l b,W (l.sheet.miles+(goL x t p q l b).2.1)⟩,0):=by
 unfold fU goL lJ;by_cases h:(eU x.net t.profile p q (gI t l b)).2.2=0
 . simp only[h];rfl
 . have:((eU x.net t.profile p q (gI t l b)).2.2 == 0)=false:=by simpa using h
   have F:((eU x.net t.profile p q (gI t l b)).2.2 != 0)=true:=by simpa using h
   simp only[this,F];rfl
theorem OP(x:Instance)(t:VType):∀(vs:List Visit) (bs:List Bool) (b:Bool) (p:Int) (k:Nat) (l:Lab) (dr:List Int),bs.length=vs.length->l.sheet.times.length=k ->
   (∀v∈vs,(bA x v).1.start<=(bA x v).1.close) ->
   match (vs.zip bs).foldlM (jW x t) (kI t ⟨p,l.ready,l.since,l.sheet.miles⟩ b,dr,(cO l.sheet k b (gI t l b)).times)with
   | .error e=>C7 x t vs (b::bs) p k l=.error e
   | .ok a=>if((fU x t a.1 t.dst t.close 15).2 != 0)=true then C7 x t vs (b::bs) p k l=.error (fU x t a.1 t.dst t.close 15).2
     else ∃l',C7 x t vs (b::bs) p k l=.ok l'/\l'.sheet=⟨(cO l.sheet k b (gI t l b)).rest,(cO l.sheet k b (gI t l b)).depart,a.2.2,(fU x t a.1 t.dst t.close 15).1.time,(fU x t a.1 t.dst t.close 15).1.miles⟩
 | [],bs,b,p,k,l,dr,hb,hk,_=>by
   simp only[List.zip_nil_left,List.foldlM_nil];show if((fU x t (kI t ⟨p,l.ready,l.since,l.sheet.miles⟩ b) t.dst t.close 15).2 != 0)=true then _ else _
   rw[wB,KX];unfold C7 pW;by_cases h1:((goL x t p t.dst l b).2.2 != 0)=true
   . simp only[h1,if_true];exact(if_pos (by decide)).mpr trivial
   by_cases F:(goL x t p t.dst l b).1>t.close
   . simp only[h1,F,if_true,if_false,Xax];exact(if_pos (by decide)).mpr trivial
   by_cases X:lJ x t p t.dst l b>t.drive
   . simp only[h1,F,X,if_true,if_false,Xax];exact(if_pos (by decide)).mpr trivial
   . simp only[h1,F,X,if_false,Xax]
     refine(if_neg (by decide)).mpr ⟨_,rfl,?_⟩;unfold HD;rfl
 | v::vs,[],b,p,k,l,dr,hb,_,_=>by simp at hb
 | v::vs,b1::bs,b,p,k,l,dr,hb,hk,hs=>by
   have O:=hs v (by simp);rw[List.zip_cons_cons,List.foldlM_cons];unfold C7;have E:iU x t (kI t ⟨p,l.ready,l.since,l.sheet.miles⟩ b,dr,(cO l.sheet k b (gI t l b)).times) v=_:=(congrArg (fun s=>fU x t s (bA x v).1.place (bA x v).1.close 14) (wB t p l l.sheet.miles b)).trans KX;generalize Y:(bA x v).1=s at E O |-;unfold nS;by_cases h1:((goL x t p s.place l b).2.2 != 0)=true
   . simp only[h1,if_true]at E |-
     unfold jW;rw[E];rfl
   by_cases F:(goL x t p s.place l b).1>s.close
   . have I:=(U4 O).2 F
     simp only[h1,F,I,if_true,if_false,Xax]at E |-;unfold jW;rw[E];rfl
   have I:¬fP (goL x t p s.place l b).1 s.start>s.close:=fun h=>F ((U4 O).1 h)
   by_cases X:lJ x t p s.place l b>t.drive
   . simp only[h1,F,I,X,if_true,if_false,Xax]at E |-
     unfold jW;rw[E];rfl
   simp only[h1,F,I,X,if_false,Xax]at E |-;have e1 : jW x t (kI t ⟨p, l.ready, l.since, l.sheet.miles⟩ b, dr, (cO l.sheet k b (gI t l b)).times) (v, b1) =
       .ok (lC x t (kI t ⟨p,l.ready,l.since,l.sheet.miles⟩ b,dr,(cO l.sheet k b (gI t l b)).times) (v,b1)):=by
     unfold jW;rw[E];rfl
   rw[e1];show match (vs.zip bs).foldlM (jW x t) (lC x t (kI t ⟨p,l.ready,l.since,l.sheet.miles⟩ b,dr,(cO l.sheet k b (gI t l b)).times) (v,b1))with
     | .error e=>_
     | .ok a=>_
   have Z:(iL x t p s k l b).times.length=k+1:=by
     simp only[iL,Xae,Xad,List.length_nil,(mQ _ _ _ _).2.2,hk]
   have ih:=OP x t vs bs b1 s.place (k+1) ⟨W (fP (goL x t p s.place l b).1 s.start+s.service),lJ x t p s.place l b,iL x t p s k l b⟩ (dr++[(iU x t (kI t ⟨p,l.ready,l.since,l.sheet.miles⟩ b,dr,(cO l.sheet k b (gI t l b)).times) v).1.driven])
     (by simpa using hb) Z (fun u hu=>hs u (by simp[hu]))
   have e2 : lC x t (kI t ⟨p, l.ready, l.since, l.sheet.miles⟩ b, dr, (cO l.sheet k b (gI t l b)).times) (v, b1) =
       (kI t ⟨s.place,W (fP (goL x t p s.place l b).1 s.start+s.service),lJ x t p s.place l b,(iL x t p s k l b).miles⟩ b1,dr++[(iU x t (kI t ⟨p,l.ready,l.since,l.sheet.miles⟩ b,dr,(cO l.sheet k b (gI t l b)).times) v).1.driven],
         (cO (iL x t p s k l b) (k+1) b1 (gI t ⟨W (fP (goL x t p s.place l b).1 s.start+s.service),lJ x t p s.place l b,iL x t p s k l b⟩ b1)).times):=by
     unfold lC;rw[Y];simp only[E];have J:(cO l.sheet k b (gI t l b)).times.length=k:=by rw[(mQ _ _ _ _).2.2,hk]
     have et:(kI t (CK s ⟨s.place,(goL x t p s.place l b).1,lJ x t p s.place l b,W (l.sheet.miles+(goL x t p s.place l b).2.1)⟩) b1)=⟨s.place,gI t ⟨W (fP (goL x t p s.place l b).1 s.start+s.service),lJ x t p s.place l b,iL x t p s k l b⟩ b1,mF ⟨W (fP (goL x t p s.place l b).1 s.start+s.service),lJ x t p s.place l b,iL x t p s k l b⟩ b1,W (l.sheet.miles+(goL x t p s.place l b).2.1)⟩:=by
       exact wB t s.place ⟨W (fP (goL x t p s.place l b).1 s.start+s.service),lJ x t p s.place l b,iL x t p s k l b⟩ _ b1
     rw[et];rw[wB t s.place ⟨W (fP (goL x t p s.place l b).1 s.start+s.service),lJ x t p s.place l b,iL x t p s k l b⟩ _ b1];have U:((cO l.sheet k b (gI t l b)).times++[(⟨(goL x t p s.place l b).1,fP (goL x t p s.place l b).1 s.start,0,false⟩:Tm)]).getD k Dl=⟨(goL x t p s.place l b).1,fP (goL x t p s.place l b).1 s.start,0,false⟩:=by
       rw[List.getD_eq_getElem?_getD,List.getElem?_append_right (by omega),J];simp
     have hT:(iL x t p s k l b).times=(cO l.sheet k b (gI t l b)).times++[⟨(goL x t p s.place l b).1,fP (goL x t p s.place l b).1 s.start,0,false⟩]:=rfl;have V:∀d,(cO (iL x t p s k l b) (k+1) b1 d).times=(cO l.sheet k b (gI t l b)).times++[⟨(goL x t p s.place l b).1,fP (goL x t p s.place l b).1 s.start,d,b1⟩]:=fun d=>by
       show(iL x t p s k l b).times.set k ⟨((iL x t p s k l b).times.getD k Dl).arrive,((iL x t p s k l b).times.getD k Dl).begin_,d,b1⟩=_;rw[hT,U,List.set_append_right _ _ (by omega),J];simp
     rw[V];rfl
   rw[e2];have er : (cO (iL x t p s k l b) (k + 1) b1 (gI t ⟨W (fP (goL x t p s.place l b).1 s.start + s.service), lJ x t p s.place l b, iL x t p s k l b⟩ b1)).rest = (cO l.sheet k b (gI t l b)).rest /\
       (cO (iL x t p s k l b) (k+1) b1 (gI t ⟨W (fP (goL x t p s.place l b).1 s.start+s.service),lJ x t p s.place l b,iL x t p s k l b⟩ b1)).depart=(cO l.sheet k b (gI t l b)).depart:=⟨rfl,rfl⟩
   rw[er.1,er.2]at ih;exact ih
theorem apF{x:Instance}{r:Route}{t:VType}{b:Bool}{bs:List Bool}(Z:bX x r=true)(Y:x.types[r.type.toNat]?=some t)(J:bs.length=r.visits.length)
   (O:∀v∈r.visits,(bA x v).1.start<=(bA x v).1.close):
   match C7 x t r.visits (b::bs) t.src 0 (fT t r)with
   | .error e=>(eG x r (b::bs)).1=aS/\(eG x r (b::bs)).2.2=e
   | .ok l=>(eG x r (b::bs)).1=l.sheet/\(eG x r (b::bs)).2.2=0:=by
 have e0:eG x r (b::bs)=Le x r (b::bs) t b:=by
   unfold eG;rw[if_neg,Y]
   . rfl
   . rw[Z];simp[J]
 rw[e0];have h:=OP x t r.visits bs b t.src 0 (fT t r) [] J rfl O;unfold Le;show match C7 x t r.visits (b::bs) t.src 0 (fT t r)with
   | .error e=>(match (r.visits.zip bs).foldlM (jW x t) (mT r t b,[],[])with| .error e=>(aS,[],e)| .ok a=>nZ x t b (mT r t b) a:Sheet×List Int×Int).1=aS/\_
   | .ok l=>_
 have X:(kI t ⟨t.src,(fT t r).ready,(fT t r).since,(fT t r).sheet.miles⟩ b,([]:List Int),(cO (fT t r).sheet 0 b (gI t (fT t r) b)).times)=(mT r t b,[],[]):=rfl;rw[X]at h;cases E:(r.visits.zip bs).foldlM (jW x t) (mT r t b,[],[])with
 | error e=>
   rw[E]at h;have h:C7 x t r.visits (b::bs) t.src 0 (fT t r)=.error e:=h;rw[h];exact⟨rfl,by show(match (r.visits.zip bs).foldlM (jW x t) (mT r t b,[],[])with| .error e=>(aS,[],e)| .ok a=>nZ x t b (mT r t b) a:Sheet×List Int×Int).2.2=e;rw[E]⟩
 | ok a=>
   rw[E]at h;simp only at h;by_cases I:((fU x t a.1 t.dst t.close 15).2 != 0)=true
   . rw[if_pos I]at h
     rw[h];have F:nZ x t b (mT r t b) a=(aS,[],(fU x t a.1 t.dst t.close 15).2):=if_pos I;refine⟨?_,?_⟩
     . show(nZ x t b (mT r t b) a).1=_;rw[F]
     . show(match (r.visits.zip bs).foldlM (jW x t) (mT r t b,[],[])with| .error e=>(aS,[],e)| .ok a=>nZ x t b (mT r t b) a:Sheet×List Int×Int).2.2=_
       rw[E];show(nZ x t b (mT r t b) a).2.2=_;rw[F]
   . rw[if_neg I]at h
     obtain⟨l',h1,U⟩:=h;rw[h1];have F:nZ x t b (mT r t b) a=_:=if_neg I;have V:(mT r t b).time=gI t (fT t r) b:=by
       have:=wB t t.src (fT t r) 0 b;exact congrArg St8.time this
     refine⟨?_,?_⟩
     . show(match (r.visits.zip bs).foldlM (jW x t) (mT r t b,[],[])with| .error e=>(aS,[],e)| .ok a=>nZ x t b (mT r t b) a:Sheet×List Int×Int).1=_
       rw[E];show(nZ x t b (mT r t b) a).1=_;rw[F,U];show(⟨b,(mT r t b).time,a.2.2,_,_⟩:Sheet)=_;rw[V];rfl
     . show(match (r.visits.zip bs).foldlM (jW x t) (mT r t b,[],[])with| .error e=>(aS,[],e)| .ok a=>nZ x t b (mT r t b) a:Sheet×List Int×Int).2.2=_
       rw[E];show(nZ x t b (mT r t b) a).2.2=_;rw[F]
structure GoB(x:Instance)(t:VType):Prop where
 arrive:∀p q d,0<=d/\d<=12288->(eU x.net t.profile p q d).2.2=0->0<=(eU x.net t.profile p q d).1
 rest:0<=t.rest/\t.rest<=4096
 close:t.close<=4096
 drive:t.drive<=4096
structure StopB(s:Stop):Prop where
 start:0<=s.start
 close:s.close<=4096
 service:0<=s.service/\s.service<=4096
structure LabB(l:Lab)(k:Nat):Prop where
 ready:0<=l.ready/\l.ready<=8192
 since: -(12288*(k:Int))<=l.since/\l.since<=4096
def mU(l m:Lab):Prop:=l.ready=m.ready/\l.since<=m.since
theorem mU.refl(l:Lab):mU l l:=⟨rfl,Xbi _⟩
theorem mU.trans{a b c:Lab}(h:mU a b)(E:mU b c):mU a c:=⟨h.1.trans E.1,Int.le_trans h.2 E.2⟩
theorem aiC{n:Int}(h: -9223372036854775808<=n/\n<=9223372036854775807):W n=n:=bH h
theorem JV{t:VType}{l:Lab}{k:Nat}(F:0<=t.rest/\t.rest<=4096)(E:LabB l k)(b:Bool):0<=gI t l b/\gI t l b<=12288:=by
 have:=E.ready;unfold gI;cases b with
 | false=>exact⟨this.1,by simp;omega⟩
 | true=>rw[if_pos rfl,aiC (by omega)];omega
theorem JK{l:Lab}{k:Nat}(E:LabB l k)(b:Bool): -(12288*(k:Int))<=mF l b/\mF l b<=4096:=by
 unfold mF;cases b with
 | false=>exact E.since
 | true=>rw[if_pos rfl];omega
theorem CQ{x:Instance}{t:VType}{p q:Int}{l:Lab}{b:Bool}{k:Nat}(U:k<=1048576)(F:GoB x t)(E:LabB l k)(h0:(goL x t p q l b).2.2=0)(h1:(goL x t p q l b).1<=4096):
   lJ x t p q l b=mF l b+(goL x t p q l b).1-gI t l b/\0<=(goL x t p q l b).1:=by
 have J:=JV F.rest E b;have O:=JK E b;have I:0<=(goL x t p q l b).1:=F.arrive p q _ J h0;unfold lJ;rw[aiC (n:=mF l b+(goL x t p q l b).1) (by omega),aiC (by omega)];exact⟨rfl,I⟩
theorem UP(a s:Int):a<=fP a s/\s<=fP a s:=by unfold fP;split <;> omega
theorem Ij{x:Instance}{t:VType}{p:Int}{s:Stop}{k j:Nat}{l l':Lab}{b:Bool}(h:nS x t p s j l b=.ok l'):
   (goL x t p s.place l b).2.2=0/\fP (goL x t p s.place l b).1 s.start<=s.close/\lJ x t p s.place l b<=t.drive /\
     l'=⟨W (fP (goL x t p s.place l b).1 s.start+s.service),lJ x t p s.place l b,iL x t p s j l b⟩:=by
 unfold nS at h;split at h
 . cases h
 . rename_i h1
   split at h
   . cases h
   . rename_i E
     split at h
     . cases h
     . rename_i F
       injection h with h;exact⟨by simpa using h1,by omega,by omega,h.symm⟩
theorem M3{x:Instance}{t:VType}{p:Int}{j:Nat}{l l':Lab}{b:Bool}(h:pW x t p j l b=.ok l'):
   (goL x t p t.dst l b).2.2=0/\(goL x t p t.dst l b).1<=t.close/\lJ x t p t.dst l b<=t.drive /\
     l'=⟨(goL x t p t.dst l b).1,lJ x t p t.dst l b,HD x t p j l b⟩:=by
 unfold pW at h;split at h
 . cases h
 . rename_i h1
   split at h
   . cases h
   . rename_i E
     split at h
     . cases h
     . rename_i F
       injection h with h;exact⟨by simpa using h1,by omega,by omega,h.symm⟩
theorem afH{x:Instance}{t:VType}{p:Int}{s:Stop}{k j:Nat}{l l':Lab}{b:Bool}(U:k<=1048576)(I:GoB x t)(E:StopB s)(F:LabB l k)(h:nS x t p s j l b=.ok l'):LabB l' (k+1):=by
 obtain⟨h0,h1,V,rfl⟩:=Ij (k:=k) h;have hi:=UP (goL x t p s.place l b).1 s.start;have Z:=E.close;have h3:=E.start;have X:=E.service;obtain⟨e,Y⟩:=CQ U I F h0 (by omega);have hd:=JV I.rest F b;have O:=JK F b;have J:=I.drive;refine⟨?_,?_⟩
 . show 0<=W _/\W _<=8192
   rw[aiC (by omega)];omega
 . show _<=lJ x t p s.place l b/\lJ x t p s.place l b<=4096
   refine⟨?_,by omega⟩;rw[e];push_cast;omega
theorem Ut{x:Instance}{t:VType}{p q:Int}{l m:Lab}{b:Bool}(h:l.ready=m.ready):goL x t p q l b=goL x t p q m b/\gI t l b=gI t m b:=by
 have e:gI t l b=gI t m b:=by unfold gI;rw[h]
 exact⟨by unfold goL;rw[e],e⟩
theorem F6{x:Instance}{t:VType}{p:Int}{s:Stop}{k j:Nat}{l m J:Lab}{b:Bool}(U:k<=1048576)(V:GoB x t)(X:StopB s)(Z:LabB l k)(Y:LabB m k)(I:mU l m)(h:nS x t p s j m b=.ok J):
   ∃l',nS x t p s j l b=.ok l'/\mU l' J:=by
 obtain⟨h0,h1,h2,rfl⟩:=Ij (k:=k) h;obtain⟨E,ed⟩:=Ut (x:=x) (t:=t) (p:=p) (q:=s.place) (b:=b) I.1;have hi:=UP (goL x t p s.place m b).1 s.start;have hc:=X.close;have e1:=(CQ (p:=p) (q:=s.place) (b:=b) U V Y h0 (by omega)).1;have e2:=(CQ (p:=p) (q:=s.place) (b:=b) U V Z (by rw[E];exact h0) (by rw[E];omega)).1;have O:mF l b<=mF m b:=by
   unfold mF;cases b with
   | false=>exact I.2
   | true=>exact Xbi _
 have F:lJ x t p s.place l b<=lJ x t p s.place m b:=by rw[e1,e2,E,ed];omega
 refine⟨⟨W (fP (goL x t p s.place l b).1 s.start+s.service),lJ x t p s.place l b,iL x t p s j l b⟩,?_,?_,F⟩
 . unfold nS
   rw[E,if_neg (by rw[h0];simp),if_neg (by omega),if_neg (by omega)]
 . show W _=W _
   rw[E]
theorem HY{x:Instance}{t:VType}{p:Int}{k j:Nat}{l m O:Lab}{b:Bool}(V:k<=1048576)(I:GoB x t)(Y:LabB l k)(X:LabB m k)(J:mU l m)(h:pW x t p j m b=.ok O):
   ∃l',pW x t p j l b=.ok l'/\mU l' O:=by
 obtain⟨h0,h1,h2,rfl⟩:=M3 h;obtain⟨E,ed⟩:=Ut (x:=x) (t:=t) (p:=p) (q:=t.dst) (b:=b) J.1;have hc:=I.close;have e1:=(CQ (p:=p) (q:=t.dst) (b:=b) V I X h0 (by omega)).1;have Z:=(CQ (p:=p) (q:=t.dst) (b:=b) V I Y (by rw[E];exact h0) (by rw[E];omega)).1;have U:mF l b<=mF m b:=by
   unfold mF;cases b with
   | false=>exact J.2
   | true=>exact Xbi _
 have F:lJ x t p t.dst l b<=lJ x t p t.dst m b:=by rw[e1,Z,E,ed];omega
 refine⟨⟨(goL x t p t.dst l b).1,lJ x t p t.dst l b,HD x t p j l b⟩,?_,?_,F⟩
 . unfold pW
   rw[E,if_neg (by rw[h0];simp),if_neg (by omega),if_neg (by omega)]
 . show(goL x t p t.dst l b).1=_
   rw[E]
def dX(fixed:List Bool)(k:Nat):List Bool:=if k<fixed.length then[fixed.getD k false]else[false,true]
def gP(x:Instance)(t:VType)(r:Route):Nat->Int
 | 0=>t.src
 | k+1=>match r.visits[k]? with|some v=>(bA x v).1.place|none=>0
def fN(x:Instance)(t:VType)(r:Route)(k:Nat)(l:Lab)(b:Bool):Except Int Lab:=match r.visits[k]? with
 | some v=>nS x t (gP x t r k) (bA x v).1 k l b
 | none=>pW x t (gP x t r k) k l b
def jN(x:Instance)(t:VType)(r:Route):List Bool->Nat->Lab->Except Int Lab
 | [],_,l=>.ok l
 | b::bs,k,l=>match fN x t r k l b with
   | .error e=>.error e
   | .ok l'=>jN x t r bs (k+1) l'
theorem X2{x:Instance}{t:VType}{r:Route}:∀(bs:List Bool) (k:Nat) (l:Lab),bs.length+k=r.visits.length+1->k<=r.visits.length->C7 x t (r.visits.drop k) bs (gP x t r k) k l=jN x t r bs k l
 | [],k,l,h,hk=>by simp at h;omega
 | b::bs,k,l,h,hk=>by
   by_cases E:k<r.visits.length
   . obtain⟨v,F⟩:=aN E
     have O:r.visits.drop k=v::r.visits.drop (k+1):=by
       rw[List.drop_eq_getElem_cons E];have:r.visits[k]=v:=by rw[List.getElem?_eq_getElem E]at F;exact Option.some.inj F
       rw[this]
     rw[O];unfold C7 jN fN;rw[F];have ih:=fun l'=>X2 (x:=x) (t:=t) (r:=r) bs (k+1) l' (by simp at h;omega) (by omega)
     have J:gP x t r (k+1)=(bA x v).1.place:=by
       show(match r.visits[k]? with|some v=>(bA x v).1.place|none=>0)=_;rw[F]
     rw[J]at ih;show(match nS x t (gP x t r k) (bA x v).1 k l b with| .error e=>Except.error e| .ok l'=>C7 x t (r.visits.drop (k+1)) bs (bA x v).1.place (k+1) l')=(match nS x t (gP x t r k) (bA x v).1 k l b with| .error e=>Except.error e| .ok l'=>jN x t r bs (k+1) l');cases nS x t (gP x t r k) (bA x v).1 k l b with
     | error e=>rfl
     | ok l'=>exact ih l'
   . have U:k=r.visits.length:=by omega
     have I:bs=[]:=by
       have:bs.length=0:=by simp at h;omega
       exact Xco this
     subst I;rw[List.drop_eq_nil_of_le (by omega)];unfold C7 jN fN;rw[List.getElem?_eq_none (by omega)];show pW x t (gP x t r k) k l b=match pW x t (gP x t r k) k l b with| .error e=>Except.error e| .ok l'=>jN x t r [] (k+1) l'
     cases pW x t (gP x t r k) k l b with
     | error e=>rfl
     | ok l'=>rfl
theorem oN{x:Instance}{t:VType}{r:Route}:∀(bs:List Bool) (b:Bool) (k:Nat) (l:Lab),jN x t r (bs++[b]) k l=match jN x t r bs k l with
   | .error e=>.error e
   | .ok l'=>fN x t r (k+bs.length) l' b
 | [],b,k,l=>by
   show(match fN x t r k l b with| .error e=>Except.error e| .ok l'=>jN x t r [] (k+1) l')=fN x t r (k+0) l b;cases fN x t r k l b <;> rfl
 | c::bs,b,k,l=>by
   show(match fN x t r k l c with| .error e=>Except.error e| .ok l'=>jN x t r (bs++[b]) (k+1) l')=match (match fN x t r k l c with| .error e=>Except.error e| .ok l'=>jN x t r bs (k+1) l')with| .error e=>Except.error e| .ok l'=>fN x t r (k+(bs.length+1)) l' b
   cases fN x t r k l c with
   | error e=>rfl
   | ok l'=>
     show jN x t r (bs++[b]) (k+1) l'=_;rw[oN bs b (k+1) l',show k+1+bs.length=k+(bs.length+1)by omega]
def uE(m l:Lab):Bool:=m.ready == l.ready&&decide (m.since<=l.since)
theorem Gz{m l:Lab}:uE m l=true↔mU m l:=by
 unfold uE mU;simp
def uI(out:List Lab)(e:Except Int Lab):List Lab:=match e with
 | .error _=>out
 | .ok l=>if out.any (uE · l)=true then out else out++[l]
def Ax(x:Instance)(t:VType)(r:Route)(ls:List Lab)(k:Nat):List Lab:=(ls.flatMap fun l=>(dX r.rests k).map fun b=>fN x t r k l b).foldl uI []
def dpL(x:Instance)(t:VType)(r:Route):Nat->List Lab
 | 0=>[fT t r]
 | k+1=>Ax x t r (dpL x t r k) k
theorem A3:∀(es:List (Except Int Lab)) (out:List Lab),
   (∀l∈es.foldl uI out,l∈out\/.ok l∈es)/\(∀l∈out,l∈es.foldl uI out)/\(∀l,.ok l∈es->∃m∈es.foldl uI out,mU m l)
 | [],out=>⟨fun l h=>.inl h,fun l h=>h,fun l h=>by cases h⟩
 | e::es,out=>by
   obtain⟨h1,U,X⟩:=A3 es (uI out e);have F:∀l∈out,l∈uI out e:=fun l E=>by
     unfold uI;split
     . exact E
     . split
       . exact E
       . exact Xbn _ E
   refine⟨fun l E=>?_,fun l E=>U l (F l E),fun l E=>?_⟩
   . rcases h1 l E with h|h
     . unfold uI at h
       split at h
       . exact .inl h
       . split at h
         . exact .inl h
         . rcases Xau.1 h with h|h
           . exact .inl h
           . simp at h;subst h;exact .inr (by simp)
     . exact .inr (by simp[h])
   . rcases Xbe.1 E with h|h
     . subst h
       have J:∃m∈uI out (.ok l),mU m l:=by
         unfold uI;simp only;split
         . rename_i V
           obtain⟨m,O,I⟩:=Xan.1 V;exact⟨m,O,Gz.1 I⟩
         . exact⟨l,by simp,mU.refl l⟩
       obtain⟨m,O,I⟩:=J;exact⟨m,U m O,I⟩
     . exact X l h
def F0(fixed bs:List Bool):Prop:=∀(i:Nat) (b:Bool),bs[i]?=some b->b∈dX fixed i
theorem FI{fixed bs:List Bool}{b:Bool}:F0 fixed (bs++[b])↔F0 fixed bs/\b∈dX fixed bs.length:=by
 constructor
 . intro h
   refine⟨fun i c E=>h i c ?_,h bs.length b (by simp)⟩;have:=(List.getElem?_eq_some_iff.1 E).1;rw[List.getElem?_append_left this];exact E
 . rintro⟨h1,F⟩ i c E
   by_cases hi:i<bs.length
   . rw[List.getElem?_append_left hi]at E;exact h1 i c E
   . rw[List.getElem?_append_right (by omega)]at E
     by_cases I:i=bs.length
     . subst I;simp at E;subst E;exact F
     . have:i-bs.length≠0:=by omega
       cases J:i-bs.length with
       | zero=>omega
       | succ n=>rw[J]at E;simp at E
structure RouteB(x:Instance)(t:VType)(r:Route):Prop where
 go:GoB x t
 stop:∀v∈r.visits,StopB (bA x v).1
 first:LabB (fT t r) 0
 short:r.visits.length<=1048575
theorem Ln{α:Type}{l:List α}{k:Nat}(h:l.length=k+1):∃m b,l=m++[b]/\m.length=k:=by
 have E:l≠[]:=by intro e;subst e;simp at h
 refine⟨l.dropLast,l.getLast E,(List.dropLast_concat_getLast E).symm,by simp[h]⟩
theorem aiP{x:Instance}{t:VType}{r:Route}{k:Nat}(F:k<r.visits.length)(l:Lab)(b:Bool):∃v∈r.visits,fN x t r k l b=nS x t (gP x t r k) (bA x v).1 k l b:=by
 obtain⟨v,E⟩:=aN F;exact⟨v,Xac E,by unfold fN;rw[E]⟩
theorem MQ{x:Instance}{t:VType}{r:Route}(E:RouteB x t r):∀(k:Nat) (bs:List Bool) (l:Lab),bs.length=k->k<=r.visits.length->jN x t r bs 0 (fT t r)=.ok l->LabB l k
 | 0,bs,l,hl,_,h=>by
   have:=Xco hl;subst this;injection h with h;subst h;exact E.first
 | k+1,bs,l,hl,hk,h=>by
   obtain⟨m,b,rfl,I⟩:=Ln hl;rw[oN]at h;cases F:jN x t r m 0 (fT t r)with
   | error e=>rw[F]at h;cases h
   | ok l'=>
     rw[F]at h;have h:fN x t r (0+m.length) l' b=.ok l:=h;rw[I,Xck]at h;have J:=MQ E k m l' I (by omega) F;have U:=E.short;obtain⟨v,O,e⟩:=aiP (x:=x) (t:=t) (r:=r) (k:=k) (by omega) l' b;rw[e]at h;exact afH (by omega) E.go (E.stop v O) J h
theorem AJ{x:Instance}{t:VType}{r:Route}:∀(k:Nat) (l:Lab),l∈dpL x t r k->∃bs,bs.length=k/\F0 r.rests bs/\jN x t r bs 0 (fT t r)=.ok l
 | 0,l,h=>by
   have h:l∈[fT t r]:=h;simp at h;subst h;exact⟨[],rfl,fun i b E=>by simp at E,rfl⟩
 | k+1,l,h=>by
   have h:l∈Ax x t r (dpL x t r k) k:=h;unfold Ax at h;rcases(A3 _ []).1 l h with h|h
   . cases h
   . obtain⟨l',F,h⟩:=List.mem_flatMap.1 h
     obtain⟨b,E,h⟩:=Xbd.1 h;obtain⟨bs,h1,I,J⟩:=AJ k l' F;refine⟨bs++[b],by simp[h1],FI.2 ⟨I,by rw[h1];exact E⟩,?_⟩;rw[oN,J];show fN x t r (0+bs.length) l' b=.ok l;rw[h1,Xck];exact h
theorem Ev{x:Instance}{t:VType}{r:Route}(E:RouteB x t r):∀(k:Nat) (bs:List Bool) (m:Lab),bs.length=k->k<=r.visits.length+1->F0 r.rests bs->jN x t r bs 0 (fT t r)=.ok m->∃l∈dpL x t r k,mU l m
 | 0,bs,m,hl,_,_,h=>by
   have:=Xco hl;subst this;injection h with h;subst h;exact⟨_,by show fT t r∈[fT t r];simp,mU.refl _⟩
 | k+1,bs,m,hl,hk,hc,h=>by
   obtain⟨cs,b,rfl,O⟩:=Ln hl;obtain⟨Z,J⟩:=FI.1 hc;rw[O]at J;rw[oN]at h;cases U:jN x t r cs 0 (fT t r)with
   | error e=>rw[U]at h;cases h
   | ok m'=>
     rw[U]at h;have h:fN x t r (0+cs.length) m' b=.ok m:=h;rw[O,Xck]at h;obtain⟨l',I,F⟩:=Ev E k cs m' O (by omega) Z U;have hs:=E.short;have bm:=MQ E k cs m' O (by omega) U;obtain⟨ds,d1,d2,d3⟩:=AJ k l' I;have bl:=MQ E k ds l' d1 (by omega) d3;have step:∃l,fN x t r k l' b=.ok l/\mU l m:=by
       by_cases aa:k<r.visits.length
       . obtain⟨v,hv⟩:=aN aa
         have e:∀l,fN x t r k l b=nS x t (gP x t r k) (bA x v).1 k l b:=fun l=>by unfold fN;rw[hv]
         rw[e]at h |-;exact F6 (by omega) E.go (E.stop v (Xac hv)) bl bm F h
       . have e:∀l,fN x t r k l b=pW x t (gP x t r k) k l b:=fun l=>by unfold fN;rw[List.getElem?_eq_none (by omega)]
         rw[e]at h |-;exact HY (by omega) E.go bl bm F h
     obtain⟨l,Y,V⟩:=step;obtain⟨q,hq,X⟩:=(A3 ((dpL x t r k).flatMap fun l=>(dX r.rests k).map fun b=>fN x t r k l b) []).2.2 l
       (List.mem_flatMap.2 ⟨l',I,Xbd.2 ⟨b,J,Y⟩⟩)
     exact⟨q,hq,X.trans V⟩
theorem Q0{x:Instance}{t:VType}{r:Route}(I:RouteB x t r):dpL x t r (r.visits.length+1)=[]↔∀bs,bs.length=r.visits.length+1->F0 r.rests bs->∃e,jN x t r bs 0 (fT t r)=.error e:=by
 constructor
 . intro h bs O U
   cases V:jN x t r bs 0 (fT t r)with
   | error e=>exact⟨e,rfl⟩
   | ok m=>
     obtain⟨l,E,_⟩:=Ev I _ bs m O (Xah _) U V;rw[h]at E;cases E
 . intro h
   cases Y:dpL x t r (r.visits.length+1)with
   | nil=>rfl
   | cons l ls=>
     obtain⟨bs,h1,J,X⟩:=AJ (r.visits.length+1) l (by rw[Y];simp);obtain⟨e,F⟩:=h bs h1 J;rw[X]at F;cases F
theorem Ld{α:Type}(a c:List α)(b d:α):(a++b::c).set a.length d=a++d::c:=by simp
theorem F7{α:Type}(a c:List α)(b d:α):(a++b::c).getD a.length d=b:=by simp
theorem Oq{α:Type}(n:Nat)(a:α):List.replicate (n+1) a=List.replicate n a++[a]:=List.replicate_succ'
theorem HW(n:Nat):∀(j m:Nat) (q:List Bool),n<=q.length->nE n (q.length+1+j) (q++false::(List.replicate j true++List.replicate m false))=(q++true::List.replicate (j+m) false,true)
 | 0,m,q,hq=>by
   unfold nE;rw[if_pos hq];simp only[List.replicate_zero,Xbr,F7,Xck];rw[if_neg (by simp),Ld]
 | j+1,m,q,hq=>by
   have e:q++false::(List.replicate (j+1) true++List.replicate m false)=(q++false::List.replicate j true)++true::List.replicate m false:=by rw[Oq];simp
   have E:(q++false::List.replicate j true).length=q.length+1+j:=by simp;omega
   rw[show q.length+1+(j+1)=(q++false::List.replicate j true).length+1 by omega,e];unfold nE;rw[if_pos (by omega),F7,if_pos rfl,Ld,E];have ih:=HW n j (m+1) q hq;rw[List.replicate_succ]at ih;rw[show(q++false::List.replicate j true)++false::List.replicate m false=q++false::(List.replicate j true++false::List.replicate m false)by simp,ih,show j+(m+1)=j+1+m by omega]
theorem G8(n:Nat):∀(j m:Nat) (p:List Bool),p.length=n->nE n (n+j) (p++(List.replicate j true++List.replicate m false))=([],false)
 | 0,m,p,hp=>by
   rw[Nat.add_zero];cases n with
   | zero=>rfl
   | succ k => conv => lhs; unfold nE
               rw[if_neg (by omega)]
 | j+1,m,p,hp=>by
   have e:p++(List.replicate (j+1) true++List.replicate m false)=(p++List.replicate j true)++true::List.replicate m false:=by rw[Oq];simp
   have E:(p++List.replicate j true).length=n+j:=by simp;omega
   rw[show n+(j+1)=(p++List.replicate j true).length+1 by omega,e];unfold nE;rw[if_pos (by omega),F7,if_pos rfl,Ld,E];have ih:=G8 n j (m+1) p hp;rw[List.replicate_succ]at ih;rw[show(p++List.replicate j true)++false::List.replicate m false=p++(List.replicate j true++false::List.replicate m false)by simp,ih]
theorem acY{n m:Nat}{q:List Bool}(E:n<=q.length):iT (q++false::List.replicate m true) n=(q++true::List.replicate m false,true):=by
 have h:=HW n m 0 q E;simp only[List.replicate_zero,Xai,Nat.add_zero]at h;unfold iT;rw[show(q++false::List.replicate m true).length=q.length+1+m by simp;omega,h]
theorem Yf{n m:Nat}{p:List Bool}(E:p.length=n):iT (p++List.replicate m true) n=([],false):=by
 have h:=G8 n m 0 p E;simp only[List.replicate_zero,Xai]at h;unfold iT;rw[show(p++List.replicate m true).length=n+m by simp[E],h]
def rG(p:List Bool):Nat->List (List Bool)
 | 0=>[p]
 | m+1=>rG (p++[false]) m++rG (p++[true]) m
theorem CY:∀(m:Nat) (p c:List Bool),c∈rG p m↔c.length=p.length+m/\p <+: c
 | 0,p,c=>by
   show c∈[p]↔_;simp only[Xbe,List.not_mem_nil,or_false];constructor
   . rintro rfl;exact⟨rfl,List.prefix_refl _⟩
   . rintro⟨h1,E⟩;exact(E.eq_of_length (by omega)).symm
 | m+1,p,c=>by
   show c∈rG (p++[false]) m++rG (p++[true]) m↔_;rw[Xau,CY m,CY m];constructor
   . rintro(⟨h1,E⟩|⟨h1,E⟩)
     . exact⟨by simp at h1;omega,(List.prefix_append _ _).trans E⟩
     . exact⟨by simp at h1;omega,(List.prefix_append _ _).trans E⟩
   . rintro⟨h1,s,rfl⟩
     cases s with
     | nil=>simp at h1
     | cons b s=>
       cases b
       . exact .inl ⟨by simp at h1 |-;omega,⟨s,by simp⟩⟩
       . exact .inr ⟨by simp at h1 |-;omega,⟨s,by simp⟩⟩
def zO(x:Instance)(r:Route)(l:List (List Bool))(b:Sheet×Bool):Sheet×Bool:=l.foldl (fun b c=>gX x r c b) b
theorem Ce{x:Instance}{r:Route}{n:Nat}:∀(m:Nat) (p:List Bool) (b:Sheet×Bool),n<=p.length ->
   oV x r n (wW (p++List.replicate m false,true)) (p++List.replicate m false,true) b=oV x r n (wW (iT (p++List.replicate m true) n)) (iT (p++List.replicate m true) n) (zO x r (rG p m) b)
 | 0,p,b,hp=>(Am (x:=x) (r:=r) (m:=n) (c:=(p++List.replicate 0 false,true)) (b:=b) rfl).1.trans (by simp only[List.replicate_zero,Xai];rfl)
 | m+1,p,b,hp=>by
   have h1:=Ce (x:=x) (r:=r) (n:=n) m (p++[false]) b (by simp;omega);have E:=Ce (x:=x) (r:=r) (n:=n) m (p++[true]) (zO x r (rG (p++[false]) m) b) (by simp;omega);rw[show p++[false]++List.replicate m false=p++List.replicate (m+1) false by simp[List.replicate_succ]]at h1;rw[show p++[false]++List.replicate m true=p++false::List.replicate m true by simp,acY hp]at h1;rw[show p++[true]++List.replicate m false=p++true::List.replicate m false by simp]at E;rw[show p++[true]++List.replicate m true=p++List.replicate (m+1) true by simp[List.replicate_succ]]at E;rw[h1,E];unfold zO;rw[show rG p (m+1)=rG (p++[false]) m++rG (p++[true]) m from rfl,Xbh]
def qN(r:Route):Nat:=r.visits.length+1-r.rests.length
theorem O0{x:Instance}{r:Route}(O:bX x r=true)(V:r.rests.length<=r.visits.length+1)(I:(eG x r (cM r)).2.2≠0->(eG x r (cM r)).1=aS):
   kO x r=CX (zO x r (rG r.rests (qN r)) (aS,false)) (eG x r (cM r)).2.2:=by
 have e:kO x r=_:=if_neg (by rw[O];simp;omega);rw[e];have F:((eG x r (cM r)).1,(eG x r (cM r)).2.2 == 0)=gX x r (cM r) (aS,false):=by
   unfold gX;by_cases h:(eG x r (cM r)).2.2=0
   . rw[if_pos (by rw[h];rfl),h];rfl
   . rw[if_neg (by simp[h]),I h]
     have:((eG x r (cM r)).2.2 == 0)=false:=by simpa using h
     rw[this]
 rw[F];have J:=(Am (x:=x) (r:=r) (m:=r.rests.length) (c:=(cM r,true)) (b:=(aS,false)) rfl).1;have E:=Ce (x:=x) (r:=r) (n:=r.rests.length) (qN r) r.rests (aS,false) (Xah _);have U:r.rests++List.replicate (qN r) false=cM r:=rfl;rw[U]at E;rw[<-J,E,Yf rfl,vF rfl]
theorem UO{x:Instance}{r:Route}:∀(l:List (List Bool)) (b:Sheet×Bool),(zO x r l b).2=(b.2||l.any fun c=>(eG x r c).2.2 == 0)
 | [],b=>by simp[zO]
 | c::l,b=>by
   have ih:=UO (x:=x) (r:=r) l (gX x r c b);show(zO x r l (gX x r c b)).2=_;rw[ih];unfold gX;simp only[List.any_cons];cases h:(eG x r c).2.2 == 0 <;> simp[h];cases E:b.2 <;> simp[E];split <;> simp[E]
theorem abC{x:Instance}{r:Route}(J:bX x r=true)(F:r.rests.length<=r.visits.length+1)(I:(eG x r (cM r)).2.2≠0->(eG x r (cM r)).1=aS):
   (kO x r).2=if(rG r.rests (qN r)).any (fun c=>(eG x r c).2.2 == 0)=true then 0 else(eG x r (cM r)).2.2:=by
 rw[O0 J F I];have E:=UO (x:=x) (r:=r) (rG r.rests (qN r)) (aS,false);simp only[Xbm]at E;unfold CX;rw[E];split <;> rfl
theorem sI{p c:List Bool}(h:p.length<=c.length):F0 p c↔p <+: c:=by
 constructor
 . intro I
   refine List.prefix_iff_getElem?.2 fun i hi=>?_
   have F:i<c.length:=by omega
   have E:=I i c[i] (List.getElem?_eq_getElem F);unfold dX at E;rw[if_pos hi]at E;simp only[Xbe,List.not_mem_nil,or_false]at E;rw[List.getElem?_eq_getElem F,E];simp[List.getD,List.getElem?_eq_getElem hi]
 . rintro⟨s,rfl⟩ i b E
   unfold dX;by_cases hi:i<p.length
   . rw[if_pos hi]
     rw[List.getElem?_append_left hi]at E;simp[List.getD,E]
   . rw[if_neg hi]
     cases b <;> simp
theorem mJ{r:Route}(E:r.rests.length<=r.visits.length+1):(cM r).length=r.visits.length+1:=by unfold cM;simp;omega
theorem alE{bs:List Bool}{n:Nat}(h:bs.length=n+1):∃b cs,bs=b::cs/\cs.length=n:=by
 cases bs with
 | nil=>simp at h
 | cons b cs=>exact⟨b,cs,rfl,by simpa using h⟩
theorem Qa{x:Instance}{r:Route}{t:VType}{bs:List Bool}(O:bX x r=true)(J:x.types[r.type.toNat]?=some t)(E:bs.length=r.visits.length+1)
   (F:∀v∈r.visits,(bA x v).1.start<=(bA x v).1.close):
   match jN x t r bs 0 (fT t r)with
   | .error e=>(eG x r bs).1=aS/\(eG x r bs).2.2=e
   | .ok l=>(eG x r bs).1=l.sheet/\(eG x r bs).2.2=0:=by
 obtain⟨b,cs,rfl,I⟩:=alE E;have h:=apF (b:=b) O J I F;have e:=X2 (x:=x) (t:=t) (r:=r) (b::cs) 0 (fT t r) (by simpa using E) (Xab _);have e:C7 x t r.visits (b::cs) t.src 0 (fT t r)=jN x t r (b::cs) 0 (fT t r):=e;rw[e]at h;exact h
theorem KO{x:Instance}{t:VType}{p:Int}{s:Stop}{k:Nat}{l:Lab}{b:Bool}{e:Int}(h:nS x t p s k l b=.error e):e≠0:=by
 unfold nS at h
 repeat' split at h
 all_goals first|(injection h with h;omega)|cases h
theorem Kh{x:Instance}{t:VType}{p:Int}{k:Nat}{l:Lab}{b:Bool}{e:Int}(h:pW x t p k l b=.error e):e≠0:=by
 unfold pW at h
 repeat' split at h
 all_goals first|(injection h with h;omega)|cases h
theorem Cp{x:Instance}{t:VType}{r:Route}:∀(bs:List Bool) (k:Nat) (l:Lab) (e:Int),jN x t r bs k l=.error e->e≠0
 | [],k,l,e,h=>by cases h
 | b::bs,k,l,e,h=>by
   unfold jN at h;cases E:fN x t r k l b with
   | error e'=>
     rw[E]at h;have h:(Except.error e':Except Int Lab)=.error e:=h;injection h with h;subst h;unfold fN at E;split at E
     . exact KO E
     . exact Kh E
   | ok l'=>rw[E]at h;exact Cp bs (k+1) l' e h
def D4(e:Except Int Lab):Int:=match e with| .error e=>e| .ok _=>0
theorem ahX{x:Instance}{r:Route}{t:VType}(hB:RouteB x t r)(O:bX x r=true)(Z:x.types[r.type.toNat]?=some t)(hr:r.rests.length<=r.visits.length+1)
   (U:∀v∈r.visits,(bA x v).1.start<=(bA x v).1.close):
   (kO x r).2=match dpL x t r (r.visits.length+1)with
     | []=>D4 (jN x t r (cM r) 0 (fT t r))
     | _::_=>0:=by
 have h0:=Qa (bs:=cM r) O Z (mJ hr) U;have hz:(eG x r (cM r)).2.2≠0->(eG x r (cM r)).1=aS:=by
   intro Y;cases E:jN x t r (cM r) 0 (fT t r)with
   | error e=>rw[E]at h0;exact h0.1
   | ok l=>rw[E]at h0;exact absurd h0.2 Y
 have e0:(eG x r (cM r)).2.2=D4 (jN x t r (cM r) 0 (fT t r)):=by
   cases E:jN x t r (cM r) 0 (fT t r)with
   | error e=>rw[E]at h0;exact h0.2
   | ok l=>rw[E]at h0;exact h0.2
 rw[abC O hr hz,e0];cases I:dpL x t r (r.visits.length+1)with
 | nil=>
   rw[if_neg];rw[Xan];rintro⟨c,hc,he⟩;obtain⟨aa,X⟩:=(CY _ _ _).1 hc;have J:c.length=r.visits.length+1:=by unfold qN at aa;omega
   obtain⟨e,F⟩:=(Q0 hB).1 I c J ((sI (by omega)).2 X);have h1:=Qa (bs:=c) O Z J U;rw[F]at h1;have V:(eG x r c).2.2=0:=by simpa using he
   exact Cp _ _ _ _ F (h1.2.symm.trans V)
 | cons l ls=>
   rw[if_pos];rw[Xan];obtain⟨bs,h1,V,h3⟩:=AJ (r.visits.length+1) l (by rw[I];simp);refine⟨bs,(CY _ _ _).2 ⟨by unfold qN;omega,(sI (by omega)).1 V⟩,?_⟩;have E:=Qa (bs:=bs) O Z h1 U;rw[h3]at E;rw[E.2];rfl
end Sq
namespace Rx
open Go.Nu
open Sq (W eU uW wN BS iA fC eD dE NetOk)
structure Clk where
 ready:Int
 since:Int
structure Part where
 place:Int
 memory:Nat
 board:Nat
 visits:Nat
 load:List Int
 clocks:List Clk
 value:ByteArray
structure Wk where
 x:Instance
 kind:Nat
 t:VType
 near:List Int
 dual:Option (List ByteArray)
 most:Nat
section
variable(w:Wk)
end
def Yv(c d:Clk):Bool:=c.ready == d.ready&&decide (c.since<=d.since)
def axG(n:Network)(t:VType)(place goal:Int)(s:List Clk×Int)(c:Clk):List Clk×Int:=
 if((eU n t.profile place goal c.ready).2.2 == 0&&decide (W (W (c.since+(eU n t.profile place goal c.ready).1)-c.ready)<=t.drive))=true
 then(s.1++[⟨(eU n t.profile place goal c.ready).1,W (W (c.since+(eU n t.profile place goal c.ready).1)-c.ready)⟩],(eU n t.profile place goal c.ready).2.1)else s
def alR(t:VType)(c:Clk):Clk:=⟨W (c.ready+t.rest),0⟩
def drv2(n:Network)(t:VType)(place goal:Int)(s:List Clk×Int)(c:Clk):List Clk×Int:=axG n t place goal (axG n t place goal s c) (alR t c)
def acE(n:Network)(t:VType)(place goal:Int)(l:List Clk):List Clk×Int:=l.foldl (drv2 n t place goal) ([],0)
def lY(s:Stop)(a:Int):Int×Int:=if fP a s.start>s.close then(0,14)else(W (fP a s.start+s.service),0)
def srvC(s:Stop)(out:List Clk)(c:Clk):List Clk:=
 if((lY s c.ready).2 != 0)=true then out
 else if(out.any fun d=>Yv d ⟨(lY s c.ready).1,c.since⟩)=true then out
 else(out.filter fun d=> !Yv ⟨(lY s c.ready).1,c.since⟩ d)++[⟨(lY s c.ready).1,c.since⟩]
def Uc(s:Stop)(l:List Clk):List Clk:=l.foldl (srvC s) []
def memP(near:List Int)(m o:Nat):Nat:=(m &&& (near.getD o 0).toNat) ||| 2^o
def Vf(a:Int)(kind:Nat):Int:=if(a != -1&&a != (kind:Int))=true then 1 else 0
def ahC(a:ByteArray)(n:Int):ByteArray:=(BZ a (zed n)).1
def dB(x:Instance)(o:Nat):Order:=x.orders.getD o ⟨ByteArray.empty,[],⟨0,0,0,0⟩,⟨0,0,0,0⟩,0,0,0,0,0,false⟩
def aqS(a:ByteArray)(o:Nat):Option (List ByteArray)->ByteArray
 | none=>a
 | some l=>(LG a (l.getD o ByteArray.empty)).1
def MS(w:Wk)(p:Part)(o:Nat):Part×Bool:=
 if(dE (p.memory:Nat) (o:Nat)||dE (p.board:Nat) (o:Nat))=true then(p,false)
 else({ p with memory:=memP w.near p.memory o,value:=aqS (ahC p.value ((Vf (dB w.x o).now w.kind*16+Vf (dB w.x o).last w.kind)*65536)) o w.dual },true)
def anP(b o:Nat):Nat:=b ^^^ (b &&& 2^o)
def Bx(o:Order):Bool:=decide (o.pick.place>=0)&&decide (o.drop.place>=0)
def ahA(w:Wk)(p:Part)(o:Nat)(drop:Bool):Part×Bool:=
 if drop=false then
   ({ p with load:=wN p.load (dB w.x o).load,board:=if Bx (dB w.x o)=true then p.board ||| 2^o else p.board },iA (wN p.load (dB w.x o).load) w.t.cap)
 else if Bx (dB w.x o)=true then
   if dE (p.board:Nat) (o:Nat)=true then({ p with load:=BS p.load (dB w.x o).load,board:=anP p.board o },iA (BS p.load (dB w.x o).load) w.t.cap)else(p,false)
 else(p,iA p.load w.t.cap)
def goP(w:Wk)(p:Part)(s:Stop):Part×Bool:=
 let d:=acE w.x.net w.t p.place s.place p.clocks
 ({ p with clocks:=Uc s d.1,place:=s.place,visits:=p.visits+1,value:=ahC p.value (W (W (w.t.perMile*d.2)*16777216)) },decide ((Uc s d.1).length>0))
def UB(w:Wk)(p:Part)(v:Visit):Part×Bool:=
 if(decide ((p.visits:Int)>=(w.most:Int))||(dB w.x v.order.toNat).off|| !uW w.t.skills (dB w.x v.order.toNat).skills)=true then(p,false)
 else
   let s:=if(!v.drop||decide ((dB w.x v.order.toNat).pick.place<0))=true then MS w p v.order.toNat else(p,true)
   if s.2=true then
     let l:=ahA w s.1 v.order.toNat v.drop
     if l.2=true then(if((eD w.x v).2 != 0)=true then(l.1,false)else goP w l.1 (eD w.x v).1)else(l.1,false)
   else(s.1,false)
def aAP(close:Int)(out:Int)(c:Clk):Int:=if(decide (c.ready<=close)&&(decide (out<0)||decide (c.ready<out)))=true then c.ready else out
def aeH(w:Wk)(p:Part):Int×Int×Bool:=
 if((p.visits:Int) == 0||(p.board:Int) != 0)=true then(0,0,false)
 else
   let d:=acE w.x.net w.t p.place w.t.dst p.clocks
   (d.1.foldl (aAP w.t.close) (-1),d.2,decide (d.1.foldl (aAP w.t.close) (-1)>=0))
def aaF(w:Wk)(e:Int):Int:=W (e-w.t.start)
def aA9(w:Wk)(e miles:Int):Int:=W (W (w.t.fixed+W (w.t.perMile*miles))+W (w.t.perTick*aaF w e))
def aqF(w:Wk)(p:Part)(e miles:Int):ByteArray:=
 ahC p.value (W (W (aA9 w e miles*16777216)+W (W (Int.tdiv (aaF w e) 64)*W (Int.tdiv (aaF w e) 64))))
def Y5(x:Instance):List Visit:=(List.range x.orders.length).flatMap fun i=>if(dB x i).off=true then[]else fC x.orders (i:Nat)
def apR(w:Wk):Part:=⟨w.t.src,0,0,0,List.replicate w.t.cap.length 0,[⟨w.t.start,0⟩],dec 0⟩
structure Srch where
 known:List Part
 more:List Part
 best:ByteArray
 found:Bool
end Rx
namespace Rx
open Go.Nu
open Sq (W eU uW wN BS iA fC eD dE NetOk)
open Nu (Aa AR C0 ltB geB)
structure NearB(near:List Int):Prop where
 len:near.length<=62
 num:∀n∈near,0<=n/\n<4611686018427387904
end Rx
namespace Rx
open Go.Proofs.Tryz(prog)
open Go.Nu
open Sq (W eU uW wN BS iA fC eD dE NetOk nQ kW jP pB)
open Mv (bJ bR aM)
open Nu (Aa AR C0 ltB geB)
theorem bF.cutO{P:Program}{f:FuncId}{args:List AV}{H:aK}{K:AV->aK->Prop}
   (h:bF P f args H fun a H'=>K a H'\/∃j i row,a=.oz j 0 i/\H' j=some row/\i<=row.es.length/\∀F,H' F=none->K (.os F) (aI (aI H' j none) F (some ⟨row.e,row.sz,row.es.take i⟩))):bF P f args H K:=by
 intro S w vals hS ha;refine(h S w vals hS ha).mono fun e w' ⟨v,x,H',S',he,O,E,Y,Z,hn⟩=>?_
 rcases O with O|O
 . exact⟨v,x,H',S',he,O,E,Y,Z,hn⟩
 have h2:∀K2:AV->aK->Prop,(∃j i row,x=.oz j 0 i/\H' j=some row/\i<=row.es.length/\∀F,H' F=none->K2 (.os F) (aI (aI H' j none) F (some ⟨row.e,row.sz,row.es.take i⟩)))->∃v x H' S',e=.returned v/\K2 x H'/\St S' w' H'/\rep S' w' x v/\Grow S w S' w'/\∀k,k<S.N->H k=none->H' k=none:=by
   rintro K2 ⟨j,i,row,rfl,hj,hi,hk⟩;simp only[rep]at Y;obtain⟨aa,ad,n,c,V,cc,J,U,_,ab,_,h0⟩:=Y;obtain⟨rfl,rfl⟩:=h0 trivial;obtain⟨c1,c2⟩:=E.cut hj J hi;have I:H' S'.N=none:=by
     cases e:H' S'.N with
     | none=>rfl
     | some row2=>exact absurd (E.rows _ _ e).lt (Nat.lt_irrefl _)
   refine⟨v,.os S'.N,_,_,he,hk S'.N I,c1,?_,Z.trans c2,fun q hq h0=>?_⟩
   . simp only[rep]
     refine⟨Nat.lt_succ_self _,?_,V,i-0,cc,U⟩;rw[U];simp[Sg.addRow]
   . have X:q≠S'.N:=Nat.ne_of_lt (Xcb hq Z.le.N)
     rw[aF _ _ _ _ X];by_cases e:q=j
     . subst e;rw[aA]
     . rw[aF _ _ _ _ e];exact hn q hq h0
 exact h2 K O
theorem DI{α:Type}{p:α->Bool}:∀{l:List α} {n:Int},0<=n->nQ p l n= -1->∀y∈l,p y=false
 | [],_,_,_,y,E=>by simp at E
 | a::r,n,hn,h,y,E=>by
   simp only[nQ]at h;split at h
   . omega
   . next F=>
     rcases Xbe.1 E with rfl|E
     . simpa using F
     . exact DI (by omega) h y E
theorem Dj{α:Type}{p:α->Bool}:∀{l:List α} {n:Int},nQ p l n≠ -1->∃(i:Nat) (y:α),nQ p l n=n+i/\l[i]?=some y/\p y=true/\∀u∈l.take i,p u=false
 | [],_,h=>absurd rfl h
 | a::r,n,h=>by
   simp only[nQ]at h |-;by_cases E:p a=true
   . exact⟨0,a,by rw[if_pos E];omega,rfl,E,by simp⟩
   . rw[if_neg E]at h |-
     obtain⟨i,y,h1,I,J,O⟩:=Dj h;refine⟨i+1,y,by omega,I,J,fun u F=>?_⟩;rw[List.take_succ_cons]at F;rcases Xbe.1 F with rfl|F
     . simpa using E
     . exact O u F
theorem BC{α:Type}(l:List α){m:Nat}{v:α}(h:m<l.length):(l.set m v).take (m+1)=l.take m++[v]:=by
 have E:(l.set m v)[m]?=some v:=by simp[h]
 rw[List.take_add_one,E,List.take_set_of_le (Xah m)];rfl
theorem abB(s:Stop)(a:Int):PC prog 245 [.agg (dV s),int a] (.tup [int (lY s a).1,int (lY s a).2]):=by
 refine pcd Tryz.func245 ?_;unfold Tryz.f245;simp only[gdS];simp only[go_sem];refine PC.use (Sq.UN s a) ?_;unfold lY;by_cases h:fP a s.start>s.close
 . simp only[if_pos h]
   simp only[go_sem];refine aB (fun E=>?_) (fun E=>?_)
   . simp only[go_sem]
     exact .refl _
   . simp at E
 . simp only[if_neg h]
   simp only[go_sem];refine aB (fun E=>?_) (fun E=>?_)
   . simp at E
   . simp only[go_sem]
     exact .refl _
end Rx
namespace Rx
open Go.Nu
open Sq (W eU uW wN BS iA fC eD dE NetOk)
open Nu (Aa AR C0 ltB geB)
structure WkOk(w:Wk):Prop where
 net:NetOk w.x.net
 near:NearB w.near
 len:w.near.length=w.x.orders.length
 kind:w.kind<4611686018427387904
 dual:∀l,w.dual=some l->l.length=w.x.orders.length/\∀a∈l,a.size<=1048576
structure PartOk(p:Part):Prop where
 mem:p.memory<2^62
 board:p.board<2^62
 value:p.value.size<=1048576
theorem fZ{x:Instance}{o:Nat}(h:o<x.orders.length):x.orders[o]?=some (dB x o):=by
 unfold dB;rw[List.getD,List.getElem?_eq_getElem h,Option.getD_some]
theorem Z5(n:Int): -9223372036854775808<=IntKind.i64.wrap n/\IntKind.i64.wrap n<=9223372036854775807:=by
 have e:IntKind.i64.wrap n=Go.RowKit.wrap64 n:=IntWalk.i64_left n;rw[e];unfold Go.RowKit.wrap64;omega
abbrev xK(s:Stop):Row:=⟨109,4,[dV s]⟩
end Rx
namespace Rx
open Go.Nu
open Sq (W eU uW wN BS iA fC eD dE NetOk)
open Nu (Aa AR C0 ltB geB yL)
open Mv (bJ bR aM)
def lR(x:Instance)(k:Nat):VType:=x.types.getD k ⟨ByteArray.empty,0,0,0,[],0,0,0,0,0,0,0,0,0⟩
structure PInv(D:Nat)(p:Part):Prop where
 ok:PartOk p
 load:p.load.length=D
 clk:p.clocks.length<=2^p.visits
structure WkB(D:Nat)(w:Wk):Prop where
 ok:WkOk w
 dim:∀o,o<w.x.orders.length->(dB w.x o).load.length=D
 D:D<=1048576
 n:w.x.orders.length<=62
 most:w.most<=16
structure VisOk(x:Instance)(v:Visit):Prop where
 ex:∃o:Nat,v.order=(o:Nat)/\o<x.orders.length
def arY(w:Wk)(p:Part)(n:Int):Int:=if(aeH w p).2.2=true then W (n+1)else n
def countP(w:Wk)(vs:List Visit):Nat->Part->Int->Int
 | 0,p,n=>arY w p n
 | f+1,p,n=>vs.foldl (fun n v=>if n>8192 then n else if(UB w p v).2=true then countP w vs f (UB w p v).1 n else n) (arY w p n)
structure XB(D:Nat)(x:Instance):Prop where
 net:NetOk x.net
 dim:∀o,o<x.orders.length->(dB x o).load.length=D
 cap:∀k,k<x.types.length->(lR x k).cap.length=D
 D:D<=1048576
 n:x.orders.length<=8
 types:x.types.length<=1048576
end Rx
namespace Rx
open Go.Nu
open Sq (W eU uW wN BS iA fC eD dE NetOk nQ kW jP pB)
open Nu (Aa AR C0 ltB geB yL Au)
open Mv (bJ bR aM)
section
variable{H:aK}{w:Wk}{jw jk jm jf:Nat}{known more fresh:List Part}
end
structure SI(D:Nat)(w:Wk)(r m K:Nat)(s:Srch):Prop where
 known:∀p∈s.known,PInv D p/\p.visits<=6
 more:∀p∈s.more,PInv D p/\p.visits=r+1/\r+1<=w.most
 ml:s.more.length<=m
 kl:s.known.length<=K+s.more.length
 best:s.best.size<=8194
end Rx
end Go.Proofs.YtohmomanmikphaaGreatDoor
section
namespace Go.So
variable{α:Type}
structure SWO(lt:α->α->Bool):Prop where
 asym:∀a b,lt a b=true->lt b a=false
 neg:∀a b c,lt a b=false->lt b c=false->lt a c=false
def tlt(lt:α->α->Bool)(p q:α×Nat):Prop:=lt p.1 q.1=true\/(lt q.1 p.1=false/\p.2<q.2)
section
variable{lt:α->α->Bool}(h:SWO lt)
include h
end
def ins(lt:α->α->Bool)(x:α):List α->List α
 | []=>[x]
 | z::r=>if lt x z=true then x::z::r else z::ins lt x r
def BB(lt:α->α->Bool)(l:List α):List α:=l.foldl (fun acc x=>ins lt x acc) []
theorem OY(lt:α->α->Bool)(x:α):∀l:List α,(ins lt x l).Perm (x::l)
 | []=>.refl _
 | z::r=>by
   unfold ins;split
   . exact .refl _
   . exact((OY lt x r).cons z).trans (.swap x z r)
section
variable{lt:α->α->Bool}(h:SWO lt)
include h
end
def ayS(A B:List (α×Nat)):Prop:=∀x∈A,∀y∈B,x.2<y.2
structure Good(lt:α->α->Bool)(R:List (List (α×Nat))):Prop where
 srt:∀A∈R,A.Pairwise (tlt lt)
 rk:R.Pairwise ayS
end Go.So
end
namespace Go.Proofs.YtohmomanmikphaaGreatDoor
open Go.Aw Go.Aw.D Go.Proofs Ty
namespace Rx
open Go.Proofs.Tryz(prog)
open Go.Nu Go.So
open Nu (ltB geB)
abbrev Lx(l:List Int):Row:=⟨3,1,l.map bW⟩
theorem GP(x:Int):(bW x).length=1:=(rfl)
abbrev TB:=Int×Nat
def fs(L:List TB):List Int:=L.map Prod.fst
structure CmpOk(gf:Nat)(cap':List AV)(lt:Int->Int->Bool)(ok:Int->Prop):Prop where
 call:aG Tryz.prog gf=true
 cmp:∀x y,ok x->ok y->∃n:Int,decide (n<0)=lt x y/\PC Tryz.prog gf (int x::int y::cap') (int n)
section
variable{gf:Nat}{cx:AV}{jc:Nat}{rc:Row}{cap':List AV}{lt:Int->Int->Bool}{ok:Int->Prop}
end
end Rx
namespace Rx
open Go.Nu Go.So
open Sq (W fC eD dE NetOk nQ kW jP pB)
open Nu (ltB geB Dr)
open Mv (bJ bR aM)
end Rx
namespace Rx
open Go.Nu Go.So
open Sq (W fC eD dE NetOk)
open Nu (ltB geB)
open Mv (bJ bR aM)
def lQ(s i:Nat):Bool:=s/2^i%2 == 1
def Oz(o:Order):List Int:=(if decide (o.pick.place>=0)=true then[o.pick.place]else[])++(if decide (o.drop.place>=0)=true then[o.drop.place]else[])
def gZ(near:List Int)(m o:Nat)(s i:Nat):Nat:=if(i == o||(lQ m i&&lQ (near.getD o 0).toNat i))=true then s+2^i else s
def d32A(p q:Int)(out:Int)(w:Arc):Int:=if((w.src == p&&w.dst == q)||(w.src == q&&w.dst == p))=true then aeZ out w.miles else out
def d32Q(arcs:List Arc)(p:Int)(out q:Int):Int:=arcs.foldl (d32A p q) (if(p == q)=true then 0 else out)
def d32P(arcs:List Arc)(Q:List Int)(out p:Int):Int:=Q.foldl (d32Q arcs p) out
def aaN(x:Instance)(a b:Nat):Int:=(Oz (dB x a)).foldl (d32P x.net.arcs (Oz (dB x b))) 10001
def lX(x:Instance)(a set:Nat)(best:Int)(b:Nat):Int:=if(!lQ set b&&(decide (best<0)||decide (aaN x a b<aaN x a best.toNat)))=true then(b:Int)else best
end Rx
namespace Rx
open Go.Nu Go.So
open Sq (W fC eD dE NetOk eU)
open Nu (ltB geB)
open Mv (bJ bR aM)
structure Mom where
 time:Int
 driven:Int
structure RP where
 place:Int
 visits:Nat
 miles:Int
 moms:List Mom
 memory:Nat
 board:Nat
 load:List Int
 moved:Int
 other:Int
 dual:ByteArray
structure Rs where
 x:Instance
 t:VType
 kind:Nat
 near:List Int
 dual:List ByteArray
 most:Nat
 count:Int
 limited:Bool
 found:Bool
 least:ByteArray
section
variable(p:RP)
end
section
variable(w:Rs)
end
def azV(t:VType)(m:Mom):Mom:=⟨W (m.time+t.rest),0⟩
def akC(t:VType)(l:List Mom):List Mom:=l.flatMap fun m=>[m,azV t m]
def arrM(n:Network)(t:VType)(place goal close:Int)(s:List Mom×Int)(m:Mom):List Mom×Int:=
 (if(((eU n t.profile place goal m.time).2.2 == 0&&decide ((eU n t.profile place goal m.time).1<=close))&&decide (W (W (m.driven+(eU n t.profile place goal m.time).1)-m.time)<=t.drive))=true
  then s.1++[⟨(eU n t.profile place goal m.time).1,W (W (m.driven+(eU n t.profile place goal m.time).1)-m.time)⟩]else s.1,(eU n t.profile place goal m.time).2.1)
def IY(n:Network)(t:VType)(place goal close:Int)(l:List Mom):List Mom×Int:=l.foldl (arrM n t place goal close) ([],0)
end Rx
end Go.Proofs.YtohmomanmikphaaGreatDoor
section
namespace Go.Aw
open Go.RowKit
section
variable{P:Program}{f:FuncId}{args:List AV}{H H1:aK}{K:AV->aK->Prop}{r:AV}
def MC(P:Program)(f:FuncId)(args:List AV)(H H1:aK)(r:AV):Prop:=∀K:AV->aK->Prop,K r H1->bF P f args H K
theorem MC.use(h:MC P f args H H1 r)(E:K r H1):bF P f args H K:=h K E
theorem bF.dataM(J:∀k,H k=none->H1 k=none)(h:bF P f args H (K5 H1 r))(hK:K r H1):bF P f args H K:=by
 intro S w vals hS X;refine(h S w vals hS X).mono fun e w' ⟨v,x,H',S',U,⟨V,l,Y,Z⟩,F,hv,hg,hn⟩=>?_
 obtain⟨h1,O,h3⟩:=F.frz l;refine⟨v,r,H1,S'.froze _,U,hK,h1.drop (fun k row I=>?_),Z.rep h3 hv,hg.trans O,fun k _ h0=>J k h0⟩;have E:¬k∈l:=fun E=>by rw[Y k E]at I;cases I
 show(if k∈l then none else H' k)=some row;rw[if_neg E];exact V k row I
theorem MC.body{fn:Func}{c:Code}(mt:Nat->Bool)(F:∀k,H k=none->H1 k=none)(U:P.follows .mixedOrders=true)(I:P.funcs[f]?=some fn)(E:fn.body=some c)(J:BG fn c args.length=true)
 (h:awp P (bF P) (dP P) mt c (IJ P fn.results.toList (K5 H1 r)) (DH args) H):MC P f args H H1 r:=fun K O=>bF.dataM F (bF.body mt U I E J h) O
theorem NQ{H:aK}{j:Nat}{a:Row}(h:H j=some a):aI H j (some a)=H:=funext fun k=>by
 by_cases e:k=j
 . subst e;rw[aA,h]
 . rw[aF _ _ _ _ e]
theorem VP(H:aK)(j:Nat)(a b:Option Row):aI (aI H j a) j b=aI H j b:=funext fun k=>by
 by_cases e:k=j
 . subst e;rw[aA,aA]
 . rw[aF _ _ _ _ e,aF _ _ _ _ e,aF _ _ _ _ e]
theorem Sup.set{H H':aK}(h:Sup H H')(j:Nat)(a:Option Row):Sup (aI H j a) (aI H' j a):=fun k row E=>by
 by_cases e:k=j
 . subst e;rw[aA]at E |-;exact E
 . rw[aF _ _ _ _ e]at E |-;exact h k row E
theorem Sup.set2{H H':aK}{j:Nat}{b:Option Row}(h:Sup (aI H j b) H')(a:Option Row):Sup (aI H j a) (aI H' j a):=by
 have:=Sup.set h j a
 rwa [VP]at this
theorem RD{H:aK}{j:Nat}{a:Option Row}{b:Row}(h:H j=some b):∀k,H k=none->aI H j a k=none:=fun k E=>by
 by_cases e:k=j
 . subst e;rw[h]at E;cases E
 . rw[aF _ _ _ _ e,E]
theorem CO{P:Program}{C:mD}{PC:FuncId->List AV->aK->AV->Prop}{mt:Nat->Bool}{ops:List Oper}{K:Env->aK->Prop}{m:Nat}{ρ:Env}{H:aK}(l:List Nat)(t:Mx)(J:Env->aK->Prop)(O:∀k,k∈l->(H k).isSome=true)(I:Kp ops.toArray t=true)
 (h:∀K':Env->aK->Prop,(∀E H',J E H'->K' E H')->∀Hp F:aK,(∀k,k∈l->Hp k=H k)->(∀k,k∉l->F k=H k)->(∀k,k∉l->Hp k=none)->(∀k,k∈l->F k=none)->nL P C PC mt ops.toArray (nB l H K') Hp t ρ F)
 (U:∀E H',J E H'->K E H'):uY P C PC mt ops.toArray K m ρ H:=LD l t O I (h K U)
end
end Go.Aw
namespace Go.Proofs.YtohmomanmikphaaGreatDoor.Rx
open Go.Aw Go.Aw.D Go.Proofs Ty Go.Nu Go.So
open Sq (W fC eD dE NetOk eU)
open Nu (ltB geB Ez)
open Mv (bJ bR aM)
def E5(s:Rs)(v:ByteArray):Rs:=
 if(!s.found||decide (IN v s.least<0))=true then { s with count:=W (s.count+1),found:=true,least:=v }else { s with count:=W (s.count+1) }
end Go.Proofs.YtohmomanmikphaaGreatDoor.Rx
end
