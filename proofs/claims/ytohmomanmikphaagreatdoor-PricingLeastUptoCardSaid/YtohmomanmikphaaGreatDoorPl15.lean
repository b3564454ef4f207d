import Derived.Lib.ItoaMem
import Derived.Test.YtohmomanmikphaaGreatDoorPl11
import Derived.Test.YtohmomanmikphaaGreatDoorPl14
set_option linter.unusedSimpArgs false
set_option linter.unusedVariables false
set_option maxRecDepth 100000
section
namespace Go.Aw
open Go.RowKit
section
variable{P:Program}{f:FuncId}{args:List AV}{H:aH}{K:AV->aH->Prop}
def WC(P:Program)(f:FuncId)(args:List AV)(Φ:AV->Prop):Prop:=RC P f args fun x _=>Φ x
theorem PC.w{r:AV}{u:AV->Prop}(h:PC P f args r)(E:u r):WC P f args u:=fun S w vals J O M=>
 (h S w vals J O M).mono fun e w' ⟨v,x,H',S',F,I,q⟩=>⟨v,x,H',S',F,I▸E,q⟩
theorem adM{S:Sg}{w:World}{v:Value}(h:rep S w (.v (.slice none 0 0)) v):rep S w (.sl []) v:=by
 have u:v=.slice none 0 0:=by simp only[rep]at h;exact h
 subst u;simp only[rep];exact⟨none,0,0,rfl,rfl,Nat.le_refl _,Nat.zero_le _,.inl trivial⟩
theorem bA.nil0{E:List AV}(h:bA P f (.sl []::E) H K):bA P f (.v (.slice none 0 0)::E) H K:=fun S w vals J F=>h S w vals J (by
 simp only[bG]at F |-;obtain⟨u,t,e,h1,I⟩:=F;exact⟨u,t,e,adM h1,I⟩)
end
end Go.Aw
end
section
namespace Go.Proofs.YtohmomanmikphaaGreatDoor.Sq
open Go.Proofs.Tryz(prog)
open Go.Aw Go.Aw.D Go.Proofs Ty
open Go.Nu (fR)
open Go.Proofs.YtohmomanmikphaaGreatDoor.Nu (ltB geB Cs)
open Mv (cH dK NC.pc aZ)
def LG(v:Visit):Int:=if v.drop=true then 1 else 0
def or2(a b:Int):Int:=if a=0 then b else a
def nL(a b:Visit):Int:=or2 (fR a.order b.order) (fR (LG a) (LG b))
def Ut:List Visit->List Visit->Int
 | [],[]=>0
 | [],_::_=> -1
 | _::_,[]=>1
 | a::l,b::m=>or2 (nL a b) (Ut l m)
def Vh:List Int->Int
 | []=>0
 | a::l=>if a=0 then Vh l else a
theorem yI{α:Type}{l:List α}{k:Nat}{u:α}(h:l[k]?=some u):l.drop k=u::l.drop (k+1):=by
 obtain⟨E,rfl⟩:=List.getElem?_eq_some_iff.1 h;rw[Xbz E]
theorem auA(l:List Int)(hl:l.length<=1048576):PC prog 324 [.sl (l.map bJ)] (int (Vh l)):=by
 refine pcd Tryz.func324 ?_;unfold Tryz.f324;simp only[gdS];simp only[go_sem];refine⟨fun ρ H=>∃(k:Nat),k<=l.length/\ρ 3=int 0/\ρ 6=.sl (l.map bJ)/\ρ 7=int (l.length:Nat)/\ρ 8=int k/\Vh l=Vh (l.drop k),fun ρ _=>l.length-aT (ρ 8),⟨0,Xab _,by simp only[go_sem],by simp only[go_sem],by simp only[go_sem,Xaa],(by simp only[go_sem];rfl),rfl⟩,?_⟩;rintro ρ H ⟨k,hk,I,T,M,O,J⟩;simp only[go_sem,I,T,M,O];refine aA (fun E=>?_) (fun F=>?_)
 . have E:=ltB E
   obtain⟨u,hu⟩:=aN E;have b1:=inB E;rw[yI hu,Vh]at J;simp only[go_sem,I,T,M,O,aF hu,b1];refine aA (fun Z=>?_) (fun Z=>?_)
   . simp only[go_sem,I,T,M,O]
     exact cH (by rw[J,if_neg (by simpa using Z)])
   . rw[if_pos (by simpa using Z)]at J
     simp only[go_sem,I,T,M,O,aP (show k<=4611686018427387904 by omega)];exact⟨⟨k+1,E,rfl,J⟩,by simp only[aE];omega⟩
 . have F:=geB hk F
   subst F;simp only[go_sem,I,T,M,O];exact cH (by rw[J,Xca];rfl)
theorem VU(v:Visit):PC prog 323 [.agg (aL v)] (int (LG v)):=by
 refine pcd Tryz.func323 ?_;unfold Tryz.f323;simp only[gdS];simp only[go_sem];unfold LG;refine aA (fun u=>?_) (fun u=>?_)
 . simp only[go_sem,u]
   exact cH (by simp)
 . simp only[go_sem,u]
   exact cH (by simp)
theorem PM(a b:Visit):PC prog 279 [.agg (aL a),.agg (aL b)] (int (nL a b)):=by
 refine pcd Tryz.func279 ?_;unfold Tryz.f279;simp only[gdS];simp only[go_sem];refine Es (by kernel_rfl) ?_;simp only[go_sem];refine⟨_,(Cs a.order b.order).q rfl,?_⟩;simp only[go_sem];refine⟨_,(VU a).q rfl,?_⟩;simp only[go_sem];refine⟨_,(VU b).q rfl,?_⟩;simp only[go_sem];refine⟨_,(Cs (LG a) (LG b)).q rfl,?_⟩;simp only[go_sem];refine PC.use (auA [fR a.order b.order,fR (LG a) (LG b)] (by simp)) ?_;simp only[go_sem];refine cH ?_;unfold nL or2;simp only[Vh];split
 . split
   . next h=>exact h.symm
   . rfl
 . rfl
theorem abE(a b:List Visit)(ha:a.length<=1048576):PC prog 278 [.sl (a.map aL),.sl (b.map aL),.v (.func (.func 279) #[] #[])] (int (Ut a b)):=by
 have aj:aC prog 279=true:=by kernel_rfl
 refine pcd Tryz.func278 ?_;unfold Tryz.f278;simp only[gdS];simp only[go_sem];refine⟨fun ρ H=>∃(k:Nat),k<=a.length/\ρ 0=.sl (a.map aL)/\ρ 1=.sl (b.map aL)/\ρ 2=.v (.func (.func 279) #[] #[])/\ρ 11=.sl (a.map aL)/\ρ 12=int (a.length:Nat)/\ρ 13=int k/\Ut a b=Ut (a.drop k) (b.drop k)/\k<=b.length,fun ρ _=>a.length-aT (ρ 13),⟨0,Xab _,by simp only[go_sem],by simp only[go_sem],by simp only[go_sem],by simp only[go_sem],by simp only[go_sem,Xaa],(by simp only[go_sem];rfl),rfl,Xab _⟩,?_⟩;rintro ρ H ⟨k,hk,T,Z,O,F,I,E,hz,ai⟩;simp only[go_sem,T,Z,O,F,I,E];refine aA (fun ab=>?_) (fun af=>?_)
 . have ab:=ltB (by simpa using ab)
   obtain⟨u,hu⟩:=aN ab;have b1:=inB ab;rw[yI hu]at hz;simp only[go_sem,T,Z,O,F,I,E,aF hu,b1];refine aK fun i8 ag=>?_
   simp only[go_sem,T,Z,O,F,I,E];refine aJ (aB _ _ _) (by simp[dG]) ?_;generalize ac:aI (aI _ i8 _) i8 _=HGi8;have R8:HGi8 i8=some ((⟨119,2,[aL u]⟩:Row)):=by rw[<-ac,aB];try rfl
   clear ac ag;simp only[go_sem,T,Z,O,F,I,E,R8];refine aA (fun M=>?_) (fun M=>?_)
   . have ah:b.length<=k:=by simpa using M
     simp only[go_sem,T,Z,O,F,I,E];refine cH ?_;rw[hz,Xby ah];rfl
   have ae:k<b.length:=by simpa using M
   obtain⟨v,hv⟩:=aN ae;have b2:=inB ae;rw[yI hv]at hz;simp only[go_sem,T,Z,O,F,I,E,aF hv,b2];refine aK fun i9 ad=>?_
   have J:i8≠i9:=aQ R8 ad;simp only[go_sem,T,Z,O,F,I,E,R8];refine aJ (aB _ _ _) (by simp[dG]) ?_;generalize aa:aI (aI _ i9 _) i9 _=HGi9;replace R8:=(congrFun aa.symm i8).trans ((aD _ _ _ _ J).trans ((aD _ _ _ _ J).trans R8));have R9:HGi9 i9=some ((⟨119,2,[aL v]⟩:Row)):=by rw[<-aa,aB];try rfl
   clear aa ad;simp only[go_sem,T,Z,O,F,I,E,R9,R8];refine PC.use (PM u v) ?_;simp only[go_sem,T,Z,O,F,I,E];refine aA (fun M=>?_) (fun M=>?_)
   . have hc:¬nL u v=0:=by simpa using M
     simp only[go_sem,T,Z,O,F,I,E];refine cH ?_;rw[hz];show _=or2 (nL u v) _;unfold or2;rw[if_neg hc]
   . have hc:nL u v=0:=by simpa using M
     simp only[go_sem,T,Z,O,F,I,E,aP (show k<=4611686018427387904 by omega)];refine⟨⟨k+1,ab,rfl,?_,ae⟩,by simp only[aE];omega⟩;rw[hz];show or2 (nL u v) _=_;unfold or2;rw[if_pos hc]
 have af:=geB hk (by simpa using af);subst af;rw[Xca]at hz;simp only[go_sem,T,Z,O,F,I,E,Xaa];refine aA (fun M=>?_) (fun M=>?_)
 . have M:a.length<b.length:=by simpa using M
   simp only[go_sem];refine cH ?_;obtain⟨v,hv⟩:=aN M;rw[hz,yI hv];rfl
 . have M:¬a.length<b.length:=by simpa using M
   simp only[go_sem];refine cH ?_;rw[hz,Xby (by omega)];rfl
theorem aaB(a b:List Visit)(u:a.length<=1048576):PC prog 242 [.sl (a.map aL),.sl (b.map aL)] (boo (decide (Ut a b<0))):=by
 refine pcd Tryz.func242 ?_;unfold Tryz.f242;simp only[gdS];simp only[go_sem];refine PC.use (abE a b u) ?_;simp only[go_sem];exact .refl _
end Go.Proofs.YtohmomanmikphaaGreatDoor.Sq
end
section
namespace Go.Proofs.YtohmomanmikphaaGreatDoor.Sq
open Go.Proofs.Tryz(prog)
open Go.Aw Go.Aw.D Go.Proofs Ty
open Go.Proofs.YtohmomanmikphaaGreatDoor.Nu (ltB geB)
open Mv (cH dK NC.pc aZ)
def eqV(w v:Visit):Bool:=w.order == v.order&&(w.drop == v.drop&&true)
def rZ(l:List Visit)(w:Visit):Bool:= !decide (fK l w<0)
def Jn(W l:List Visit)(v:Visit):Bool:=(W.takeWhile fun w=> !eqV w v).all (rZ l)
def adB(x:Instance)(l:List Visit)(v:Visit):Bool:=x.before.all fun q=>(q.b != v.order)||(jG x.orders q.a).all (rZ l)
def tK(x:Instance)(l:List Visit)(v:Visit):Bool:=(!decide (fK l v>=0)&&Jn (jG x.orders v.order) l v)&&adB x l v
theorem Rz{α:Type}{p:α->Bool}{W:List α}{k:Nat}(h:∀u∈W.take k,p u=true):W.takeWhile p=W.take k++(W.drop k).takeWhile p:=by
 conv=>lhs;rw[<-Xcm k W]
 exact List.takeWhile_append_of_pos h
theorem Q0{W l:List Visit}{v:Visit}{k:Nat}(h:∀u∈W.take k,eqV u v=false/\rZ l u=true):Jn W l v=Jn (W.drop k) l v:=by
 unfold Jn;rw[Rz (k:=k) (fun u E=>by rw[(h u E).1];rfl),List.all_append];have:(W.take k).all (rZ l)=true:=Xao.2 fun u E=>(h u E).2
 rw[this,Xaz]
theorem abN(x:Instance)(l:List Visit)(v:Visit)(hl:l.length<=1048576)(hb:x.before.length<=1048576):PC prog 243 [.agg (aG x),.sl (l.map aL),.agg (aL v)] (boo (tK x l v)):=by
 refine pcd Tryz.func243 ?_;unfold Tryz.f243;simp only[gdS];simp only[go_sem];refine PC.use (BI l v hl) ?_;simp only[go_sem];refine aA (fun c1=>?_) (fun c1=>?_)
 . simp only[go_sem]
   refine dK ?_;unfold tK;have c1:decide (fK l v>=0)=true:=c1;rw[c1];rfl
 have c1:decide (fK l v>=0)=false:=c1;have hW:=rK x.orders v.order;simp only[go_sem];refine PC.use (qO x.orders v.order) ?_;simp only[go_sem,Xaa];have hr:tK x l v=(Jn (jG x.orders v.order) l v&&adB x l v):=by unfold tK;rw[c1];rfl
 generalize jG x.orders v.order=W at *;refine Fm (fun ap _=>ap 1=.sl (l.map aL)/\ap 3=.rp (aG x) 0/\ap 5=.rp (aL v) 0/\Jn W l v=true) ?_ fun Q hQ a0=>?_
 . rintro ρ H ⟨h1,h3,h5,az⟩
   rw[az,Xaz]at hr;simp only[go_sem,h1,h3,h5,Xaa];refine⟨fun ρ H=>∃(k:Nat),k<=x.before.length/\ρ 1=.sl (l.map aL)/\ρ 3=.rp (aG x) 0/\ρ 5=.rp (aL v) 0/\ρ 36=.sl (x.before.map cM)/\ρ 37=int (x.before.length:Nat)/\ρ 38=int k/\(∀q∈x.before.take k,((q.b != v.order)||(jG x.orders q.a).all (rZ l))=true),fun ρ _=>x.before.length-aT (ρ 38),⟨0,Xab _,by simp only[go_sem,h1,h3,h5],by simp only[go_sem,h1,h3,h5],by simp only[go_sem,h1,h3,h5],by simp only[go_sem,h1,h3,h5],by simp only[go_sem,Xaa,h1,h3,h5],(by simp only[go_sem,h1,h3,h5];rfl),by simp⟩,?_⟩;rintro ρ H ⟨k,hk,O,M,J,I,F,E,hz⟩;simp only[go_sem,O,M,J,I,F,E];refine aA (fun ac=>?_) (fun af=>?_)
   . have ac:=ltB (by simpa using ac)
     obtain⟨q,hq⟩:=aN ac;have b1:=inB ac;simp only[go_sem,O,M,J,I,F,E,aF hq,b1];refine aK fun au aq=>?_
     simp only[go_sem,O,M,J,I,F,E];refine aJ (aB _ _ _) (by simp[kX]) ?_;generalize aj:aI (aI _ au _) au _=HGi10;have ay:HGi10 au=some (⟨194,2,[cM q]⟩):=by rw[<-aj,aB];try rfl
     clear aj aq;simp only[go_sem,O,M,J,I,F,E,ay];refine⟨by decide,aA (fun T=>?_) (fun T=>?_)⟩
     . simp only[go_sem,O,M,J,I,F,E,aP (show k<=4611686018427387904 by omega)]
       exact⟨⟨k+1,ac,rfl,aZ (p:=fun q:Pair=>((q.b != v.order)||(jG x.orders q.a).all (rZ l))=true) hq (by rw[show(q.b != v.order)=true from T];rfl) hz⟩,by simp only[aE];omega⟩
     have T:(q.b != v.order)=false:=T;have hV:=rK x.orders q.a;simp only[go_sem,O,M,J,I,F,E,ay];refine⟨by decide,PC.use (qO x.orders q.a) ?_⟩;simp only[go_sem,O,M,J,I,F,E,Xaa];have av:((q.b != v.order)||(jG x.orders q.a).all (rZ l))=(jG x.orders q.a).all (rZ l):=by rw[T];rfl
     generalize aw:jG x.orders q.a=V at *;refine⟨fun ρ _=>∃m:Nat,m<=V.length/\ρ 1=.sl (l.map aL)/\ρ 3=.rp (aG x) 0/\ρ 5=.rp (aL v) 0/\ρ 36=.sl (x.before.map cM)/\ρ 37=int x.before.length/\ρ 38=int (k:Nat)/\ρ 51=.sl (V.map aL)/\ρ 52=int V.length/\ρ 53=int (m:Nat)/\∀u∈V.take m,rZ l u=true,fun ρ _=>V.length-aT (ρ 53),⟨0,Xab _,by simp only[go_sem,O,M,J,I,F,E],by simp only[go_sem,O,M,J,I,F,E],by simp only[go_sem,O,M,J,I,F,E],by simp only[go_sem,O,M,J,I,F,E],by simp only[go_sem,O,M,J,I,F,E],by simp only[go_sem,O,M,J,I,F,E],by simp only[go_sem,O,M,J,I,F,E],by simp only[go_sem,O,M,J,I,F,E],by simp only[go_sem,O,M,J,I,F,E];rfl,by simp⟩,?_⟩;clear O M J I F E h1 h3 h5;rintro ρ H ⟨m,hm,O,M,J,I,F,E,ai,ah,ag,hy⟩;simp only[go_sem,O,M,J,I,F,E,ai,ah,ag];refine aA (fun al=>?_) (fun ar=>?_)
     . have al:=ltB (by simpa using al)
       obtain⟨u,hu⟩:=aN al;have b2:=inB al;simp only[go_sem,O,M,J,I,F,E,ai,ah,ag,aF hu,b2];refine aK fun an ao=>?_
       simp only[go_sem,O,M,J,I,F,E,ai,ah,ag];refine aJ (aB _ _ _) (by simp[dG]) ?_;generalize ak:aI (aI _ an _) an _=HGi12;have a4:HGi12 an=some ((⟨119,2,[aL u]⟩:Row)):=by rw[<-ak,aB];try rfl
       clear ak ao;simp only[go_sem,O,M,J,I,F,E,ai,ah,ag,a4];refine PC.use (BI l u hl) ?_;simp only[go_sem,O,M,J,I,F,E,ai,ah,ag];refine aA (fun ae=>?_) (fun ae=>?_)
       . simp only[go_sem]
         refine dK ?_;have ad:rZ l u=false:=by unfold rZ;rw[show decide (fK l u<0)=true from ae];rfl
         rw[hr];unfold adB;exact(List.all_eq_false.2 ⟨q,Xae hq,by
           rw[aw,av];rw[Bool.not_eq_true];exact List.all_eq_false.2 ⟨u,Xae hu,by rw[ad];simp⟩⟩).symm
       . have ad:rZ l u=true:=by unfold rZ;rw[show decide (fK l u<0)=false from ae];rfl
         simp only[go_sem,O,M,J,I,F,E,ai,ah,ag,aP (show m<=4611686018427387904 by omega)];exact⟨⟨m+1,al,rfl,aZ (p:=fun u:Visit=>rZ l u=true) hu ad hy⟩,by simp only[aE];omega⟩
     have ar:=geB hm (by simpa using ar);subst ar;rw[Xag]at hy;simp only[go_sem,O,M,J,I,F,E,aP (show k<=4611686018427387904 by omega)];exact⟨⟨k+1,ac,rfl,aZ (p:=fun q:Pair=>((q.b != v.order)||(jG x.orders q.a).all (rZ l))=true) hq (by rw[aw,av];exact Xao.2 hy) hz⟩,by simp only[aE];omega⟩
   have af:=geB hk (by simpa using af);subst af;rw[Xag]at hz;simp only[go_sem];refine dK ?_;rw[hr];unfold adB;exact(Xao.2 hz).symm
 refine⟨fun ρ H=>∃(k:Nat),k<=W.length/\ρ 1=.sl (l.map aL)/\ρ 3=.rp (aG x) 0/\ρ 5=.rp (aL v) 0/\ρ 21=.sl (W.map aL)/\ρ 22=int (W.length:Nat)/\ρ 23=int k/\(∀u∈W.take k,eqV u v=false/\rZ l u=true),fun ρ _=>W.length-aT (ρ 23),⟨0,Xab _,by simp only[go_sem],by simp only[go_sem],by simp only[go_sem],by simp only[go_sem],by simp only[go_sem,Xaa],(by simp only[go_sem];rfl),by simp⟩,?_⟩;rintro ρ H ⟨k,hk,O,M,J,ab,Z,aa,hz⟩;simp only[go_sem,O,M,J,ab,Z,aa];refine aA (fun ac=>?_) (fun af=>?_)
 . have ac:=ltB (by simpa using ac)
   obtain⟨u,hu⟩:=aN ac;have b1:=inB ac;have hp:=Q0 (l:=l) (v:=v) hz;rw[yI hu]at hp;simp only[go_sem,O,M,J,ab,Z,aa,aF hu,b1];refine aK fun i8 ax=>?_
   simp only[go_sem,O,M,J,ab,Z,aa];refine aJ (aB _ _ _) (by simp[dG]) ?_;generalize am:aI (aI _ i8 _) i8 _=HGi8;have R8:HGi8 i8=some ((⟨119,2,[aL u]⟩:Row)):=by rw[<-am,aB];try rfl
   clear am ax;simp only[go_sem,O,M,J,ab,Z,aa,R8];refine aA (fun T=>?_) (fun T=>?_)
   . have T:eqV u v=true:=T
     simp only[go_sem];refine hQ _ _ ⟨by simp only[go_sem,O,M,J,ab,Z,aa],by simp only[go_sem,O,M,J,ab,Z,aa],by simp only[go_sem,O,M,J,ab,Z,aa],?_⟩;rw[hp];unfold Jn;rw[List.takeWhile_cons,T];rfl
   have T:eqV u v=false:=T;simp only[go_sem,O,M,J,ab,Z,aa,R8];refine PC.use (BI l u hl) ?_;simp only[go_sem,O,M,J,ab,Z,aa];refine aA (fun ae=>?_) (fun ae=>?_)
   . have ad:rZ l u=false:=by unfold rZ;rw[show decide (fK l u<0)=true from ae];rfl
     simp only[go_sem];refine a0 _ _ ?_;simp only[go_sem];refine dK ?_;have:Jn W l v=false:=by
       rw[hp];unfold Jn;rw[List.takeWhile_cons,T];show(u::_).all (rZ l)=false;rw[List.all_cons,ad];rfl
     rw[hr,this];rfl
   . have ad:rZ l u=true:=by unfold rZ;rw[show decide (fK l u<0)=false from ae];rfl
     simp only[go_sem,O,M,J,ab,Z,aa,aP (show k<=4611686018427387904 by omega)];exact⟨⟨k+1,ac,rfl,aZ (p:=fun u:Visit=>eqV u v=false/\rZ l u=true) hu ⟨T,ad⟩ hz⟩,by simp only[aE];omega⟩
 have af:=geB hk (by simpa using af);subst af;have hp:=Q0 (l:=l) (v:=v) hz;rw[Xca]at hp;simp only[go_sem];exact hQ _ _ ⟨by simp only[go_sem,O,M,J,ab,Z,aa],by simp only[go_sem,O,M,J,ab,Z,aa],by simp only[go_sem,O,M,J,ab,Z,aa],hp⟩
def aiA(x:Instance)(i:Nat):Bool:=match x.orders[i]? with|some o=>o.off|none=>false
def Ta(x:Instance)(set:Int)(i:Nat):Bool:=(decide ((i:Int)>62)||(rY .and .i64 (shV .shr .i64 set (i:Nat)) 1 == 0))||aiA x i
def Fs(x:Instance)(set:Int)(l:List Visit)(i:Nat):List Visit:=if Ta x set i=true then[]else(jG x.orders (i:Nat)).filter (tK x l)
def Ao(x:Instance)(set:Int)(l:List Visit)(k:Nat):List Visit:=(List.range k).flatMap (Fs x set l)
def B5(x:Instance)(set:Int)(l:List Visit):List Visit:=Ao x set l x.orders.length
theorem Di(x:Instance)(set:Int)(l:List Visit)(k:Nat):Ao x set l (k+1)=Ao x set l k++Fs x set l k:=by
 unfold Ao;rw[Xbr,List.flatMap_append];simp
theorem Qh(x:Instance)(set:Int)(l:List Visit)(i:Nat):(Fs x set l i).length<=2:=by
 unfold Fs;split
 . simp
 . exact Xaj (Xbo _ _) (rK _ _)
theorem AI(x:Instance)(set:Int)(l:List Visit):∀k,(Ao x set l k).length<=2*k
 | 0=>Xaf _
 | k+1=>by
   rw[Di,Xac];have:=AI x set l k;have:=Qh x set l k;omega
abbrev aeQ(l:List Visit):Row:=⟨119,2,l.map aL⟩
theorem Yz(l:List Visit)(v:Visit):(⟨119,2,l.map aL++[aL v]⟩:Row)=aeQ (l++[v]):=by
 show _=(⟨119,2,(l++[v]).map aL⟩:Row);rw[Xam];rfl
theorem Dn{α:Type}{p:α->Bool}{l:List α}{k:Nat}{a:α}(h:l[k]?=some a):(l.take (k+1)).filter p=(l.take k).filter p++(if p a=true then[a]else[]):=by
 rw[bP h,List.filter_append]
 congr 1
 rw[List.filter_cons];rfl
theorem aaT(x:Instance)(set:Int)(l:List Visit)(hl:l.length<=1048576)(hb:x.before.length<=1048576)(hx:x.orders.length<=100000):PC prog 190 [.agg (aG x),int set,.sl (l.map aL)] (.sl ((B5 x set l).map aL)):=by
 refine pcb (fun t=>t == 7) Tryz.func190 ?_;unfold Tryz.f190;simp only[gdS];simp only[go_sem];refine aK fun j aw=>?_
 generalize ar:aI _ j _=HGj;have R:HGj j=some (aeQ []):=by rw[<-ar,aB];try rfl
 clear ar aw;simp only[go_sem,R];refine⟨fun ρ H=>∃(k:Nat) (j:Nat),k<=x.orders.length/\ρ 1=int set/\ρ 2=.sl (l.map aL)/\ρ 3=.rp (aG x) 0/\ρ 13=.sl (x.orders.map bE)/\ρ 14=int (x.orders.length:Nat)/\ρ 15=int k/\ρ 7=.os j/\H j=some (aeQ (Ao x set l k)),fun ρ _=>x.orders.length-aT (ρ 15),⟨0,j,Xab _,by simp only[go_sem],by simp only[go_sem],by simp only[go_sem],by simp only[go_sem],by simp only[go_sem,Xaa],(by simp only[go_sem];rfl),by simp only[go_sem],R⟩,?_⟩;rintro ρ H ⟨k,j,hk,T,O,M,E,J,I,Z,R⟩;simp only[go_sem,T,O,M,E,J,I,Z];refine aA (fun ah=>?_) (fun ap=>?_)
 . have ah:=ltB (by simpa using ah)
   obtain⟨o,ho⟩:=aN ah;have b1:=inB ah;have hs:=Di x set l k;have ax:=AI x set l k;have av:aiA x k=o.off:=by unfold aiA;rw[ho]
   have au:Ta x set k=((decide ((k:Int)>62)||(rY .and .i64 (shV .shr .i64 set (k:Nat)) 1 == 0))||o.off):=by unfold Ta;rw[av]
   have hA:Fs x set l k=if Ta x set k=true then[]else(jG x.orders (k:Nat)).filter (tK x l):=rfl
   rw[hA,au]at hs;generalize Ao x set l k=L at *;simp only[go_sem,T,O,M,E,J,I,Z,aF ho,b1];refine aK fun i9 am=>?_
   have ad:j≠i9:=aQ R am;simp only[go_sem,T,O,M,E,J,I,Z,R];refine aJ (aB _ _ _) (by simp[qG]) ?_;generalize ai:aI (aI _ i9 _) i9 _=HGi9;replace R:=(congrFun ai.symm j).trans ((aD _ _ _ _ ad).trans ((aD _ _ _ _ ad).trans R));have R9:HGi9 i9=some ((⟨111,16,[bE o]⟩:Row)):=by rw[<-ai,aB];try rfl
   clear ai am;simp only[go_sem,T,O,M,E,J,I,Z,R9,R];refine⟨fun _=>by omega,?_⟩;refine aA (fun hc=>?_) (fun hc=>?_)
   . rw[if_pos hc,Xah]at hs
     simp only[go_sem,T,O,M,E,J,I,Z,aP (show k<=4611686018427387904 by omega)];refine⟨⟨k+1,j,ah,rfl,rfl,?_⟩,by simp only[aE];omega⟩;rw[hs];exact R
   rw[if_neg (by rw[hc];simp)]at hs;simp only[go_sem,T,O,M,E,J,I,Z];refine PC.use (qO x.orders (k:Nat)) ?_;simp only[go_sem,T,O,M,E,J,I,Z,Xaa];have hV:=rK x.orders (k:Nat);generalize jG x.orders (k:Nat)=V at *;refine⟨fun ρ H=>∃m j:Nat,m<=V.length/\ρ 1=int set/\ρ 2=.sl (l.map aL)/\ρ 3=.rp (aG x) 0/\ρ 13=.sl (x.orders.map bE)/\ρ 14=int x.orders.length/\ρ 15=int (k:Nat)/\ρ 36=.sl (V.map aL)/\ρ 37=int V.length/\ρ 38=int (m:Nat)/\ρ 7=.os j/\H j=some (aeQ (L++(V.take m).filter (tK x l))),fun ρ _=>V.length-aT (ρ 38),⟨0,j,Xab _,by simp only[go_sem,T,O,M,E,J,I,Z],by simp only[go_sem,T,O,M,E,J,I,Z],by simp only[go_sem,T,O,M,E,J,I,Z],by simp only[go_sem,T,O,M,E,J,I,Z],by simp only[go_sem,T,O,M,E,J,I,Z],by simp only[go_sem,T,O,M,E,J,I,Z],by simp only[go_sem,T,O,M,E,J,I,Z],by simp only[go_sem,T,O,M,E,J,I,Z],by simp only[go_sem,T,O,M,E,J,I,Z];rfl,by simp only[go_sem,T,O,M,E,J,I,Z],by simpa using R⟩,?_⟩;clear T O M E J I Z R R9;rintro ρ H ⟨m,j,hm,T,O,M,E,J,I,ae,ac,ab,Z,R⟩;simp only[go_sem,T,O,M,E,J,I,ae,ac,ab,Z];refine aA (fun ag=>?_) (fun ao=>?_)
   . have ag:=ltB (by simpa using ag)
     obtain⟨u,hu⟩:=aN ag;have b2:=inB ag;have ak:=Dn (p:=tK x l) hu;have ay:((V.take m).filter (tK x l)).length<=2:=Xaj (Xbo _ _) (by rw[Xal];omega);simp only[go_sem,T,O,M,E,J,I,ae,ac,ab,Z,aF hu,b2];generalize (V.take m).filter (tK x l)=F at *;refine aK fun al aj=>?_
     have aa:j≠al:=aQ R aj;simp only[go_sem,T,O,M,E,J,I,ae,ac,ab,Z,R];refine aJ (aB _ _ _) (by simp[dG]) ?_;generalize af:aI (aI _ al _) al _=HGi11;replace R:=(congrFun af.symm j).trans ((aD _ _ _ _ aa).trans ((aD _ _ _ _ aa).trans R));have aq:HGi11 al=some ((⟨119,2,[aL u]⟩:Row)):=by rw[<-af,aB];try rfl
     clear af aj;simp only[go_sem,T,O,M,E,J,I,ae,ac,ab,Z,aq,R];refine PC.use (abN x l u hl hb) ?_;simp only[go_sem,T,O,M,E,J,I,ae,ac,ab,Z];refine aA (fun an=>?_) (fun an=>?_)
     . rw[if_pos an]at ak
       simp only[go_sem,T,O,M,E,J,I,ae,ac,ab,Z,aq];refine aX R ⟨rfl,rfl⟩ (by simp only[go_sem]) (by simp only[Xaa,Xac,Xad,List.length_nil];omega) (fun j2 az=>?_);simp only[go_sem,T,O,M,E,J,I,ae,ac,ab,Z,aP (show m<=4611686018427387904 by omega)];refine⟨⟨m+1,j2,ag,rfl,rfl,?_⟩,by simp only[aE];omega⟩;rw[ak,<-Xai,aB];exact congrArg some (Yz _ _)
     . rw[if_neg (by rw[an];simp),Xah]at ak
       simp only[go_sem,T,O,M,E,J,I,ae,ac,ab,Z,aP (show m<=4611686018427387904 by omega)];refine⟨⟨m+1,j,ag,rfl,rfl,?_⟩,by simp only[aE];omega⟩;rw[ak];exact R
   have ao:=geB hm (by simpa using ao);subst ao;rw[Xag]at R;simp only[go_sem,T,O,M,E,J,I,Z,aP (show k<=4611686018427387904 by omega)];refine⟨⟨k+1,j,ah,rfl,rfl,?_⟩,by simp only[aE];omega⟩;rw[hs];exact R
 have ap:=geB hk (by simpa using ap);subst ap;simp only[go_sem,T,O,M,E,J,I,Z];exact .row _ _ _ R (ConvE.refl _)
end Go.Proofs.YtohmomanmikphaaGreatDoor.Sq
end
section
namespace Go.Aw
open Go.RowKit
section
variable{P:Program}{f:FuncId}{args:List AV}{H:aH}{K:AV->aH->Prop}{r:AV}
def Sup(H H':aH):Prop:=∀k row,H k=some row->H' k=some row
def J1(H:aH)(r:AV)(a:AV)(H':aH):Prop:=Sup H H'/\∃l:List Nat,(∀k,k∈l->H k=none)/\Conv (fun k=>if k∈l then H' k else none) a r
theorem bA.data(h:bA P f args H (J1 H r))(Z:K r H):bA P f args H K:=by
 intro S w vals hS ha;refine(h S w vals hS ha).mono fun e w' ⟨v,x,H',S',J,⟨O,l,hl,M⟩,E,hv,T,hn⟩=>?_
 obtain⟨h1,I,h3⟩:=E.frz l;refine⟨v,r,H,S'.froze _,J,Z,h1.drop (fun k row F=>?_),M.rep h3 hv,T.trans I,fun k _ h0=>h0⟩;have u:¬k∈l:=fun u=>by rw[hl k u]at F;cases F
 show(if k∈l then none else H' k)=some row;rw[if_neg u];exact O k row F
def LC(P:Program)(f:FuncId)(args:List AV)(H:aH)(r:AV):Prop:=∀K:AV->aH->Prop,K r H->bA P f args H K
theorem LC.use(h:LC P f args H r)(u:K r H):bA P f args H K:=h K u
theorem LC.body{fn:Func}{c:Code}(mt:Nat->Bool)(I:P.follows .mixedOrders=true)(J:P.funcs[f]?=some fn)(F:fn.body=some c)(E:Ae fn c args.length=true)
 (h:awp P (bA P) (dN P) mt c (GV P fn.results.toList (J1 H r)) (D9 args) H):LC P f args H r:=fun K u=>bA.data (bA.body mt I J F E h) u
theorem Sup.refl(H:aH):Sup H H:=fun _ _ h=>h
theorem Sup.upd{H H':aH}(h:Sup H H'){i:Nat}(E:H i=none)(a:Option Row):Sup H (aI H' i a):=fun k row u=>by
 rw[aD _ _ _ _ (fun e=>by subst e;rw[E]at u;cases u)];exact h k row u
theorem Sup.none{H H':aH}(h:Sup H H'){i:Nat}(u:H' i=none):H i=none:=by
 cases e:H i with
 | none=>rfl
 | some row=>rw[h i row e]at u;cases u
theorem Sup.eq{H A B:aH}(h:Sup H A)(e:A=B):Sup H B:=e▸h
theorem Sup.at{H H':aH}(h:Sup H H'){i:Nat}{row:Row}(u:H i=some row):H' i=some row:=h i row u
theorem Sup.ne{H H':aH}(h:Sup H H'){i j:Nat}{row:Row}(E:H i=some row)(u:H j=.none):i≠j:=fun e=>by subst e;rw[E]at u;cases u
theorem J1.flat{H H':aH}(h:Sup H H')(r:AV):J1 H r r H':=⟨h,[],by simp,.refl r⟩
theorem jY{l:List Nat}{H u:aH}{K:Env->aH->Prop}{ρ:Env}(I:∀k,k∉l->u k=H k)(h:K ρ H):mA l H K ρ u:=fun _ F h1 E=>by
 have:F=H:=funext fun k=>by
   by_cases e:k∈l
   . exact h1 k e
   . rw[E k e,I k e]
 rw[this];exact h
theorem oJ{l:List Nat}{H E:aH}{K:Env->aH->Prop}{ρ:Env}{i:Nat}{r:Option Row}(M:∀k,k∉l->E k=H k)(J:i∉l)(h:K ρ (aI H i r)):mA l H K ρ (aI E i r):=fun _ I h1 F=>by
 have:I=aI H i r:=funext fun k=>by
   by_cases e:k∈l
   . rw[h1 k e,aD _ _ _ _ (fun u=>J (by rw[<-u];exact e))]
   . rw[F k e]
     by_cases u:k=i
     . subst u;rw[aB,aB]
     . rw[aD _ _ _ _ u,aD _ _ _ _ u,M k e]
 rw[this];exact h
theorem wG{l:List Nat}{H F:aH}{K:Env->aH->Prop}{ρ:Env}{i:Nat}{a:Option Row}{b:Row}(I:∀k,k∉l->F k=H k)(O:F i=none)(h:H i=none->K ρ (aI (aI H i a) i (some b))):mA l H K ρ (aI (aI F i a) i (some b)):=fun h0 M h1 J=>by
 have E:i∉l:=fun e=>by have:=h0 i e;rw[aB]at this;cases this
 have:M=aI (aI H i a) i (some b):=funext fun k=>by
   by_cases e:k∈l
   . rw[h1 k e,aD _ _ _ _ (fun u=>E (by rw[<-u];exact e)),aD _ _ _ _ (fun u=>E (by rw[<-u];exact e))]
   . rw[J k e]
     by_cases u:k=i
     . subst u;rw[aB,aB]
     . rw[aD _ _ _ _ u,aD _ _ _ _ u,aD _ _ _ _ u,aD _ _ _ _ u,I k e]
 rw[this];exact h ((I i E).symm.trans O)
theorem Lu{S:Sg}{w:World}:∀(A B:List AV) (l:List Value),bG S w (A++B) l->bG S w A (l.take A.length)
 | [],_,l,_=>by simp only[List.length_nil,List.take_zero,bG]
 | x::A,B,l,h=>by
   simp only[List.cons_append,bG]at h |-;obtain⟨u,t,rfl,h1,E⟩:=h;exact⟨u,t.take A.length,by rw[List.length_cons,List.take_succ_cons],h1,Lu A B t E⟩
theorem IU{sz:Nat}:∀(es:List (List AV)) (i:Nat),(∀cs∈es,cs.length=sz)->i<=es.length->((es.take i).flatten).length=i*sz
 | _,0,_,_=>by simp
 | [],i+1,_,h=>by simp at h
 | c::es,i+1,hl,h=>by
   rw[List.take_succ_cons,List.flatten_cons,List.length_append,hl c (by simp),IU es i (fun cs u=>hl cs (by simp[u])) (by simpa using h),Nat.add_mul,Nat.one_mul,Nat.add_comm]
theorem St.cut{S:Sg}{w:World}{H:aH}(M:St S w H){k i c n:Nat}{r:Row}{ad:Option Addr}(hk:H k=some r)(hl:S.loc k=.slice ad n c)(hi:i<=r.es.length):
   St (S.addRow (.slice ad i c) r.sz) w (aI (aI H k none) S.N (some ⟨r.e,r.sz,r.es.take i⟩))/\Grow S w (S.addRow (.slice ad i c) r.sz) w:=by
 have hR:=M.rows k r hk;obtain⟨xs,ho,hr,h1⟩:=hR.sl hl;have ab:=S.le_addRow (.slice ad i c) r.sz;have F:(S.addRow (.slice ad i c) r.sz).loc S.N=.slice ad i c:=by simp[Sg.addRow]
 have J:∀k,k<S.N->(S.addRow (.slice ad i c) r.sz).loc k=S.loc k:=ab.loc;have al:k≠S.N:=Nat.ne_of_lt hR.lt;have I:∀q row,q≠S.N->aI (aI H k none) S.N (some ⟨r.e,r.sz,r.es.take i⟩) q=some row->H q=some row/\q≠k:=fun q row Z h=>by
   rw[aD _ _ _ _ Z]at h;by_cases e:q=k
   . subst e;rw[aB]at h;cases h
   . rw[aD _ _ _ _ e]at h;exact⟨h,e⟩
 have aa:blk (.slice ad i c)=blk (S.loc k):=by rw[hl];cases ad <;> rfl
 refine⟨⟨M.ro_fz,M.fz_lt,?_,?_,?_,M.tabs.keep ab (fG.refl S w)⟩,⟨ab,fun _ h=>h,rfl,rfl,rfl,Nat.le_refl _,fun _ _=>rfl,fun _ h=>.inl h⟩⟩
 . intro q row Z
   by_cases e0:q=S.N
   . subst e0
     rw[aB]at Z;injection Z with Z;subst Z;have ai:=IU r.es i hR.len hi;have ac:(r.es.take i).length=i:=by rw[List.length_take];omega
     have an:xs.length=r.es.length*r.sz:=ho.1;have af:i*r.sz<=r.es.length*r.sz:=Nat.mul_le_mul_right _ hi;refine⟨Nat.lt_succ_self _,by simp[Sg.addRow],hR.pos,fun cs ae=>hR.len cs (List.mem_of_mem_take ae),.inl ⟨xs.take (i*r.sz),⟨?_,?_⟩,?_,fun u hu=>h1 u (List.mem_of_mem_take hu)⟩⟩
     . show(xs.take (i*r.sz)).length=(r.es.take i).length*r.sz
       rw[List.length_take,ac];omega
     . rw[F]
       simp only[ac];rcases ho.2 with⟨hv,hn⟩|⟨g,cap,cur,hv,hb,T,am,ak,ae,aj⟩
       . rw[hl]at hv
         injection hv with e1 e2 e3;refine .inl ⟨?_,by omega⟩;rw[e1,e3,show i=0 by omega]
       . rw[hl]at hv
         injection hv with e1 e2 e3;refine .inr ⟨g,cap,cur,by rw[e1,e3],hb,T,by omega,ak,ae,?_⟩;rw[<-aj,List.take_take,Nat.min_eq_left af]
     . refine dR ab (fG.refl S w) _ _ ?_
       have:r.es.flatten=(r.es.take i).flatten++(r.es.drop i).flatten:=by rw[<-List.flatten_append,List.take_append_drop]
       rw[this]at hr;have:=Lu _ _ _ hr;rw[ai]at this;exact this
   . obtain⟨h2,_⟩:=I q row e0 Z
     exact(M.rows q row h2).keep ab (fG.refl S w) fun _ _=>rfl
 . intro q row Z g T
   by_cases e0:q=S.N
   . subst e0
     rw[F,aa]at T;exact M.free k r hk g T
   . obtain⟨h2,_⟩:=I q row e0 Z
     rw[J q (M.rows q row h2).lt]at T;exact M.free q row h2 g T
 . intro q q' row E Z ag ah g T O
   by_cases e0:q=S.N
   . subst e0
     rw[F,aa]at T;obtain⟨h2,h3⟩:=I q' E (Ne.symm ah) ag;rw[J q' (M.rows q' E h2).lt]at O;exact M.disj k q' r E hk h2 (Ne.symm h3) g T O
   . obtain⟨h2,h3⟩:=I q row e0 Z
     rw[J q (M.rows q row h2).lt]at T;by_cases e1:q'=S.N
     . subst e1
       rw[F,aa]at O;exact M.disj q k row r h2 hk h3 g T O
     . obtain⟨h4,h5⟩:=I q' E e1 ag
       rw[J q' (M.rows q' E h4).lt]at O;exact M.disj q q' row E h2 h4 ah g T O
end
end Go.Aw
end
section
namespace Go.Proofs.YtohmomanmikphaaGreatDoor.Sq
open Go.Aw Go.Aw.D Go.Proofs Ty
open Go.Proofs.YtohmomanmikphaaGreatDoor.Nu (ltB geB)
open Mv (cH dK NC.pc aZ)
def Gs(L:List Nat):Nat:=(L.map fun a=>2^62-a).sum
theorem NB:∀{L:List Nat} {i u v:Nat},L[i]?=some u->u<v->v<=2^62->Gs (L.set i v)<Gs L
 | [],i,u,v,h,_,_=>by simp at h
 | a::L,0,u,v,h,h1,h2=>by
   have:a=u:=by simpa using h
   subst this;show(2^62-v)+(L.map fun a=>2^62-a).sum<(2^62-a)+(L.map fun a=>2^62-a).sum;omega
 | a::L,i+1,u,v,h,h1,h2=>by
   have:=NB (L:=L) (i:=i) (by simpa using h) h1 h2;show(2^62-a)+Gs (L.set i v)<(2^62-a)+Gs L;omega
abbrev CF(L:List Nat):Row:=⟨3,1,L.map fun n=>[int (n:Nat)]⟩
def awX:List AV->Nat
 | [.v (.int _ a)]=>2^62-a.toNat
 | _=>0
def adP(x b:AV)(H:aH):Nat:=match x,b with
 | .os j,.v (.bool true)=>match H j with
   | some r=>(r.es.map awX).sum+1
   | none=>0
 | _,_=>0
theorem VT{j:Nat}{H:aH}{L:List Nat}(h:H j=some (CF L)):adP (.os j) (boo true) H=Gs L+1:=by
 unfold adP;simp only[h,List.map_map];rfl
theorem agM{j:Nat}{H:aH}:adP (.os j) (boo false) H=0:=rfl
theorem YN{s:Int}{a:Int}(h:a∈gE s):∃k:Nat,a=(k:Nat):=by
 unfold gE rI at h;obtain⟨k,_,rfl⟩:=List.mem_map.1 h;exact⟨k,rfl⟩
theorem W9(s:Int):(gE s).length<=63:=by
 unfold gE rI;rw[Xaa];exact Xaj (Xbo _ _) (by rw[Xau];exact Xaf _)
end Go.Proofs.YtohmomanmikphaaGreatDoor.Sq
end
section
namespace Go.Proofs.YtohmomanmikphaaGreatDoor.Sq
open Go.Aw Go.Aw.D Go.Proofs Ty
structure Lab where
 ready:Int
 since:Int
 sheet:Sheet
def Qj:Tm:=⟨0,0,0,false⟩
def eP(s:Sheet)(k:Nat)(b:Bool)(d:Int):Sheet:=match k with
 | 0=>{ s with rest:=b,depart:=d }
 | j+1=>{ s with times:=s.times.set j ⟨(s.times.getD j Qj).arrive,(s.times.getD j Qj).begin_,d,b⟩ }
def BD(t:VType)(l:Lab)(b:Bool):Int:=if b=true then W (l.ready+t.rest)else l.ready
def Cy(l:Lab)(b:Bool):Int:=if b=true then 0 else l.since
def goL(x:Instance)(t:VType)(p q:Int)(l:Lab)(b:Bool):Int×Int×Int:=jN x.net t.profile p q (BD t l b)
def T2(x:Instance)(t:VType)(p q:Int)(l:Lab)(b:Bool):Int:=W (W (Cy l b+(goL x t p q l b).1)-BD t l b)
def Pd(x:Instance)(t:VType)(p:Int)(s:Stop)(k:Nat)(l:Lab)(b:Bool):Sheet:=
 { eP l.sheet k b (BD t l b)with
   times:=(eP l.sheet k b (BD t l b)).times++[⟨(goL x t p s.place l b).1,kF (goL x t p s.place l b).1 s.start,0,false⟩]
   miles:=W (l.sheet.miles+(goL x t p s.place l b).2.1) }
def I5(x:Instance)(t:VType)(p:Int)(s:Stop)(k:Nat)(l:Lab)(b:Bool):Except Int Lab:=
 if((goL x t p s.place l b).2.2 != 0)=true then .error 12
 else if kF (goL x t p s.place l b).1 s.start>s.close then .error 14
 else if T2 x t p s.place l b>t.drive then .error 16
 else .ok ⟨W (kF (goL x t p s.place l b).1 s.start+s.service),T2 x t p s.place l b,Pd x t p s k l b⟩
def Yr(x:Instance)(t:VType)(p:Int)(k:Nat)(l:Lab)(b:Bool):Sheet:=
 { eP l.sheet k b (BD t l b)with
   end_:=(goL x t p t.dst l b).1
   miles:=W (l.sheet.miles+(goL x t p t.dst l b).2.1) }
def MR(x:Instance)(t:VType)(p:Int)(k:Nat)(l:Lab)(b:Bool):Except Int Lab:=
 if((goL x t p t.dst l b).2.2 != 0)=true then .error 12
 else if(goL x t p t.dst l b).1>t.close then .error 15
 else if T2 x t p t.dst l b>t.drive then .error 16
 else .ok ⟨(goL x t p t.dst l b).1,T2 x t p t.dst l b,Yr x t p k l b⟩
def GG(t:VType)(r:Route):Lab:=⟨kF t.start r.start,0,cP⟩
theorem qI(s:Sheet)(k:Nat)(b:Bool)(d:Int):(eP s k b d).miles=s.miles/\(eP s k b d).end_=s.end_/\(eP s k b d).times.length=s.times.length:=by
 cases k <;> simp[eP]
structure GoB(x:Instance)(t:VType):Prop where
 arrive:∀p q d,0<=d/\d<=12288->(jN x.net t.profile p q d).2.2=0->0<=(jN x.net t.profile p q d).1
 rest:0<=t.rest/\t.rest<=4096
 close:t.close<=4096
 drive:t.drive<=4096
structure StopB(s:Stop):Prop where
 start:0<=s.start
 close:s.close<=4096
 service:0<=s.service/\s.service<=4096
structure LabB(l:Lab)(k:Nat):Prop where
 ready:0<=l.ready/\l.ready<=8192
 since: -(12288*(k:Int))<=l.since/\l.since<=4096
def kK(fixed:List Bool)(k:Nat):List Bool:=if k<fixed.length then[fixed.getD k false]else[false,true]
def Ar(m l:Lab):Bool:=m.ready == l.ready&&decide (m.since<=l.since)
def GJ(out:List Lab)(e:Except Int Lab):List Lab:=match e with
 | .error _=>out
 | .ok l=>if out.any (Ar · l)=true then out else out++[l]
structure RouteB(x:Instance)(t:VType)(r:Route):Prop where
 go:GoB x t
 stop:∀v∈r.visits,StopB (iZ x v).1
 first:LabB (GG t r) 0
 short:r.visits.length<=1048575
theorem P3{r:Route}(u:r.rests.length<=r.visits.length+1):(Ch r).length=r.visits.length+1:=by unfold Ch;simp;omega
theorem UB{x:Instance}{t:VType}{p:Int}{s:Stop}{k:Nat}{l:Lab}{b:Bool}{e:Int}(h:I5 x t p s k l b=.error e):e≠0:=by
 unfold I5 at h
 repeat' split at h
 all_goals first|(injection h with h;omega)|cases h
theorem UL{x:Instance}{t:VType}{p:Int}{k:Nat}{l:Lab}{b:Bool}{e:Int}(h:MR x t p k l b=.error e):e≠0:=by
 unfold MR at h
 repeat' split at h
 all_goals first|(injection h with h;omega)|cases h
def MZ(e:Except Int Lab):Int:=match e with| .error e=>e| .ok _=>0
end Go.Proofs.YtohmomanmikphaaGreatDoor.Sq
end
section
namespace Go.Proofs.YtohmomanmikphaaGreatDoor.Rx
open Go.Aw Go.Aw.D Go.Proofs Ty Go.Nu
open Sq (W jN uD wY AS kA jG fH dT NetOk)
structure Clk where
 ready:Int
 since:Int
structure Part where
 place:Int
 memory:Nat
 board:Nat
 visits:Nat
 load:List Int
 clocks:List Clk
 value:ByteArray
structure Wk where
 x:Instance
 kind:Nat
 t:VType
 near:List Int
 dual:Option (List ByteArray)
 most:Nat
section
variable(w:Wk)
end
def JM(c d:Clk):Bool:=c.ready == d.ready&&decide (c.since<=d.since)
def T3(n:Network)(t:VType)(place goal:Int)(s:List Clk×Int)(c:Clk):List Clk×Int:=
 if((jN n t.profile place goal c.ready).2.2 == 0&&decide (W (W (c.since+(jN n t.profile place goal c.ready).1)-c.ready)<=t.drive))=true
 then(s.1++[⟨(jN n t.profile place goal c.ready).1,W (W (c.since+(jN n t.profile place goal c.ready).1)-c.ready)⟩],(jN n t.profile place goal c.ready).2.1)else s
def YW(t:VType)(c:Clk):Clk:=⟨W (c.ready+t.rest),0⟩
def U4(n:Network)(t:VType)(place goal:Int)(s:List Clk×Int)(c:Clk):List Clk×Int:=T3 n t place goal (T3 n t place goal s c) (YW t c)
def FS(n:Network)(t:VType)(place goal:Int)(l:List Clk):List Clk×Int:=l.foldl (U4 n t place goal) ([],0)
def lH(s:Stop)(a:Int):Int×Int:=if kF a s.start>s.close then(0,14)else(W (kF a s.start+s.service),0)
def abH(s:Stop)(out:List Clk)(c:Clk):List Clk:=
 if((lH s c.ready).2 != 0)=true then out
 else if(out.any fun d=>JM d ⟨(lH s c.ready).1,c.since⟩)=true then out
 else(out.filter fun d=> !JM ⟨(lH s c.ready).1,c.since⟩ d)++[⟨(lH s c.ready).1,c.since⟩]
def En(s:Stop)(l:List Clk):List Clk:=l.foldl (abH s) []
def ajR(near:List Int)(m o:Nat):Nat:=(m &&& (near.getD o 0).toNat) ||| 2^o
def afW(a:Int)(kind:Nat):Int:=if(a != -1&&a != (kind:Int))=true then 1 else 0
def WY(a:ByteArray)(n:Int):ByteArray:=(rO a (zed n)).1
def fX(x:Instance)(o:Nat):Order:=x.orders.getD o ⟨ByteArray.empty,[],⟨0,0,0,0⟩,⟨0,0,0,0⟩,0,0,0,0,0,false⟩
def afR(a:ByteArray)(o:Nat):Option (List ByteArray)->ByteArray
 | none=>a
 | some l=>(zT a (l.getD o ByteArray.empty)).1
def mN(w:Wk)(p:Part)(o:Nat):Part×Bool:=
 if(dT (p.memory:Nat) (o:Nat)||dT (p.board:Nat) (o:Nat))=true then(p,false)
 else({ p with memory:=ajR w.near p.memory o,value:=afR (WY p.value ((afW (fX w.x o).now w.kind*16+afW (fX w.x o).last w.kind)*65536)) o w.dual },true)
def YJ(b o:Nat):Nat:=b ^^^ (b &&& 2^o)
def YS(o:Order):Bool:=decide (o.pick.place>=0)&&decide (o.drop.place>=0)
def qC(w:Wk)(p:Part)(o:Nat)(drop:Bool):Part×Bool:=
 if drop=false then
   ({ p with load:=wY p.load (fX w.x o).load,board:=if YS (fX w.x o)=true then p.board ||| 2^o else p.board },kA (wY p.load (fX w.x o).load) w.t.cap)
 else if YS (fX w.x o)=true then
   if dT (p.board:Nat) (o:Nat)=true then({ p with load:=AS p.load (fX w.x o).load,board:=YJ p.board o },kA (AS p.load (fX w.x o).load) w.t.cap)else(p,false)
 else(p,kA p.load w.t.cap)
def goP(w:Wk)(p:Part)(s:Stop):Part×Bool:=
 let d:=FS w.x.net w.t p.place s.place p.clocks
 ({ p with clocks:=En s d.1,place:=s.place,visits:=p.visits+1,value:=WY p.value (W (W (w.t.perMile*d.2)*16777216)) },decide ((En s d.1).length>0))
def Bh(w:Wk)(p:Part)(v:Visit):Part×Bool:=
 if(decide ((p.visits:Int)>=(w.most:Int))||(fX w.x v.order.toNat).off|| !uD w.t.skills (fX w.x v.order.toNat).skills)=true then(p,false)
 else
   let s:=if(!v.drop||decide ((fX w.x v.order.toNat).pick.place<0))=true then mN w p v.order.toNat else(p,true)
   if s.2=true then
     let l:=qC w s.1 v.order.toNat v.drop
     if l.2=true then(if((fH w.x v).2 != 0)=true then(l.1,false)else goP w l.1 (fH w.x v).1)else(l.1,false)
   else(s.1,false)
def aoK(close:Int)(out:Int)(c:Clk):Int:=if(decide (c.ready<=close)&&(decide (out<0)||decide (c.ready<out)))=true then c.ready else out
def amR(w:Wk)(p:Part):Int×Int×Bool:=
 if((p.visits:Int) == 0||(p.board:Int) != 0)=true then(0,0,false)
 else
   let d:=FS w.x.net w.t p.place w.t.dst p.clocks
   (d.1.foldl (aoK w.t.close) (-1),d.2,decide (d.1.foldl (aoK w.t.close) (-1)>=0))
def V4(w:Wk)(e:Int):Int:=W (e-w.t.start)
def auS(w:Wk)(e miles:Int):Int:=W (W (w.t.fixed+W (w.t.perMile*miles))+W (w.t.perTick*V4 w e))
def Qz(w:Wk)(p:Part)(e miles:Int):ByteArray:=
 WY p.value (W (W (auS w e miles*16777216)+W (W (Int.tdiv (V4 w e) 64)*W (Int.tdiv (V4 w e) 64))))
def aiZ(p q:Part):Bool:=
 if(p.place != q.place||(p.board:Int) != (q.board:Int)|| !decide (p.memory &&& q.memory=p.memory)||decide ((p.visits:Int)>(q.visits:Int))|| !kA p.load q.load||decide (zU p.value q.value>0))=true then false
 else q.clocks.all fun d=>p.clocks.any fun c=>JM c d
structure Srch where
 known:List Part
 more:List Part
 best:ByteArray
 found:Bool
def Vf(w:Wk)(s:Srch)(q:Part):Srch:=
 let e:=amR w q
 let r:=Qz w q e.1 e.2.1
 if(e.2.2&&(!s.found||decide (zU r s.best<0)))=true then { known:=s.known++[q],more:=s.more++[q],best:=r,found:=true }else { s with known:=s.known++[q],more:=s.more++[q] }
def arE(w:Wk)(p:Part)(s:Srch)(v:Visit):Srch:=
 let q:=Bh w p v
 if(!q.2||s.known.any fun k=>aiZ k q.1)=true then s else Vf w s q.1
end Go.Proofs.YtohmomanmikphaaGreatDoor.Rx
end
section
namespace Go.Proofs.YtohmomanmikphaaGreatDoor.Rx
open Go.Aw Go.Aw.D Go.Proofs Ty Go.Nu
open Sq (W jN uD wY AS kA jG fH dT NetOk)
open Nu (xD yG Ca ltB geB)
structure NearB(near:List Int):Prop where
 len:near.length<=62
 num:∀n∈near,0<=n/\n<4611686018427387904
def drvs(n:Network)(t:VType)(place goal:Int)(s:List Clk×Int)(c:Clk):Nat->(List Clk×Int)×Clk
 | 0=>(s,c)
 | 1=>(T3 n t place goal s c,c)
 | _=>(U4 n t place goal s c,YW t c)
theorem Gd(n:Network)(t:VType)(place u:Int)(s:List Clk×Int)(c:Clk):(T3 n t place u s c).1.length<=s.1.length+1:=by
 unfold T3;split
 . simp
 . omega
theorem Vm(n:Network)(t:VType)(place u:Int)(s:List Clk×Int)(c:Clk):∀k,(drvs n t place u s c k).1.1.length<=s.1.length+k
 | 0=>Xaf _
 | 1=>Gd n t place u s c
 | k+2=>by
   have h1:=Gd n t place u s c;have E:=Gd n t place u (T3 n t place u s c) (YW t c);show(U4 n t place u s c).1.length<=_;unfold U4;omega
theorem RD(n:Network)(t:VType)(place u:Int)(l:List Clk):∀k,((l.take k).foldl (U4 n t place u) ([],0)).1.length<=2*k
 | 0=>by simp
 | k+1=>by
   have h:=RD n t place u l k;by_cases F:k<l.length
   . obtain⟨c,E⟩:=aN F
     rw[Sq.iJ E];have:=Vm n t place u ((l.take k).foldl (U4 n t place u) ([],0)) c 2;exact Xaj this (by omega)
   . rw[Xan (by omega)]
     rw[Xan (by omega)]at h;omega
end Go.Proofs.YtohmomanmikphaaGreatDoor.Rx
end
section
namespace Go.Proofs.YtohmomanmikphaaGreatDoor.Rx
open Go.Proofs.Tryz(prog)
open Go.Aw Go.Aw.D Go.Proofs Ty Go.Nu
open Sq (W jN uD wY AS kA jG fH dT NetOk nA nQ lM pP)
open Mv (cH dK NC.pc aZ)
open Nu (xD yG Ca ltB geB)
theorem bA.cutO{P:Program}{f:FuncId}{args:List AV}{H:aH}{K:AV->aH->Prop}
   (h:bA P f args H fun a H'=>K a H'\/∃j i row,a=.oz j 0 i/\H' j=some row/\i<=row.es.length/\∀u,H' u=none->K (.os u) (aI (aI H' j none) u (some ⟨row.e,row.sz,row.es.take i⟩))):bA P f args H K:=by
 intro S w vals hS ha;refine(h S w vals hS ha).mono fun e w' ⟨v,x,H',S',he,M,E,hv,Z,hn⟩=>?_
 rcases M with M|M
 . exact⟨v,x,H',S',he,M,E,hv,Z,hn⟩
 have h2:∀K2:AV->aH->Prop,(∃j i row,x=.oz j 0 i/\H' j=some row/\i<=row.es.length/\∀u,H' u=none->K2 (.os u) (aI (aI H' j none) u (some ⟨row.e,row.sz,row.es.take i⟩)))->∃v x H' S',e=.returned v/\K2 x H'/\St S' w' H'/\rep S' w' x v/\Grow S w S' w'/\∀k,k<S.N->H k=none->H' k=none:=by
   rintro K2 ⟨j,i,row,rfl,hj,hi,hk⟩;simp only[rep]at hv;obtain⟨ab,ad,n,c,T,cc,I,J,_,aa,_,h0⟩:=hv;obtain⟨rfl,rfl⟩:=h0 trivial;obtain⟨c1,c2⟩:=E.cut hj I hi;have F:H' S'.N=none:=by
     cases e:H' S'.N with
     | none=>rfl
     | some row2=>exact absurd (E.rows _ _ e).lt (Nat.lt_irrefl _)
   refine⟨v,.os S'.N,_,_,he,hk S'.N F,c1,?_,Z.trans c2,fun q hq h0=>?_⟩
   . simp only[rep]
     refine⟨Nat.lt_succ_self _,?_,T,i-0,cc,J⟩;rw[J];simp[Sg.addRow]
   . have O:q≠S'.N:=Nat.ne_of_lt (Xbw hq Z.le.N)
     rw[aD _ _ _ _ O];by_cases e:q=j
     . subst e;rw[aB]
     . rw[aD _ _ _ _ e];exact hn q hq h0
 exact h2 K M
theorem C3{α:Type}{p:α->Bool}:∀{l:List α} {n:Int},0<=n->nA p l n= -1->∀y∈l,p y=false
 | [],_,_,_,y,u=>by simp at u
 | a::r,n,hn,h,y,u=>by
   simp only[nA]at h;split at h
   . omega
   . next E=>
     rcases Xbn.1 u with rfl|u
     . simpa using E
     . exact C3 (by omega) h y u
theorem Db{α:Type}{p:α->Bool}:∀{l:List α} {n:Int},nA p l n≠ -1->∃(i:Nat) (y:α),nA p l n=n+i/\l[i]?=some y/\p y=true/\∀u∈l.take i,p u=false
 | [],_,h=>absurd rfl h
 | a::r,n,h=>by
   simp only[nA]at h |-;by_cases E:p a=true
   . exact⟨0,a,by rw[if_pos E];omega,rfl,E,by simp⟩
   . rw[if_neg E]at h |-
     obtain⟨i,y,h1,I,J,M⟩:=Db h;refine⟨i+1,y,by omega,I,J,fun u F=>?_⟩;rw[List.take_succ_cons]at F;rcases Xbn.1 F with rfl|F
     . simpa using E
     . exact M u F
theorem Ah{α:Type}(l:List α){m:Nat}{v:α}(h:m<l.length):(l.set m v).take (m+1)=l.take m++[v]:=by
 have u:(l.set m v)[m]?=some v:=by simp[h]
 rw[List.take_add_one,u,List.take_set_of_le (Xaf m)];rfl
theorem Xu(s:Stop)(a:Int):PC prog 245 [.agg (eI s),int a] (.tup [int (lH s a).1,int (lH s a).2]):=by
 refine pcd Tryz.func245 ?_;unfold Tryz.f245;simp only[gdS];simp only[go_sem];refine PC.use (Sq.Sa s a) ?_;unfold lH;by_cases h:kF a s.start>s.close
 . simp only[if_pos h]
   simp only[go_sem];refine aA (fun u=>?_) (fun u=>?_)
   . simp only[go_sem]
     exact .refl _
   . simp at u
 . simp only[if_neg h]
   simp only[go_sem];refine aA (fun u=>?_) (fun u=>?_)
   . simp at u
   . simp only[go_sem]
     exact .refl _
theorem acM(s:Stop)(out:List Clk)(c:Clk):(abH s out c).length<=out.length+1:=by
 unfold abH;split
 . omega
 . split
   . omega
   . have:=Xbo (fun d=> !JM ⟨(lH s c.ready).1,c.since⟩ d) out
     rw[Xac,List.length_singleton];omega
theorem MX(s:Stop)(l:List Clk):∀k,((l.take k).foldl (abH s) []).length<=k
 | 0=>by simp
 | k+1=>by
   have h:=MX s l k;by_cases u:k<l.length
   . obtain⟨c,E⟩:=aN u
     rw[Sq.iJ E];exact Xaj (acM _ _ _) (by omega)
   . rw[Xan (by omega)]
     rw[Xan (by omega)]at h;omega
end Go.Proofs.YtohmomanmikphaaGreatDoor.Rx
end
section
namespace Go.Proofs.YtohmomanmikphaaGreatDoor.Rx
open Go.Aw Go.Aw.D Go.Proofs Ty Go.Nu
open Sq (W jN uD wY AS kA jG fH dT NetOk)
open Nu (xD yG Ca ltB geB)
structure WkOk(w:Wk):Prop where
 net:NetOk w.x.net
 near:NearB w.near
 len:w.near.length=w.x.orders.length
 kind:w.kind<4611686018427387904
 dual:∀l,w.dual=some l->l.length=w.x.orders.length/\∀a∈l,a.size<=1048576
structure PartOk(p:Part):Prop where
 mem:p.memory<2^62
 board:p.board<2^62
 value:p.value.size<=1048576
theorem S5(x y:Rat):(CY x y).1.size<=8194:=by
 by_cases h:(CY x y).2=0
 . obtain⟨e,F⟩:=Au h
   rw[e];exact Cj F
 . have u : CY x y = (emp, 4) := by
     unfold CY at h |-;split
     . rfl
     . next E=>rw[if_neg E]at h;exact absurd rfl h
   rw[u];exact Xab _
theorem acL(a b:ByteArray):(rO a b).1.size<=8194:=by
 unfold rO;split
 . exact S5 _ _
 . exact Xab _
theorem ZV(a b:ByteArray):(zT a b).1.size<=8194:=by
 unfold zT;split
 . exact S5 _ _
 . exact Xab _
theorem Cx(a:ByteArray)(n:Int):(WY a n).size<=8194:=by
 unfold WY;exact acL _ _
theorem adT(a b:List Int)(h:a.length=b.length):(wY a b).length=a.length/\(AS a b).length=a.length:=by
 constructor
 . show(List.zipWith _ a b).length=_
   rw[List.length_zipWith];omega
 . show(List.zipWith _ a b).length=_
   rw[List.length_zipWith];omega
theorem XY(n:Int): -9223372036854775808<=IntKind.i64.wrap n/\IntKind.i64.wrap n<=9223372036854775807:=by
 have e:IntKind.i64.wrap n=Go.RowKit.wrap64 n:=IntWalk.i64_left n;rw[e];unfold Go.RowKit.wrap64;omega
theorem Z7{near:List Int}{m o:Nat}(u:m<2^62)(E:o<=61):ajR near m o<2^62:=by
 unfold ajR;exact Xcf (Xcr Nat.and_le_left u) (Xci (by decide) (by omega))
theorem O5(a:ByteArray)(o:Nat)(d:Option (List ByteArray))(h:a.size<=1048576):(afR a o d).size<=1048576:=by
 cases d with
 | none=>exact h
 | some l=>exact Xaj (ZV _ _) (by decide)
theorem TR{w:Wk}{p:Part}{o:Nat}(h:PartOk p)(u:o<=61):PartOk (mN w p o).1/\(mN w p o).1.load=p.load/\(mN w p o).1.clocks=p.clocks/\(mN w p o).1.visits=p.visits/\(mN w p o).1.place=p.place:=by
 unfold mN;split
 . exact⟨h,rfl,rfl,rfl,rfl⟩
 . exact⟨⟨Z7 h.mem u,h.board,O5 _ _ _ (Xaj (Cx _ _) (by decide))⟩,rfl,rfl,rfl,rfl⟩
theorem OV{w:Wk}{p:Part}{o:Nat}{d:Bool}(h:PartOk p)(F:o<=61):PartOk (qC w p o d).1/\(qC w p o d).1.clocks=p.clocks/\(qC w p o d).1.visits=p.visits/\(qC w p o d).1.place=p.place:=by
 have E:p.board ||| 2^o<2^62:=Xcf h.board (Xci (by decide) (by omega));have u:YJ p.board o<2^62:=Nat.xor_lt_two_pow h.board (Xcr Nat.and_le_left h.board);unfold qC;split
 . refine⟨⟨h.mem,?_,h.value⟩,rfl,rfl,rfl⟩
   show(if YS (fX w.x o)=true then p.board ||| 2^o else p.board)<2^62;split
   . exact E
   . exact h.board
 . split
   . split
     . exact⟨⟨h.mem,u,h.value⟩,rfl,rfl,rfl⟩
     . exact⟨h,rfl,rfl,rfl⟩
   . exact⟨h,rfl,rfl,rfl⟩
abbrev yZ(s:Stop):Row:=⟨109,4,[eI s]⟩
end Go.Proofs.YtohmomanmikphaaGreatDoor.Rx
end
section
namespace Go.Proofs.YtohmomanmikphaaGreatDoor.Rx
open Go.Aw Go.Aw.D Go.Proofs Ty Go.Nu
open Sq (W jN uD wY AS kA jG fH dT NetOk)
open Nu (xD yG Ca ltB geB wM)
open Mv (cH dK NC.pc aZ)
def aiE(x:Instance)(k:Nat):VType:=x.types.getD k ⟨ByteArray.empty,0,0,0,[],0,0,0,0,0,0,0,0,0⟩
structure PInv(D:Nat)(p:Part):Prop where
 ok:PartOk p
 load:p.load.length=D
 clk:p.clocks.length<=2^p.visits
structure WkB(D:Nat)(w:Wk):Prop where
 ok:WkOk w
 dim:∀o,o<w.x.orders.length->(fX w.x o).load.length=D
 D:D<=1048576
 n:w.x.orders.length<=62
 most:w.most<=16
structure VisOk(x:Instance)(v:Visit):Prop where
 ex:∃o:Nat,v.order=(o:Nat)/\o<x.orders.length
theorem M6{D:Nat}{w:Wk}{p:Part}{o:Nat}{d:Bool}(u:p.load.length=D)(E:(fX w.x o).load.length=D):(qC w p o d).1.load.length=D:=by
 have F:=adT p.load (fX w.x o).load (by omega);unfold qC;split
 . show(wY p.load (fX w.x o).load).length=D;omega
 . split
   . split
     . show(AS p.load (fX w.x o).load).length=D;omega
     . exact u
   . exact u
theorem PE(s:Stop)(l:List Clk):(En s l).length<=l.length:=by
 have:=MX s l l.length
 rwa [Xag]at this
theorem Vc(n:Network)(t:VType)(a b:Int)(l:List Clk):(FS n t a b l).1.length<=2*l.length:=by
 have:=RD n t a b l l.length
 rwa [Xag]at this
theorem Ti{D:Nat}{w:Wk}{p:Part}{v:Visit}(hw:WkB D w)(h:PInv D p)(hv:VisOk w.x v)(u:(Bh w p v).2=true):PInv D (Bh w p v).1/\(Bh w p v).1.visits=p.visits+1/\p.visits<w.most:=by
 obtain⟨o,Z,ho⟩:=hv.ex;have O:v.order.toNat=o:=by rw[Z];rfl
 have E:o<=61:=by have:=hw.n;omega
 unfold Bh at u |-;rw[O]at u |-;by_cases h1:(decide ((p.visits:Int)>=(w.most:Int))||(fX w.x o).off|| !uD w.t.skills (fX w.x o).skills)=true
 . rw[if_pos h1]at u;cases u
 rw[if_neg h1]at u |-;have T:p.visits<w.most:=by
   simp only[Xbt,decide_eq_true_eq,not_or]at h1;have:=h1.1.1;omega
 have hs:PartOk (if(!v.drop||decide ((fX w.x o).pick.place<0))=true then mN w p o else(p,true)).1/\(if(!v.drop||decide ((fX w.x o).pick.place<0))=true then mN w p o else(p,true)).1.load=p.load/\(if(!v.drop||decide ((fX w.x o).pick.place<0))=true then mN w p o else(p,true)).1.clocks=p.clocks/\(if(!v.drop||decide ((fX w.x o).pick.place<0))=true then mN w p o else(p,true)).1.visits=p.visits:=by
   split
   . have:=TR (w:=w) h.ok E
     exact⟨this.1,this.2.1,this.2.2.1,this.2.2.2.1⟩
   . exact⟨h.ok,rfl,rfl,rfl⟩
 generalize (if(!v.drop||decide ((fX w.x o).pick.place<0))=true then mN w p o else(p,true))=S at *;simp only at u |-;by_cases h2:S.2=true
 . rw[if_pos h2]at u |-
   obtain⟨ab,ad,ac,I⟩:=hs;have hl:=OV (w:=w) (o:=o) (d:=v.drop) ab E;have M:=M6 (D:=D) (w:=w) (p:=S.1) (o:=o) (d:=v.drop) (by rw[ad];exact h.load) (hw.dim o ho);generalize qC w S.1 o v.drop=L at *;by_cases h3:L.2=true
   . rw[if_pos h3]at u |-
     by_cases h4:((fH w.x v).2 != 0)=true
     . rw[if_pos h4]at u;cases u
     rw[if_neg h4]at u |-;obtain⟨F,aa,J,af⟩:=hl;have hc:L.1.clocks.length<=2^p.visits:=by rw[aa,ac];exact h.clk
     have hd:=Vc w.x.net w.t L.1.place (fH w.x v).1.place L.1.clocks;have ae:=PE (fH w.x v).1 (FS w.x.net w.t L.1.place (fH w.x v).1.place L.1.clocks).1;refine⟨⟨⟨F.mem,F.board,Xaj (Cx _ _) (by decide)⟩,M,?_⟩,?_,T⟩
     . show(En (fH w.x v).1 (FS w.x.net w.t L.1.place (fH w.x v).1.place L.1.clocks).1).length<=2^(L.1.visits+1)
       rw[J,I,Xbu];omega
     . show L.1.visits+1=_
       rw[J,I]
   . rw[if_neg h3]at u;cases u
 . rw[if_neg h2]at u;cases u
def avF(w:Wk)(p:Part)(n:Int):Int:=if(amR w p).2.2=true then W (n+1)else n
def countP(w:Wk)(vs:List Visit):Nat->Part->Int->Int
 | 0,p,n=>avF w p n
 | f+1,p,n=>vs.foldl (fun n v=>if n>8192 then n else if(Bh w p v).2=true then countP w vs f (Bh w p v).1 n else n) (avF w p n)
structure XB(D:Nat)(x:Instance):Prop where
 net:NetOk x.net
 dim:∀o,o<x.orders.length->(fX x o).load.length=D
 cap:∀k,k<x.types.length->(aiE x k).cap.length=D
 D:D<=1048576
 n:x.orders.length<=8
 types:x.types.length<=1048576
end Go.Proofs.YtohmomanmikphaaGreatDoor.Rx
end
section
namespace Go.Proofs.YtohmomanmikphaaGreatDoor.Rx
open Go.Aw Go.Aw.D Go.Proofs Ty Go.Nu
open Sq (W jN uD wY AS kA jG fH dT NetOk nA nQ lM pP)
open Nu (xD yG Ca ltB geB wM xY)
open Mv (cH dK NC.pc aZ)
section
variable{H:aH}{w:Wk}{jw jk jm jf:Nat}{known more fresh:List Part}
end
structure SI(D:Nat)(w:Wk)(r m K:Nat)(s:Srch):Prop where
 known:∀p∈s.known,PInv D p/\p.visits<=6
 more:∀p∈s.more,PInv D p/\p.visits=r+1/\r+1<=w.most
 ml:s.more.length<=m
 kl:s.known.length<=K+s.more.length
 best:s.best.size<=8194
theorem SI.le{D:Nat}{w:Wk}{r m u K:Nat}{s:Srch}(h:SI D w r m K s)(E:m<=u):SI D w r u K s:=⟨h.known,h.more,Xaj h.ml E,h.kl,h.best⟩
theorem Ys(w:Wk)(q:Part)(e m:Int):(Qz w q e m).size<=8194:=Cx _ _
theorem PP(w:Wk)(s:Srch)(q:Part):(Vf w s q).known=s.known++[q]/\(Vf w s q).more=s.more++[q]/\((Vf w s q).best=s.best\/∃e m,(Vf w s q).best=Qz w q e m):=by
 unfold Vf;simp only;split
 . exact⟨rfl,rfl,.inr ⟨_,_,rfl⟩⟩
 . exact⟨rfl,rfl,.inl rfl⟩
theorem SI.try{D:Nat}{w:Wk}{r m K:Nat}{s:Srch}(h:SI D w r m K s)(hw:WkB D w)(aa:w.most<=6){p:Part}(Z:PInv D p)(ab:p.visits=r){v:Visit}(hv:VisOk w.x v):SI D w r (m+1) K (arE w p s v):=by
 unfold arE;simp only;split
 . exact h.le (Nat.le_succ m)
 . next M=>
   simp only[Xbt,not_or]at M;have J:(Bh w p v).2=true:=by simpa using M.1
   obtain⟨O,q2,q3⟩:=Ti hw Z hv J;obtain⟨T,I,F⟩:=PP w s (Bh w p v).1;refine⟨fun u E=>?_,fun u E=>?_,?_,?_,?_⟩
   . rw[T]at E
     rcases Xbe.1 E with E|E
     . exact h.known u E
     . rw[Xaq]at E;subst E;exact⟨O,by omega⟩
   . rw[I]at E
     rcases Xbe.1 E with E|E
     . exact h.more u E
     . rw[Xaq]at E;subst E;exact⟨O,by omega,by omega⟩
   . rw[I,Xac,List.length_singleton];have:=h.ml;omega
   . rw[T,I,Xac,Xac];have:=h.kl;omega
   . rcases F with F|⟨e,mm,F⟩
     . rw[F];exact h.best
     . rw[F];exact Ys _ _ _ _
end Go.Proofs.YtohmomanmikphaaGreatDoor.Rx
end
section
namespace Go.So
variable{α:Type}
structure SWO(lt:α->α->Bool):Prop where
 asym:∀a b,lt a b=true->lt b a=false
 neg:∀a b c,lt a b=false->lt b c=false->lt a c=false
def tlt(lt:α->α->Bool)(p q:α×Nat):Prop:=lt p.1 q.1=true\/(lt q.1 p.1=false/\p.2<q.2)
section
variable{lt:α->α->Bool}(h:SWO lt)
include h
theorem arZ{a b c:α}(h1:lt a b=true)(u:lt c b=false):lt a c=true:=by
 cases E:lt a c with
 | true=>rfl
 | false=>have:=h.neg _ _ _ E u;rw[h1]at this;cases this
theorem aiC{a b c:α}(h1:lt a b=true)(u:lt a c=false):lt c b=true:=by
 cases E:lt c b with
 | true=>rfl
 | false=>have:=h.neg _ _ _ u E;rw[h1]at this;cases this
theorem S6{p q:α×Nat}(h1:tlt lt p q):lt q.1 p.1=false:=h1.elim (fun e=>h.asym _ _ e) (fun e=>e.1)
theorem uO{p q r:α×Nat}(h1:tlt lt p q)(u:tlt lt q r):tlt lt p r:=by
 rcases h1 with h1|⟨h1,F⟩
 . exact .inl (arZ h h1 (S6 h u))
 . rcases u with u|⟨u,E⟩
   . exact .inl (aiC h u h1)
   . exact .inr ⟨h.neg _ _ _ u h1,by omega⟩
theorem Wa{p q:α×Nat}(h1:tlt lt p q)(u:tlt lt q p):False:=by
 rcases h1 with h1|⟨h1,F⟩
 . have:=S6 h u;rw[h1]at this;cases this
 . rcases u with u|⟨u,E⟩
   . rw[h1]at u;cases u
   . omega
end
theorem Dt{R:α->α->Prop}(M:∀a b,R a b->R b a->False):∀J I:List α,J.Perm I->J.Pairwise R->I.Pairwise R->J=I
 | [],I,hp,_,_=>(List.nil_perm.1 hp).symm
 | a::t,[],hp,_,_=>absurd hp.length_eq (by simp)
 | a::t,b::u,hp,h1,h2=>by
   have F:=List.pairwise_cons.1 h1;have E:=List.pairwise_cons.1 h2;by_cases e:a=b
   . subst e
     rw[Dt M t u ((List.perm_cons a).1 hp) F.2 E.2]
   . have O:a∈u:=(List.mem_cons.1 (hp.mem_iff.1 (List.mem_cons_self ..))).resolve_left e
     have T:b∈t:=(List.mem_cons.1 (hp.mem_iff.2 (List.mem_cons_self ..))).resolve_left (fun x=>e x.symm);exact(M a b (F.1 b T) (E.1 a O)).elim
def ins(lt:α->α->Bool)(x:α):List α->List α
 | []=>[x]
 | z::r=>if lt x z=true then x::z::r else z::ins lt x r
def uH(lt:α->α->Bool)(l:List α):List α:=l.foldl (fun acc x=>ins lt x acc) []
theorem Bp(lt:α->α->Bool)(x:α):∀l:List α,(ins lt x l).Perm (x::l)
 | []=>.refl _
 | z::r=>by
   unfold ins;split
   . exact .refl _
   . exact((Bp lt x r).cons z).trans (.swap x z r)
theorem Rq{u:Type}(lt:α->α->Bool)(f:u->α)(x:u):∀l:List u,(ins (fun a b=>lt (f a) (f b)) x l).map f=ins lt (f x) (l.map f)
 | []=>rfl
 | z::r=>by
   rw[List.map_cons];unfold ins;split
   . rfl
   . rw[List.map_cons,Rq lt f x r]
theorem Kq{lt:α->α->Bool}{x y:α}{l:List α}:y∈ins lt x l↔y=x\/y∈l:=by rw[(Bp lt x l).mem_iff,List.mem_cons]
theorem E9{lt:α->α->Bool}(h:SWO lt)(x:α×Nat):∀l:List (α×Nat),l.Pairwise (tlt lt)->(∀y∈l,y.2<x.2)->(ins (fun a b=>lt a.1 b.1) x l).Pairwise (tlt lt)
 | [],_,_=>by simp[ins]
 | z::r,hs,hr=>by
   have E:=List.pairwise_cons.1 hs;unfold ins;split
   . next F=>
     refine List.pairwise_cons.2 ⟨fun y u=>?_,hs⟩;rcases List.mem_cons.1 u with rfl|u
     . exact .inl F
     . exact uO h (.inl F) (E.1 y u)
   . next F=>
     refine List.pairwise_cons.2 ⟨fun y u=>?_,E9 h x r E.2 fun y u=>hr y (List.mem_cons_of_mem _ u)⟩;rcases Kq.1 u with rfl|u
     . exact .inr ⟨by simpa using F,hr z (List.mem_cons_self ..)⟩
     . exact E.1 y u
theorem Il{lt:α->α->Bool}(h:SWO lt):∀(l u:List (α×Nat)) (k:Nat),u.Pairwise (tlt lt)->(∀y∈u,y.2<k)->(∀i (y:α×Nat),l[i]?=some y->y.2=k+i) ->
   ((l.foldl (fun a x=>ins (fun a b=>lt a.1 b.1) x a) u).Pairwise (tlt lt)/\(l.foldl (fun a x=>ins (fun a b=>lt a.1 b.1) x a) u).Perm (u++l)/\(l.foldl (fun a x=>ins (fun a b=>lt a.1 b.1) x a) u).map Prod.fst=(l.map Prod.fst).foldl (fun a x=>ins lt x a) (u.map Prod.fst))
 | [],u,k,hs,_,_=>⟨hs,by simp,rfl⟩
 | x::l,u,k,hs,hk,hl=>by
   have I:x.2=k:=by have:=hl 0 x rfl;omega
   have ih:=Il h l (ins (fun a b=>lt a.1 b.1) x u) (k+1) (E9 h x u hs fun y E=>by have:=hk y E;omega) (fun y E=>by
     rcases Kq.1 E with rfl|E
     . omega
     . have:=hk y E;omega) (fun i y F=>by have:=hl (i+1) y (by simpa using F);omega)
   rw[List.foldl_cons];refine⟨ih.1,ih.2.1.trans ?_,?_⟩
   . refine((Bp _ x u).append_right l).trans ?_
     exact List.perm_middle.symm
   . rw[ih.2.2,Rq lt Prod.fst x u,List.map_cons,List.foldl_cons]
def tag(l:List α):List (α×Nat):=l.zipIdx
theorem Jf(l:List α):(tag l).map Prod.fst=l:=by unfold tag;exact List.zipIdx_map_fst 0 l
theorem Bd{l:List α}{i:Nat}{y:α×Nat}(h:(tag l)[i]?=some y):y.2=i:=by
 unfold tag at h;rw[List.getElem?_zipIdx]at h;cases u:l[i]? with
 | none=>rw[u]at h;cases h
 | some a=>rw[u]at h;simp at h;rw[<-h]
theorem acK(l:List α):(tag l).length=l.length:=by unfold tag;exact List.length_zipIdx
theorem U9{lt:α->α->Bool}(h:SWO lt){l:List α}{L:List (α×Nat)}(E:L.Perm (tag l))(I:L.Pairwise (tlt lt)):L.map Prod.fst=uH lt l:=by
 have u:=Il h (tag l) [] 0 List.Pairwise.nil (by simp) (fun i y F=>by have:=Bd F;omega);rw[Dt (fun a b=>Wa h) L _ (E.trans u.2.1.symm) I u.1,u.2.2,Jf];rfl
section
variable{lt:α->α->Bool}(h:SWO lt)
include h
theorem AE{Q B:List (α×Nat)}{x:α×Nat}(hs:(Q++B).Pairwise (tlt lt))(h1:∀y,Q.getLast?=some y->tlt lt y x)(M:∀y,B.head?=some y->tlt lt x y):(Q++x::B).Pairwise (tlt lt):=by
 obtain⟨O,Z,J⟩:=List.pairwise_append.1 hs;have F:∀b∈B,tlt lt x b:=by
   intro b E;cases B with
   | nil=>cases E
   | cons y r=>
     rcases List.mem_cons.1 E with rfl|E
     . exact M b rfl
     . exact uO h (M y rfl) ((List.pairwise_cons.1 Z).1 b E)
 have I:∀a∈Q,tlt lt a x:=by
   intro a u;rcases List.eq_nil_or_concat Q with rfl|⟨Q',y,rfl⟩
   . cases u
   . rw[List.concat_eq_append]at *
     have T:=h1 y (by simp);rcases List.mem_append.1 u with u|u
     . exact uO h ((List.pairwise_append.1 O).2.2 a u y (by simp)) T
     . rw[List.mem_singleton.1 u];exact T
 refine List.pairwise_append.2 ⟨O,List.pairwise_cons.2 ⟨F,Z⟩,fun a u b E=>?_⟩;rcases List.mem_cons.1 E with rfl|E
 . exact I a u
 . exact J a u b E
theorem Bq{O T Z B2 M J:List (α×Nat)}(hA:(O++T).Pairwise (tlt lt))(hB:(Z++B2).Pairwise (tlt lt))
   (h1:∀x y,O.getLast?=some x->B2.head?=some y->tlt lt x y) (h2:∀x y,Z.getLast?=some x->T.head?=some y->tlt lt x y)
   (p1:M.Perm (O++Z)) (p2:J.Perm (T++B2)) (s1:M.Pairwise (tlt lt)) (s2:J.Pairwise (tlt lt)):
   (M++J).Pairwise (tlt lt)/\(M++J).Perm ((O++T)++(Z++B2)):=by
 have Xk:∀{X Y:List (α×Nat)},X.Pairwise (tlt lt)->Y.Pairwise (tlt lt)->(∀x y,X.getLast?=some x->Y.head?=some y->tlt lt x y)->∀x∈X,∀y∈Y,tlt lt x y:=by
   intro X Y hX hY hc x u y E;rcases List.eq_nil_or_concat X with rfl|⟨X',z,rfl⟩
   . cases u
   . rw[List.concat_eq_append]at *
     cases Y with
     | nil=>cases E
     | cons w r=>
       have I:=hc z w (by simp) rfl;have ac:x=z\/tlt lt x z:=by
         rcases List.mem_append.1 u with u|u
         . exact .inr ((List.pairwise_append.1 hX).2.2 x u z (by simp))
         . exact .inl (List.mem_singleton.1 u)
       have aa:y=w\/tlt lt w y:=by
         rcases List.mem_cons.1 E with E|E
         . exact .inl E
         . exact .inr ((List.pairwise_cons.1 hY).1 y E)
       have F:tlt lt x w:=ac.elim (fun e=>e▸I) (fun e=>uO h e I);exact aa.elim (fun e=>e▸F) (fun e=>uO h F e)
 obtain⟨a1,a2,ab⟩:=List.pairwise_append.1 hA;obtain⟨b1,b2,ad⟩:=List.pairwise_append.1 hB;refine⟨List.pairwise_append.2 ⟨s1,s2,fun x u y E=>?_⟩,?_⟩
 . rcases List.mem_append.1 (p1.mem_iff.1 u)with u|u <;> rcases List.mem_append.1 (p2.mem_iff.1 E)with E|E
   . exact ab x u y E
   . exact Xk a1 b2 h1 x u y E
   . exact Xk b1 a2 h2 x u y E
   . exact ad x u y E
 . refine(p1.append p2).trans ?_
   rw[List.append_assoc,List.append_assoc];refine List.Perm.append_left _ ?_;rw[<-List.append_assoc,<-List.append_assoc];exact(List.perm_append_comm).append_right _
end
def swp(l:List α)(i j:Nat):List α:=match l[i]?,l[j]? with
 | some x,some y=>(l.set i y).set j x
 | _,_=>l
theorem ZZ(l:List α)(i j:Nat):(swp l i j).length=l.length:=by
 unfold swp;split <;> simp
theorem VZ{U V W:List α}{x y:α}{i j:Nat}(u:i=U.length)(F:j=U.length+1+V.length):swp (U++x::(V++y::W)) i j=U++y::(V++x::W):=by
 subst u F;unfold swp;have I:(U++x::(V++y::W))[U.length]?=some x:=by simp
 have E:(U++x::(V++y::W))[U.length+1+V.length]?=some y:=by
   rw[List.getElem?_append_right (by omega),show U.length+1+V.length-U.length=V.length+1 by omega,List.getElem?_cons_succ,List.getElem?_append_right (by omega)];simp
 rw[I,E];simp only;rw[List.set_append_right _ _ (by omega),show U.length-U.length=0 by omega,List.set_cons_zero,List.set_append_right _ _ (by omega),show U.length+1+V.length-U.length=V.length+1 by omega,List.set_cons_succ,List.set_append_right _ _ (by omega),Nat.sub_self,List.set_cons_zero]
theorem EC{U W:List α}{x y:α}{i j:Nat}(u:i=U.length)(E:j=U.length+1):swp (U++x::y::W) i j=U++y::x::W:=VZ (V:=[]) u (by simpa using E)
theorem Lw(l:List α)(i j:Nat)(h:i≠j):swp l i j=swp l j i:=by
 unfold swp;cases l[i]? with
 | none=>cases l[j]? <;> rfl
 | some x=>cases l[j]? with
   | none=>rfl
   | some y=>exact List.set_comm _ _ h
def BQ(l:List α)(a b:Nat):Nat->List α
 | 0=>l
 | n+1=>swp (BQ l a b n) (a+n) (b+n)
theorem M7(l:List α)(a b:Nat):∀n,(BQ l a b n).length=l.length
 | 0=>rfl
 | n+1=>by rw[BQ,ZZ,M7 l a b n]
theorem Q3{P X V Y S:List α}(h:X.length=Y.length):∀n,n<=X.length->BQ (P++X++V++Y++S) P.length (P.length+X.length+V.length) n=P++(Y.take n++X.drop n)++V++(X.take n++Y.drop n)++S
 | 0,_=>by simp[BQ]
 | n+1,hn=>by
   rw[BQ,Q3 h n (by omega)];have E:n<X.length:=by omega
   have u:n<Y.length:=by omega
   rw[<-List.getElem_cons_drop (h:=E),<-List.getElem_cons_drop (h:=u)];have e:=VZ (U:=P++Y.take n) (V:=X.drop (n+1)++V++X.take n) (W:=Y.drop (n+1)++S) (x:=X[n]) (y:=Y[n]) (i:=P.length+n) (j:=P.length+X.length+V.length+n) (by rw[List.length_append,List.length_take];omega) (by
     simp only[List.length_append,List.length_take,List.length_drop];omega)
   simp only[List.append_assoc,List.cons_append]at e |-;rw[e];simp only[List.take_add_one,List.getElem?_eq_getElem E,List.getElem?_eq_getElem u,Option.toList_some,List.append_assoc,List.cons_append,List.nil_append]
theorem Gi{P X V Y S:List α}{a b n:Nat}(F:a=P.length)(u:b=P.length+X.length+V.length)(E:n=X.length)(h:Y.length=n):BQ (P++X++V++Y++S) a b n=P++Y++V++X++S:=by
 subst F u E;rw[Q3 h.symm _ (Nat.le_refl _),List.take_of_length_le (by omega),List.drop_length,List.append_nil,List.take_length,List.drop_of_length_le (by omega),List.append_nil]
def Dv(A B:List (α×Nat)):Prop:=∀x∈A,∀y∈B,x.2<y.2
structure Good(lt:α->α->Bool)(R:List (List (α×Nat))):Prop where
 srt:∀A∈R,A.Pairwise (tlt lt)
 rk:R.Pairwise Dv
def sN(n:Nat):List (List (α×Nat))->Prop
 | []=>True
 | [A]=>1<=A.length/\A.length<=n
 | A::B::r=>A.length=n/\sN n (B::r)
theorem Pk{n:Nat}{A:List (α×Nat)}{r:List (List (α×Nat))}(h1:A.length=n)(h0:1<=n)(h:sN n r):sN n (A::r):=by
 cases r with
 | nil=>exact⟨by omega,by omega⟩
 | cons B r=>exact⟨h1,h⟩
theorem zH{n:Nat}{D r:List (List (α×Nat))}(h1:∀A∈D,A.length=n)(h0:1<=n)(h:sN n r):sN n (D++r):=by
 induction D with
 | nil=>exact h
 | cons A D ih=>exact Pk (h1 A (by simp)) h0 (ih fun A u=>h1 A (by simp[u]))
theorem Tx{n:Nat}{R:List (List (α×Nat))}(h0:1<=n)(h:sN n R)(u:2*n<=R.flatten.length):∃A B r,R=A::B::r/\A.length=n/\B.length=n/\sN n r:=by
 match R,h with
 | [],_=>simp at u;omega
 | [A],h=>simp at u;have:=h.2;omega
 | [A,B],h=>exact⟨A,B,[],rfl,h.1,by have:=h.1;have:=h.2.2;simp at u;omega,trivial⟩
 | A::B::C::r,h=>exact⟨A,B,C::r,rfl,h.1,h.2.1,h.2.2⟩
theorem PF{n:Nat}{R:List (List (α×Nat))}(h:sN n R)(E:R.flatten.length<2*n)(u:n<R.flatten.length):∃A B,R=[A,B]/\A.length=n/\1<=B.length/\B.length<=n:=by
 match R,h with
 | [],_=>simp at u
 | [A],h=>simp at u;have:=h.2;omega
 | [A,B],h=>exact⟨A,B,rfl,h.1,h.2.1,h.2.2⟩
 | A::B::C::r,h=>have:=h.1;have:=h.2.1;simp at E;omega
theorem II{n:Nat}{R:List (List (α×Nat))}(h0:1<=n)(h:sN n R)(u:R.flatten.length<=n):R=[]\/∃A,R=[A]/\1<=A.length/\A.length<=n:=by
 match R,h with
 | [],_=>exact .inl rfl
 | [A],h=>exact .inr ⟨A,rfl,h⟩
 | [A,B],h=>have:=h.1;have:=h.2.1;simp at u;omega
 | A::B::C::r,h=>have:=h.1;have:=h.2.1;simp at u;omega
theorem EJ{lt:α->α->Bool}{D r:List (List (α×Nat))}{A B:List (α×Nat)}(h:Good lt (D++A::B::r)):Dv A B/\A.Pairwise (tlt lt)/\B.Pairwise (tlt lt):=by
 have u:=(List.pairwise_append.1 h.rk).2.1;exact⟨(List.pairwise_cons.1 u).1 B (by simp),h.srt A (by simp),h.srt B (by simp)⟩
theorem Ga{lt:α->α->Bool}{D r:List (List (α×Nat))}{A B M:List (α×Nat)}(h:Good lt (D++A::B::r))(T:M.Perm (A++B))(hs:M.Pairwise (tlt lt)):Good lt (D++M::r):=by
 obtain⟨q1,q2,J⟩:=List.pairwise_append.1 h.rk;obtain⟨q4,q5⟩:=List.pairwise_cons.1 q2;obtain⟨q6,Z⟩:=List.pairwise_cons.1 q5;refine⟨fun C u=>?_,List.pairwise_append.2 ⟨q1,List.pairwise_cons.2 ⟨fun C u x F y I=>?_,Z⟩,fun C u E O=>?_⟩⟩
 . rcases List.mem_append.1 u with u|u
   . exact h.srt C (by simp[u])
   . rcases List.mem_cons.1 u with rfl|u
     . exact hs
     . exact h.srt C (by simp[u])
 . rcases List.mem_append.1 (T.mem_iff.1 F)with F|F
   . exact q4 C (by simp[u]) x F y I
   . exact q6 C u x F y I
 . rcases List.mem_cons.1 O with rfl|O
   . intro x F y I
     rcases List.mem_append.1 (T.mem_iff.1 I)with I|I
     . exact J C u A (by simp) x F y I
     . exact J C u B (by simp) x F y I
   . exact J C u E (by simp[O])
theorem Xp{lt:α->α->Bool}{n:Nat}{R:List (List (α×Nat))}(h:Good lt R)(h0:1<=n)(u:sN n R)(E:R.flatten.length<=n):R.flatten.Pairwise (tlt lt):=by
 rcases II h0 u E with rfl|⟨A,rfl,_⟩
 . exact List.Pairwise.nil
 . simpa using h.srt A (by simp)
theorem IR{lt:α->α->Bool}{D:List (List (α×Nat))}{A:List (α×Nat)}(h:Good lt D)(F:A.Pairwise (tlt lt))(I:∀B∈D,Dv B A):Good lt (D++[A]):=by
 refine⟨fun C u=>?_,List.pairwise_append.2 ⟨h.rk,List.pairwise_singleton _ _,fun C u E J=>?_⟩⟩
 . rcases List.mem_append.1 u with u|u
   . exact h.srt C u
   . rw[List.mem_singleton.1 u];exact F
 . rw[List.mem_singleton.1 J];exact I C u
theorem Uk{l:List α}{P Q:List (α×Nat)}(h:P++Q=tag l):Dv P Q:=by
 intro x I y E;obtain⟨i,u,rfl⟩:=List.getElem_of_mem I;obtain⟨j,J,rfl⟩:=List.getElem_of_mem E;have M:(tag l)[i]?=some P[i]:=by rw[<-h,List.getElem?_append_left u,List.getElem?_eq_getElem u]
 have F:(tag l)[P.length+j]?=some Q[j]:=by rw[<-h,List.getElem?_append_right (by omega),Nat.add_sub_cancel_left,List.getElem?_eq_getElem J]
 rw[Bd M,Bd F];omega
end Go.So
end
section
namespace Go.Proofs.YtohmomanmikphaaGreatDoor.Rx
open Go.Proofs.Tryz(prog)
open Go.Aw Go.Aw.D Go.Proofs Ty Go.Nu Go.So
open Nu (ltB geB)
abbrev qZ(l:List Int):Row:=⟨3,1,l.map bJ⟩
theorem FV(x:Int):(bJ x).length=1:=(rfl)
abbrev TB:=Int×Nat
def fs(L:List TB):List Int:=L.map Prod.fst
structure CmpOk(gf:Nat)(cap':List AV)(lt:Int->Int->Bool)(ok:Int->Prop):Prop where
 call:aC Tryz.prog gf=true
 cmp:∀x y,ok x->ok y->∃n:Int,decide (n<0)=lt x y/\PC Tryz.prog gf (int x::int y::cap') (int n)
section
variable{gf:Nat}{cx:AV}{jc:Nat}{rc:Row}{cap':List AV}{lt:Int->Int->Bool}{ok:Int->Prop}
end
end Go.Proofs.YtohmomanmikphaaGreatDoor.Rx
end
section
namespace Go.Proofs.YtohmomanmikphaaGreatDoor.Rx
open Go.Aw Go.Aw.D Go.Proofs Ty Go.Nu Go.So
open Sq (W jG fH dT NetOk nA nQ lM pP)
open Nu (ltB geB Cs)
open Mv (cH dK NC.pc aZ)
end Go.Proofs.YtohmomanmikphaaGreatDoor.Rx
end
section
namespace Go.Proofs.YtohmomanmikphaaGreatDoor.Rx
open Go.Aw Go.Aw.D Go.Proofs Ty Go.Nu Go.So
open Sq (W jG fH dT NetOk)
open Nu (ltB geB)
open Mv (cH dK NC.pc aZ)
def aaU(s i:Nat):Bool:=s/2^i%2 == 1
def Od(o:Order):List Int:=(if decide (o.pick.place>=0)=true then[o.pick.place]else[])++(if decide (o.drop.place>=0)=true then[o.drop.place]else[])
def gE(near:List Int)(m o:Nat)(s i:Nat):Nat:=if(i == o||(aaU m i&&aaU (near.getD o 0).toNat i))=true then s+2^i else s
def d32A(p q:Int)(out:Int)(w:Arc):Int:=if((w.src == p&&w.dst == q)||(w.src == q&&w.dst == p))=true then Z1 out w.miles else out
def d32Q(arcs:List Arc)(p:Int)(out q:Int):Int:=arcs.foldl (d32A p q) (if(p == q)=true then 0 else out)
def d32P(arcs:List Arc)(Q:List Int)(out p:Int):Int:=Q.foldl (d32Q arcs p) out
def WU(x:Instance)(a b:Nat):Int:=(Od (fX x a)).foldl (d32P x.net.arcs (Od (fX x b))) 10001
def Cf(x:Instance)(a set:Nat)(best:Int)(b:Nat):Int:=if(!aaU set b&&(decide (best<0)||decide (WU x a b<WU x a best.toNat)))=true then(b:Int)else best
end Go.Proofs.YtohmomanmikphaaGreatDoor.Rx
end
section
namespace Go.Proofs.YtohmomanmikphaaGreatDoor.Rx
open Go.Aw Go.Aw.D Go.Proofs Ty Go.Nu Go.So
open Sq (W jG fH dT NetOk jN)
open Nu (ltB geB)
open Mv (cH dK NC.pc aZ)
structure Mom where
 time:Int
 driven:Int
structure RP where
 place:Int
 visits:Nat
 miles:Int
 moms:List Mom
 memory:Nat
 board:Nat
 load:List Int
 moved:Int
 other:Int
 dual:ByteArray
structure Rs where
 x:Instance
 t:VType
 kind:Nat
 near:List Int
 dual:List ByteArray
 most:Nat
 count:Int
 limited:Bool
 found:Bool
 least:ByteArray
section
variable(p:RP)
end
section
variable(w:Rs)
end
def arrM(n:Network)(t:VType)(place goal close:Int)(s:List Mom×Int)(m:Mom):List Mom×Int:=
 (if(((jN n t.profile place goal m.time).2.2 == 0&&decide ((jN n t.profile place goal m.time).1<=close))&&decide (W (W (m.driven+(jN n t.profile place goal m.time).1)-m.time)<=t.drive))=true
  then s.1++[⟨(jN n t.profile place goal m.time).1,W (W (m.driven+(jN n t.profile place goal m.time).1)-m.time)⟩]else s.1,(jN n t.profile place goal m.time).2.1)
def GL(n:Network)(t:VType)(place goal close:Int)(l:List Mom):List Mom×Int:=l.foldl (arrM n t place goal close) ([],0)
end Go.Proofs.YtohmomanmikphaaGreatDoor.Rx
end
section
namespace Go.Aw
open Go.RowKit
section
variable{P:Program}{f:FuncId}{args:List AV}{H H1:aH}{K:AV->aH->Prop}{r:AV}
def MC(P:Program)(f:FuncId)(args:List AV)(H H1:aH)(r:AV):Prop:=∀K:AV->aH->Prop,K r H1->bA P f args H K
theorem MC.use(h:MC P f args H H1 r)(u:K r H1):bA P f args H K:=h K u
theorem bA.dataM(O:∀k,H k=none->H1 k=none)(h:bA P f args H (J1 H1 r))(hK:K r H1):bA P f args H K:=by
 intro S w vals hS ha;refine(h S w vals hS ha).mono fun e w' ⟨v,x,H',S',J,⟨T,l,hl,M⟩,E,hv,Z,hn⟩=>?_
 obtain⟨h1,I,h3⟩:=E.frz l;refine⟨v,r,H1,S'.froze _,J,hK,h1.drop (fun k row F=>?_),M.rep h3 hv,Z.trans I,fun k _ h0=>O k h0⟩;have u:¬k∈l:=fun u=>by rw[hl k u]at F;cases F
 show(if k∈l then none else H' k)=some row;rw[if_neg u];exact T k row F
theorem MC.body{fn:Func}{c:Code}(mt:Nat->Bool)(F:∀k,H k=none->H1 k=none)(J:P.follows .mixedOrders=true)(M:P.funcs[f]?=some fn)(I:fn.body=some c)(E:Ae fn c args.length=true)
 (h:awp P (bA P) (dN P) mt c (GV P fn.results.toList (J1 H1 r)) (D9 args) H):MC P f args H H1 r:=fun K u=>bA.dataM F (bA.body mt J M I E h) u
theorem L2{H:aH}{j:Nat}{a:Row}(h:H j=some a):aI H j (some a)=H:=funext fun k=>by
 by_cases e:k=j
 . subst e;rw[aB,h]
 . rw[aD _ _ _ _ e]
theorem UW(H:aH)(j:Nat)(a b:Option Row):aI (aI H j a) j b=aI H j b:=funext fun k=>by
 by_cases e:k=j
 . subst e;rw[aB,aB]
 . rw[aD _ _ _ _ e,aD _ _ _ _ e,aD _ _ _ _ e]
theorem Sup.set{H H':aH}(h:Sup H H')(j:Nat)(a:Option Row):Sup (aI H j a) (aI H' j a):=fun k row u=>by
 by_cases e:k=j
 . subst e;rw[aB]at u |-;exact u
 . rw[aD _ _ _ _ e]at u |-;exact h k row u
theorem Sup.set2{H H':aH}{j:Nat}{b:Option Row}(h:Sup (aI H j b) H')(a:Option Row):Sup (aI H j a) (aI H' j a):=by
 have:=Sup.set h j a
 rwa [UW]at this
theorem Qm{H:aH}{j:Nat}{a:Option Row}{b:Row}(h:H j=some b):∀k,H k=none->aI H j a k=none:=fun k u=>by
 by_cases e:k=j
 . subst e;rw[h]at u;cases u
 . rw[aD _ _ _ _ e,u]
theorem BE{P:Program}{C:lB}{PC:FuncId->List AV->aH->AV->Prop}{mt:Nat->Bool}{ops:List Oper}{K:Env->aH->Prop}{m:Nat}{ρ:Env}{H:aH}(l:List Nat)(t:Mx)(J:Env->aH->Prop)(M:∀k,k∈l->(H k).isSome=true)(F:ME ops.toArray t=true)
 (h:∀K':Env->aH->Prop,(∀u H',J u H'->K' u H')->∀Hp E:aH,(∀k,k∈l->Hp k=H k)->(∀k,k∉l->E k=H k)->(∀k,k∉l->Hp k=none)->(∀k,k∈l->E k=none)->mI P C PC mt ops.toArray (mA l H K') Hp t ρ E)
 (I:∀u H',J u H'->K u H'):tA P C PC mt ops.toArray K m ρ H:=vA l t M F (h K I)
end
end Go.Aw
namespace Go.Proofs.YtohmomanmikphaaGreatDoor.Rx
open Go.Aw Go.Aw.D Go.Proofs Ty Go.Nu Go.So
open Sq (W jG fH dT NetOk jN)
open Nu (ltB geB Ry Xw vR)
open Mv (cH dK NC.pc aZ)
def El(s:Rs)(v:ByteArray):Rs:=
 if(!s.found||decide (zU v s.least<0))=true then { s with count:=W (s.count+1),found:=true,least:=v }else { s with count:=W (s.count+1) }
end Go.Proofs.YtohmomanmikphaaGreatDoor.Rx
end
