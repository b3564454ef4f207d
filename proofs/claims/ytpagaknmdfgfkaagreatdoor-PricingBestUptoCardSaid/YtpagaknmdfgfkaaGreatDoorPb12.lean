import Derived.Lib.ItoaMem
import Derived.Test.YtpagaknmdfgfkaaGreatDoorPb08
import Derived.Test.YtpagaknmdfgfkaaGreatDoorPb11
set_option linter.unusedSimpArgs false
set_option linter.unusedVariables false
set_option linter.defProp false
set_option maxRecDepth 100000
section
namespace Go.Aw
open Go.RowKit
section
variable{P:Program}{f:FuncId}{args:List AV}{H:aH}{K:AV->aH->Prop}
def apL{S:Sg}{w:World}{v:Value}(h:rep S w (.v (.slice none 0 0)) v):rep S w (.sl []) v:=by
 have E:v=.slice none 0 0:=by simp only[rep]at h;exact h
 subst E;simp only[rep];exact⟨none,0,0,rfl,rfl,Nat.le_refl _,Nat.zero_le _,.inl trivial⟩
def bM.nil0{F:List AV}(h:bM P f (.sl []::F) H K):bM P f (.v (.slice none 0 0)::F) H K:=fun S w vals J E=>h S w vals J (by simp only[bN]at E |-;obtain⟨u,t,e,h1,I⟩:=E;exact⟨u,t,e,apL h1,I⟩)
end
end Go.Aw
end
namespace Go.Proofs.YtpagaknmdfgfkaaGreatDoor
open Go.Aw Go.Aw.D Go.Proofs Ty
namespace Sq
open Go.Proofs.Tryz
open Go.Nu (hU)
open Go.Proofs.YtpagaknmdfgfkaaGreatDoor.Nu (ltB geB Fm)
open Mv (bO bR aO)
def KX(v:Visit):Int:=if v.drop=true then 1 else 0
def or2(a b:Int):Int:=if a=0 then b else a
def wJ(a b:Visit):Int:=or2 (hU a.order b.order) (hU (KX a) (KX b))
def Pt:List Visit->List Visit->Int
 | [],[]=>0
 | [],_::_=> -1
 | _::_,[]=>1
 | a::l,b::m=>or2 (wJ a b) (Pt l m)
def Y0:List Int->Int
 | []=>0
 | a::l=>if a=0 then Y0 l else a
def tH{α:Type}{l:List α}{k:Nat}{u:α}(h:l[k]?=some u):l.drop k=u::l.drop (k+1):=by obtain⟨E,rfl⟩:=List.getElem?_eq_some_iff.1 h;rw[Xci E]
def avK(l:List Int)(hl:l.length<=1048576):PC prog 312 [.sl (l.map bC)] (int (Y0 l)):=by
 refine pcd func312 rfl rfl ?_;simp only[go_sem];refine⟨fun ρ H=>∃(k:Nat),k<=l.length/\ρ 3=int 0/\ρ 6=.sl (l.map bC)/\ρ 7=int (l.length:Nat)/\ρ 8=int k/\Y0 l=Y0 (l.drop k),fun ρ _=>l.length-aR (ρ 8),⟨0,Xaa _,rfl,rfl,rfl,(by simp only[go_sem];rfl),rfl⟩,?_⟩;rintro ρ H ⟨k,Z,I,X,Y,U,F⟩;simp only[go_sem,Y,U];refine jQ Z (fun E=>?_) (fun O=>?_)
 ·obtain⟨u,V⟩:=aK E;have b1:=inB E;rw[tH V,Y0]at F;simp only[go_sem,I,X,U,aD V,b1];refine aA (fun J=>?_) (fun J=>?_)
  ·simp only[go_sem,];exact bO (by rw[F,if_neg (by simpa using J)])
  ·rw[if_pos (by simpa using J)]at F;simp only[go_sem,I,X,Y,U,aQ k];exact⟨⟨k+1,E,rfl,F⟩,by simp only[aN];omega⟩
 ·subst O;simp only[go_sem,I,];exact bO (by rw[F,Xcl];rfl)
def abP(v:Visit):PC prog 311 [.agg (aF v)] (int (KX v)):=by
 refine pcd func311 rfl rfl ?_;simp only[go_sem];unfold KX;apply aA <;> intro E
 ·simp only[go_sem,E];exact bO rfl
 ·simp only[go_sem,E];exact bO rfl
def Ui(a b:Visit):PC prog 265 [.agg (aF a),.agg (aF b)] (int (wJ a b)):=by
 refine pcd func265 rfl rfl ?_;simp only[go_sem];refine HD (by kernel_rfl) ?_;simp only[go_sem];refine⟨_,(Fm a.order b.order).q rfl,?_⟩;simp only[go_sem];refine⟨_,(abP a).q rfl,?_⟩;simp only[go_sem];refine⟨_,(abP b).q rfl,?_⟩;simp only[go_sem];refine⟨_,(Fm (KX a) (KX b)).q rfl,?_⟩;simp only[go_sem];refine aG (avK [hU a.order b.order,hU (KX a) (KX b)] (by simp)) ?_;simp only[go_sem];refine bO ?_;unfold wJ or2;simp only[Y0];split
 ·split
  ·next h=>exact h.symm
  ·rfl
 ·rfl
def aoP(a b:List Visit)(ha:a.length<=1048576):PC prog 264 [.sl (a.map aF),.sl (b.map aF),.v (.func (.func 265) #[] #[])] (int (Pt a b)):=by
 have ad:aE prog 265=true:=by kernel_rfl
 refine pcd func264 rfl rfl ?_;simp only[go_sem];refine⟨fun ρ H=>∃(k:Nat),k<=a.length/\ρ 0=.sl (a.map aF)/\ρ 1=.sl (b.map aF)/\ρ 2=.v (.func (.func 265) #[] #[])/\ρ 11=.sl (a.map aF)/\ρ 12=int (a.length:Nat)/\ρ 13=int k/\Pt a b=Pt (a.drop k) (b.drop k)/\k<=b.length,fun ρ _=>a.length-aR (ρ 13),⟨0,Xaa _,rfl,rfl,rfl,rfl,rfl,(by simp only[go_sem];rfl),rfl,Xaa _⟩,?_⟩;rintro ρ H ⟨k,hk,e0,e1,e2,Y,V,U,I,ae⟩;simp only[go_sem,V,U];refine aA (fun E=>?_) (fun J=>?_)
 ·have E:=ltB (by simpa using E);obtain⟨u,hu⟩:=aK E;have b1:=inB E;rw[tH hu]at I;simp only[go_sem,Y,U,aD hu,b1];refine aL fun i8 X=>?_
  simp only[go_sem];refine cJ X (by simp[dJ]) fun ab (R8:ab i8=some ((⟨112,2,[aF u]⟩:Row))) N=>?_
  simp only[go_sem,e1,];apply aA <;> intro F
  ·have ac:b.length<=k:=by simpa using F
   simp only[go_sem];refine bO ?_;rw[I,Xcf ac];rfl
  have O:k<b.length:=by simpa using F
  obtain⟨v,hv⟩:=aK O;have b2:=inB O;rw[tH hv]at I;simp only[go_sem,e1,aD hv,b2];refine aL fun i9 Z=>?_
  simp only[go_sem];refine cJ Z (by simp[dJ]) fun aa (R9:aa i9=some ((⟨112,2,[aF v]⟩:Row))) N=>?_
  replace R8:=(N R8).2;simp only[go_sem,e2,R9,R8];refine aG (Ui u v) ?_;simp only[go_sem];apply aA <;> intro F
  ·have hc:¬wJ u v=0:=by simpa using F
   simp only[go_sem];refine bO ?_;rw[I];show _=or2 (wJ u v) _;unfold or2;rw[if_neg hc]
  ·have hc:wJ u v=0:=by simpa using F
   simp only[go_sem,e0,e1,e2,Y,V,U,aQ k];refine⟨⟨k+1,E,rfl,?_,O⟩,msr E⟩;rw[I];show or2 (wJ u v) _=_;unfold or2;rw[if_pos hc]
 have J:=geB hk (by simpa using J);subst J;rw[Xcl]at I;simp only[go_sem,e0,e1,Xab];apply aA <;> intro F
 ·have F:a.length<b.length:=by simpa using F
  simp only[go_sem];refine bO ?_;obtain⟨v,hv⟩:=aK F;rw[I,tH hv];rfl
 ·have F:¬a.length<b.length:=by simpa using F
  simp only[go_sem];refine bO ?_;rw[I,Xcf (by omega)];rfl
def apR(a b:List Visit)(E:a.length<=1048576):PC prog 226 [.sl (a.map aF),.sl (b.map aF)] (boo (decide (Pt a b<0))):=by refine pcd func226 rfl rfl ?_;simp only[go_sem];refine aG (aoP a b E) ?_;simp only[go_sem];exact .refl _
end Sq
namespace Sq
open Go.Proofs.Tryz
open Go.Proofs.YtpagaknmdfgfkaaGreatDoor.Nu (ltB geB)
open Mv (bO bR aO)
def eqV(w v:Visit):Bool:=w.order == v.order&&(w.drop == v.drop&&true)
def rN(l:List Visit)(w:Visit):Bool:= !decide (bJ l w<0)
def BM(W l:List Visit)(v:Visit):Bool:=(W.takeWhile fun w=> !eqV w v).all (rN l)
def aaF(x:Instance)(l:List Visit)(v:Visit):Bool:=x.before.all fun q=>(q.b != v.order)||(fV x.orders q.a).all (rN l)
def rX(x:Instance)(l:List Visit)(v:Visit):Bool:=(!decide (bJ l v>=0)&&BM (fV x.orders v.order) l v)&&aaF x l v
def X4{α:Type}{p:α->Bool}{W:List α}{k:Nat}(h:∀u∈W.take k,p u=true):W.takeWhile p=W.take k++(W.drop k).takeWhile p:=by
 conv=>lhs;rw[<-Xcs k W]
 exact List.takeWhile_append_of_pos h
def X9{W l:List Visit}{v:Visit}{k:Nat}(h:∀u∈W.take k,eqV u v=false/\rN l u=true):BM W l v=BM (W.drop k) l v:=by
 unfold BM;rw[X4 (k:=k) (fun u E=>by rw[(h u E).1];rfl),List.all_append];have:(W.take k).all (rN l)=true:=Xaj.2 fun u E=>(h u E).2
 rw[this,Xbc]
def anM(x:Instance)(l:List Visit)(v:Visit)(hl:l.length<=1048576)(hb:x.before.length<=1048576):PC prog 227 [.agg (aC x),.sl (l.map aF),.agg (aF v)] (boo (rX x l v)):=by
 refine pcd func227 rfl rfl ?_;simp only[go_sem];refine aG (Em l v hl) ?_;simp only[go_sem];apply aA <;> intro c1
 ·simp only[go_sem];refine bR ?_;unfold rX;have c1:decide (bJ l v>=0)=true:=c1;rw[c1];rfl
 have c1:decide (bJ l v>=0)=false:=c1;have hW:=vV x.orders v.order;simp only[go_sem];refine aG (vC x.orders v.order) ?_;simp only[go_sem,Xab];have hr:rX x l v=(BM (fV x.orders v.order) l v&&aaF x l v):=by unfold rX;rw[c1];rfl
 generalize fV x.orders v.order=W at *;refine Ki (fun ae _=>ae 1=.sl (l.map aF)/\ae 3=.rp (aC x) 0/\ae 5=.rp (aF v) 0/\BM W l v=true) ?_ fun Q hQ aq=>?_
 ·rintro ρ H ⟨h1,h3,h5,au⟩;rw[au,Xbc]at hr;simp only[go_sem,h3,Xab];refine⟨fun ρ H=>∃(k:Nat),k<=x.before.length/\ρ 1=.sl (l.map aF)/\ρ 3=.rp (aC x) 0/\ρ 5=.rp (aF v) 0/\ρ 36=.sl (x.before.map dH)/\ρ 37=int (x.before.length:Nat)/\ρ 38=int k/\(∀q∈x.before.take k,((q.b != v.order)||(fV x.orders q.a).all (rN l))=true),fun ρ _=>x.before.length-aR (ρ 38),⟨0,Xaa _,by simp only[go_sem,h1,],h3,h5,by simp only[go_sem],by simp only[go_sem],(by simp only[go_sem];rfl),by simp⟩,?_⟩;rintro ρ H ⟨k,hk,Y,e3,e5,U,X,O,hz⟩;simp only[go_sem,X,O];refine aA (fun E=>?_) (fun J=>?_)
  ·have E:=ltB (by simpa using E);obtain⟨q,hq⟩:=aK E;have b1:=inB E;simp only[go_sem,U,O,aD hq,b1];refine aL fun ay ab=>?_
   simp only[go_sem];refine cJ ab (by simp[nP]) fun ad (av:ad ay=some (⟨169,2,[dH q]⟩)) N=>?_
   simp only[go_sem,e5,av];refine⟨by decide,aA (fun F=>?_) (fun F=>?_)⟩
   ·simp only[go_sem,Y,e3,e5,U,X,O,aQ k];exact⟨⟨k+1,E,rfl,aO (p:=fun q:Pair=>((q.b != v.order)||(fV x.orders q.a).all (rN l))=true) hq (by rw[show(q.b != v.order)=true from F];rfl) hz⟩,msr E⟩
   have F:(q.b != v.order)=false:=F;have hV:=vV x.orders q.a;simp only[go_sem,e3,av];refine⟨by decide,PC.use (vC x.orders q.a) ?_⟩;simp only[go_sem,Xab];have ap:((q.b != v.order)||(fV x.orders q.a).all (rN l))=(fV x.orders q.a).all (rN l):=by rw[F];rfl
   generalize al:fV x.orders q.a=V at *;refine⟨fun ρ _=>∃m:Nat,m<=V.length/\ρ 1=.sl (l.map aF)/\ρ 3=.rp (aC x) 0/\ρ 5=.rp (aF v) 0/\ρ 36=.sl (x.before.map dH)/\ρ 37=int x.before.length/\ρ 38=int (k:Nat)/\ρ 51=.sl (V.map aF)/\ρ 52=int V.length/\ρ 53=int (m:Nat)/\∀u∈V.take m,rN l u=true,fun ρ _=>V.length-aR (ρ 53),⟨0,Xaa _,by simp only[go_sem,Y,],by simp only[go_sem,e3,],by simp only[go_sem,e5,],by simp only[go_sem,U,],X,O,by simp only[go_sem],by simp only[go_sem],by simp only[go_sem];rfl,by simp⟩,?_⟩;rintro ρ H ⟨m,hm,Y,e3,e5,U,X,O,ar,am,ai,hy⟩;simp only[go_sem,am,ai];refine aA (fun Z=>?_) (fun ah=>?_)
   ·have Z:=ltB (by simpa using Z);obtain⟨u,hu⟩:=aK Z;have b2:=inB Z;simp only[go_sem,ar,ai,aD hu,b2];refine aL fun aw af=>?_
    simp only[go_sem];refine cJ af (by simp[dJ]) fun ac (ax:ac aw=some ((⟨112,2,[aF u]⟩:Row))) N=>?_
    simp only[go_sem,Y,ax];refine aG (Em l u hl) ?_;simp only[go_sem];apply aA <;> intro aa
    ·simp only[go_sem];refine bR ?_;have I:rN l u=false:=by unfold rN;rw[show decide (bJ l u<0)=true from aa];rfl
     rw[hr];unfold aaF;exact(List.all_eq_false.2 ⟨q,Xac hq,by rw[al,ap];rw[Xch];exact List.all_eq_false.2 ⟨u,Xac hu,by rw[I];simp⟩⟩).symm
    ·have I:rN l u=true:=by unfold rN;rw[show decide (bJ l u<0)=false from aa];rfl
     simp only[go_sem,Y,e3,e5,U,X,O,ar,am,ai,aQ m];exact⟨⟨m+1,Z,rfl,aO (p:=fun u:Visit=>rN l u=true) hu I hy⟩,by simp only[aN];omega⟩
   have ah:=geB hm (by simpa using ah);subst ah;rw[Xad]at hy;simp only[go_sem,Y,e3,e5,U,X,O,aQ k];exact⟨⟨k+1,E,rfl,aO (p:=fun q:Pair=>((q.b != v.order)||(fV x.orders q.a).all (rN l))=true) hq (by rw[al,ap];exact Xaj.2 hy) hz⟩,msr E⟩
  have J:=geB hk (by simpa using J);subst J;rw[Xad]at hz;simp only[go_sem];refine bR ?_;rw[hr];unfold aaF;exact(Xaj.2 hz).symm
 refine⟨fun ρ H=>∃(k:Nat),k<=W.length/\ρ 1=.sl (l.map aF)/\ρ 3=.rp (aC x) 0/\ρ 5=.rp (aF v) 0/\ρ 21=.sl (W.map aF)/\ρ 22=int (W.length:Nat)/\ρ 23=int k/\(∀u∈W.take k,eqV u v=false/\rN l u=true),fun ρ _=>W.length-aR (ρ 23),⟨0,Xaa _,rfl,rfl,rfl,rfl,rfl,(by simp only[go_sem];rfl),by simp⟩,?_⟩;rintro ρ H ⟨k,hk,Y,e3,e5,ak,ao,ag,hz⟩;simp only[go_sem,ao,ag];refine aA (fun E=>?_) (fun J=>?_)
 ·have E:=ltB (by simpa using E);obtain⟨u,hu⟩:=aK E;have b1:=inB E;have hp:=X9 (l:=l) (v:=v) hz;rw[tH hu]at hp;simp only[go_sem,ak,ag,aD hu,b1];refine aL fun i8 an=>?_
  simp only[go_sem];refine cJ an (by simp[dJ]) fun aj (R8:aj i8=some ((⟨112,2,[aF u]⟩:Row))) N=>?_
  simp only[go_sem,e5,R8];apply aA <;> intro F
  ·have F:eqV u v=true:=F;simp only[go_sem];refine hQ _ _ ⟨by simp only[go_sem,Y,],by simp only[go_sem,e3,],by simp only[go_sem,e5,],?_⟩;rw[hp];unfold BM;rw[Xca,F];rfl
  have F:eqV u v=false:=F;simp only[go_sem,Y,R8];refine aG (Em l u hl) ?_;simp only[go_sem];apply aA <;> intro aa
  ·have I:rN l u=false:=by unfold rN;rw[show decide (bJ l u<0)=true from aa];rfl
   simp only[go_sem];refine aq _ _ ?_;simp only[go_sem];refine bR ?_;have:BM W l v=false:=by rw[hp];unfold BM;rw[Xca,F];show(u::_).all (rN l)=false;rw[List.all_cons,I];rfl
   rw[hr,this];rfl
  ·have I:rN l u=true:=by unfold rN;rw[show decide (bJ l u<0)=false from aa];rfl
   simp only[go_sem,Y,e3,e5,ak,ao,ag,aQ k];exact⟨⟨k+1,E,rfl,aO (p:=fun u:Visit=>eqV u v=false/\rN l u=true) hu ⟨F,I⟩ hz⟩,msr E⟩
 have J:=geB hk (by simpa using J);subst J;have hp:=X9 (l:=l) (v:=v) hz;rw[Xcl]at hp;simp only[go_sem];exact hQ _ _ ⟨by simp only[go_sem,Y,],by simp only[go_sem,e3,],by simp only[go_sem,e5,],hp⟩
def NI(x:Instance)(i:Nat):Bool:=match x.orders[i]? with|some o=>o.off|none=>false
def Gx(x:Instance)(set:Int)(i:Nat):Bool:=(decide ((i:Int)>62)||(xR .and .i64 (shV .shr .i64 set (i:Nat)) 1 == 0))||NI x i
def Bg(x:Instance)(set:Int)(l:List Visit)(i:Nat):List Visit:=if Gx x set i=true then[]else(fV x.orders (i:Nat)).filter (rX x l)
def yF(x:Instance)(set:Int)(l:List Visit)(k:Nat):List Visit:=(List.range k).flatMap (Bg x set l)
def pI(x:Instance)(set:Int)(l:List Visit):List Visit:=yF x set l x.orders.length
def Gl(x:Instance)(set:Int)(l:List Visit)(k:Nat):yF x set l (k+1)=yF x set l k++Bg x set l k:=by unfold yF;rw[Xbi,Xcd];simp
def VQ(x:Instance)(set:Int)(l:List Visit)(i:Nat):(Bg x set l i).length<=2:=by
 unfold Bg;split
 ·simp
 ·exact Xam (Xcp _ _) (vV _ _)
def Ds(x:Instance)(set:Int)(l:List Visit):∀k,(yF x set l k).length<=2*k
 | 0=>Xaf _
 | k+1=>by rw[Gl,Xae];have:=Ds x set l k;have:=VQ x set l k;omega
abbrev KT(l:List Visit):Row:=⟨112,2,l.map aF⟩
def It(l:List Visit)(v:Visit):(⟨112,2,l.map aF++[aF v]⟩:Row)=KT (l++[v]):=by show _=(⟨112,2,(l++[v]).map aF⟩:Row);rw[Xal];rfl
def Sd{α:Type}{p:α->Bool}{l:List α}{k:Nat}{a:α}(h:l[k]?=some a):(l.take (k+1)).filter p=(l.take k).filter p++(if p a=true then[a]else[]):=by
 rw[bA h,List.filter_append]
 congr 1
 rw[List.filter_cons];rfl
def apW(x:Instance)(set:Int)(l:List Visit)(hl:l.length<=1048576)(hb:x.before.length<=1048576)(hx:x.orders.length<=100000):PC prog 176 [.agg (aC x),int set,.sl (l.map aF)] (.sl ((pI x set l).map aF)):=by
 refine pcb (fun t=>t == 7) func176 rfl rfl ?_;simp only[go_sem];refine fO fun j am aq (R:am j=some (KT [])) N=>?_
 simp only[go_sem];refine⟨fun ρ H=>∃(k:Nat) (j:Nat),k<=x.orders.length/\ρ 1=int set/\ρ 2=.sl (l.map aF)/\ρ 3=.rp (aC x) 0/\ρ 13=.sl (x.orders.map bH)/\ρ 14=int (x.orders.length:Nat)/\ρ 15=int k/\ρ 7=.os j/\H j=some (KT (yF x set l k)),fun ρ _=>x.orders.length-aR (ρ 15),⟨0,j,Xaa _,rfl,rfl,rfl,rfl,rfl,(by simp only[go_sem];rfl),rfl,R⟩,?_⟩;rintro ρ H ⟨k,j,hk,e1,e2,Z,O,J,E,e7,R⟩;simp only[go_sem,J,E];refine aA (fun I=>?_) (fun ab=>?_)
 ·have I:=ltB (by simpa using I);obtain⟨o,ho⟩:=aK I;have b1:=inB I;have hs:=Gl x set l k;have ao:=Ds x set l k;have an:NI x k=o.off:=by unfold NI;rw[ho]
  have ak:Gx x set k=((decide ((k:Int)>62)||(xR .and .i64 (shV .shr .i64 set (k:Nat)) 1 == 0))||o.off):=by unfold Gx;rw[an]
  have hA:Bg x set l k=if Gx x set k=true then[]else(fV x.orders (k:Nat)).filter (rX x l):=rfl
  rw[hA,ak]at hs;generalize yF x set l k=L at *;simp only[go_sem,O,E,aD ho,b1];refine aL fun i9 ag=>?_
  simp only[go_sem];refine cJ ag (by simp[uT]) fun ah (R9:ah i9=some ((⟨93,16,[bH o]⟩:Row))) N=>?_
  replace R:=(N R).2;simp only[go_sem,e1,R9];refine⟨fun _=>by omega,?_⟩;apply aA <;> intro hc
  ·rw[if_pos hc,Xak]at hs;simp only[go_sem,e1,e2,Z,O,J,E,e7,aQ k];refine⟨⟨k+1,j,I,rfl,rfl,?_⟩,msr I⟩;rw[hs];exact R
  rw[if_neg (by rw[hc];simp)]at hs;simp only[go_sem,Z,];refine aG (vC x.orders (k:Nat)) ?_;simp only[go_sem,Xab];have hV:=vV x.orders (k:Nat);generalize fV x.orders (k:Nat)=V at *;refine⟨fun ρ H=>∃m j:Nat,m<=V.length/\ρ 1=int set/\ρ 2=.sl (l.map aF)/\ρ 3=.rp (aC x) 0/\ρ 13=.sl (x.orders.map bH)/\ρ 14=int x.orders.length/\ρ 15=int (k:Nat)/\ρ 36=.sl (V.map aF)/\ρ 37=int V.length/\ρ 38=int (m:Nat)/\ρ 7=.os j/\H j=some (KT (L++(V.take m).filter (rX x l))),fun ρ _=>V.length-aR (ρ 38),⟨0,j,Xaa _,by simp only[go_sem,e1,],by simp only[go_sem,e2,],by simp only[go_sem,Z,],by simp only[go_sem,O,],by simp only[go_sem,J,],E,by simp only[go_sem],by simp only[go_sem],by simp only[go_sem];rfl,e7,by simpa using R⟩,?_⟩;rintro ρ H ⟨m,j,hm,e1,e2,Z,O,J,E,ac,ad,X,e7,R⟩;simp only[go_sem,ad,X];refine aA (fun U=>?_) (fun af=>?_)
  ·have U:=ltB (by simpa using U);obtain⟨u,hu⟩:=aK U;have b2:=inB U;have Y:=Sd (p:=rX x l) hu;have ap:((V.take m).filter (rX x l)).length<=2:=Xam (Xcp _ _) (by rw[Xas];omega);simp only[go_sem,ac,X,aD hu,b2];generalize (V.take m).filter (rX x l)=F at *;refine aL fun al aa=>?_
   simp only[go_sem];refine cJ aa (by simp[dJ]) fun ae (ai:ae al=some ((⟨112,2,[aF u]⟩:Row))) N=>?_
   replace R:=(N R).2;simp only[go_sem,e2,Z,ai];refine aG (anM x l u hl hb) ?_;simp only[go_sem];apply aA <;> intro aj
   ·rw[if_pos aj]at Y;simp only[go_sem,e7,ai];refine aZ R ⟨rfl,rfl⟩ (by simp only[go_sem]) (by simp;omega) (fun j2 ar=>?_);simp only[go_sem,e1,e2,Z,O,J,E,ac,ad,X,aQ m];refine⟨⟨m+1,j2,U,rfl,rfl,?_⟩,by simp only[aN];omega⟩;rw[Y,<-Xax,aB];exact congrArg some (It _ _)
   ·rw[if_neg (by rw[aj];simp),Xak]at Y;simp only[go_sem,e1,e2,Z,O,J,E,ac,ad,X,e7,aQ m];refine⟨⟨m+1,j,U,rfl,rfl,?_⟩,by simp only[aN];omega⟩;rw[Y];exact R
  have af:=geB hm (by simpa using af);subst af;rw[Xad]at R;simp only[go_sem,e1,e2,Z,O,J,E,e7,aQ k];refine⟨⟨k+1,j,I,rfl,rfl,?_⟩,msr I⟩;rw[hs];exact R
 have ab:=geB hk (by simpa using ab);subst ab;simp only[go_sem,e7];exact .row _ _ _ R (ConvE.refl _)
end Sq
end Go.Proofs.YtpagaknmdfgfkaaGreatDoor
section
namespace Go.Aw
open Go.RowKit
section
variable{P:Program}{f:FuncId}{args:List AV}{H:aH}{K:AV->aH->Prop}{r:AV}
def Sup(H H':aH):Prop:=∀k row,H k=some row->H' k=some row
def Pk(H:aH)(r:AV)(a:AV)(H':aH):Prop:=Sup H H'/\∃l:List Nat,(∀k,k∈l->H k=none)/\Conv (fun k=>if k∈l then H' k else none) a r
def bM.data(h:bM P f args H (Pk H r))(Y:K r H):bM P f args H K:=by
 intro S w vals X Z;refine(h S w vals X Z).mono fun e w' ⟨v,x,H',S',O,⟨hm,l,U,V⟩,I,hv,hg,hn⟩=>?_
 obtain⟨h1,J,h3⟩:=I.frz l;refine⟨v,r,H,S'.froze _,O,Y,h1.drop (fun k row F=>?_),V.rep h3 hv,hg.trans J,fun k _ h0=>h0⟩;have E:¬k∈l:=fun E=>by rw[U k E]at F;cases F
 show(if k∈l then none else H' k)=some row;rw[if_neg E];exact hm k row F
def LC(P:Program)(f:FuncId)(args:List AV)(H:aH)(r:AV):Prop:=∀K:AV->aH->Prop,K r H->bM P f args H K
def LC.use(h:LC P f args H r)(E:K r H):bM P f args H K:=h K E
def LC.body{fn:Func}{c:Code}(mt:Nat->Bool)(E:P.follows .mixedOrders=true)(O:P.funcs[f]?=some fn)(I:fn.body=some c)(F:CQ fn c args.length=true)
 (h:awp P (bM P) (fB P) mt c (KH P fn.results.toList (Pk H r)) (Fx args) H):LC P f args H r:=fun K J=>bM.data (bM.body mt E O I F h) J
def Sup.refl(H:aH):Sup H H:=fun _ _ h=>h
def Sup.upd{H H':aH}(h:Sup H H'){i:Nat}(hi:H i=none)(a:Option Row):Sup H (aM H' i a):=fun k row E=>by rw[aJ _ _ _ _ (fun e=>by subst e;rw[hi]at E;cases E)];exact h k row E
def Sup.none{H H':aH}(h:Sup H H'){i:Nat}(hi:H' i=none):H i=none:=by
 cases e:H i with
 | none=>rfl
 | some row=>rw[h i row e]at hi;cases hi
def Sup.eq{H A B:aH}(h:Sup H A)(e:A=B):Sup H B:=e▸h
def Sup.at{H H':aH}(h:Sup H H'){i:Nat}{row:Row}(hi:H i=some row):H' i=some row:=h i row hi
def Sup.ne{H H':aH}(h:Sup H H'){i j:Nat}{row:Row}(hi:H i=some row)(E:H j=.none):i≠j:=fun e=>by subst e;rw[hi]at E;cases E
def Pk.flat{H H':aH}(h:Sup H H')(r:AV):Pk H r r H':=⟨h,[],by simp,.refl r⟩
def qF{l:List Nat}{H E:aH}{K:Env->aH->Prop}{ρ:Env}(J:∀k,k∉l->E k=H k)(h:K ρ H):sH l H K ρ E:=fun _ F h1 I=>by
 have:F=H:=funext fun k=>by
  by_cases e:k∈l
  ·exact h1 k e
  ·rw[I k e,J k e]
 rw[this];exact h
def rU{l:List Nat}{H F:aH}{K:Env->aH->Prop}{ρ:Env}{i:Nat}{r:Option Row}(O:∀k,k∉l->F k=H k)(hi:i∉l)(h:K ρ (aM H i r)):sH l H K ρ (aM F i r):=fun _ I h1 J=>by
 have:I=aM H i r:=funext fun k=>by
  by_cases e:k∈l
  ·rw[h1 k e,aJ _ _ _ _ (fun E=>hi (by rw[<-E];exact e))]
  ·rw[J k e];by_cases E:k=i
   ·subst E;rw[aB,aB]
   ·rw[aJ _ _ _ _ E,aJ _ _ _ _ E,O k e]
 rw[this];exact h
def AJ{l:List Nat}{H I:aH}{K:Env->aH->Prop}{ρ:Env}{i:Nat}{a:Option Row}{b:Row}(J:∀k,k∉l->I k=H k)(hi:I i=none)(h:H i=none->K ρ (aM (aM H i a) i (some b))):sH l H K ρ (aM (aM I i a) i (some b)):=fun h0 U h1 O=>by
 have F:i∉l:=fun e=>by have:=h0 i e;rw[aB]at this;cases this
 have:U=aM (aM H i a) i (some b):=funext fun k=>by
  by_cases e:k∈l
  ·rw[h1 k e,aJ _ _ _ _ (fun E=>F (by rw[<-E];exact e)),aJ _ _ _ _ (fun E=>F (by rw[<-E];exact e))]
  ·rw[O k e];by_cases E:k=i
   ·subst E;rw[aB,aB]
   ·rw[aJ _ _ _ _ E,aJ _ _ _ _ E,aJ _ _ _ _ E,aJ _ _ _ _ E,J k e]
 rw[this];exact h ((J i F).symm.trans hi)
def QP{S:Sg}{w:World}:∀(A B:List AV) (l:List Value),bN S w (A++B) l->bN S w A (l.take A.length)
 | [],_,l,_=>by simp only[List.length_nil,List.take_zero,bN]
 | x::A,B,l,h=>by simp only[List.cons_append,bN]at h |-;obtain⟨u,t,rfl,h1,E⟩:=h;exact⟨u,t.take A.length,by rw[List.length_cons,List.take_succ_cons],h1,QP A B t E⟩
def LF{sz:Nat}:∀(es:List (List AV)) (i:Nat),(∀cs∈es,cs.length=sz)->i<=es.length->((es.take i).flatten).length=i*sz
 | _,0,_,_=>by simp
 | [],i+1,_,h=>by simp at h
 | c::es,i+1,hl,h=>by rw[List.take_succ_cons,List.flatten_cons,List.length_append,hl c (by simp),LF es i (fun cs E=>hl cs (by simp[E])) (by simpa using h),Nat.add_mul,Nat.one_mul,Nat.add_comm]
def St.cut{S:Sg}{w:World}{H:aH}(J:St S w H){k i c n:Nat}{r:Row}{ad:Option Addr}(hk:H k=some r)(hl:S.loc k=.slice ad n c)(hi:i<=r.es.length):
  St (S.addRow (.slice ad i c) r.sz) w (aM (aM H k none) S.N (some ⟨r.e,r.sz,r.es.take i⟩))/\Grow S w (S.addRow (.slice ad i c) r.sz) w:=by
 have hR:=J.rows k r hk;obtain⟨xs,ho,hr,h1⟩:=hR.sl hl;have Z:=S.le_addRow (.slice ad i c) r.sz;have F:(S.addRow (.slice ad i c) r.sz).loc S.N=.slice ad i c:=by simp[Sg.addRow]
 have O:∀k,k<S.N->(S.addRow (.slice ad i c) r.sz).loc k=S.loc k:=Z.loc;have aj:k≠S.N:=Nat.ne_of_lt hR.lt;have I:∀q row,q≠S.N->aM (aM H k none) S.N (some ⟨r.e,r.sz,r.es.take i⟩) q=some row->H q=some row/\q≠k:=fun q row hq h=>by
  rw[aJ _ _ _ _ hq]at h;by_cases e:q=k
  ·subst e;rw[aB]at h;cases h
  ·rw[aJ _ _ _ _ e]at h;exact⟨h,e⟩
 have Y:blk (.slice ad i c)=blk (S.loc k):=by rw[hl];cases ad <;> rfl
 refine⟨⟨J.ro_fz,J.fz_lt,?_,?_,?_,J.tabs.keep Z (iL.refl S w)⟩,⟨Z,fun _ h=>h,rfl,rfl,rfl,Nat.le_refl _,fun _ _=>rfl,fun _ h=>.inl h⟩⟩
 ·intro q row hq;by_cases e0:q=S.N
  ·subst e0;rw[aB]at hq;injection hq with hq;subst hq;have ag:=LF r.es i hR.len hi;have aa:(r.es.take i).length=i:=by rw[List.length_take];omega
   have al:xs.length=r.es.length*r.sz:=ho.1;have ac:i*r.sz<=r.es.length*r.sz:=Nat.mul_le_mul_right _ hi;refine⟨Nat.lt_succ_self _,by simp[Sg.addRow],hR.pos,fun cs ab=>hR.len cs (List.mem_of_mem_take ab),.inl ⟨xs.take (i*r.sz),⟨?_,?_⟩,?_,fun u hu=>h1 u (List.mem_of_mem_take hu)⟩⟩
   ·show(xs.take (i*r.sz)).length=(r.es.take i).length*r.sz;rw[List.length_take,aa];omega
   ·rw[F];simp only[aa];rcases ho.2 with⟨hv,hn⟩|⟨g,cap,cur,hv,hb,V,ak,ai,ab,ah⟩
    ·rw[hl]at hv;injection hv with e1 e2 e3;refine .inl ⟨?_,by omega⟩;rw[e1,e3,show i=0 by omega]
    ·rw[hl]at hv;injection hv with e1 e2 e3;refine .inr ⟨g,cap,cur,by rw[e1,e3],hb,V,by omega,ai,ab,?_⟩;rw[<-ah,List.take_take,Nat.min_eq_left ac]
   ·refine eT Z (iL.refl S w) _ _ ?_;have:r.es.flatten=(r.es.take i).flatten++(r.es.drop i).flatten:=by rw[<-List.flatten_append,List.take_append_drop]
    rw[this]at hr;have:=QP _ _ _ hr;rw[ag]at this;exact this
  ·obtain⟨X,_⟩:=I q row e0 hq;exact(J.rows q row X).keep Z (iL.refl S w) fun _ _=>rfl
 ·intro q row hq g V;by_cases e0:q=S.N
  ·subst e0;rw[F,Y]at V;exact J.free k r hk g V
  ·obtain⟨X,_⟩:=I q row e0 hq;rw[O q (J.rows q row X).lt]at V;exact J.free q row X g V
 ·intro q q' row E hq ae af g V U;by_cases e0:q=S.N
  ·subst e0;rw[F,Y]at V;obtain⟨X,h3⟩:=I q' E (Ne.symm af) ae;rw[O q' (J.rows q' E X).lt]at U;exact J.disj k q' r E hk X (Ne.symm h3) g V U
  ·obtain⟨X,h3⟩:=I q row e0 hq;rw[O q (J.rows q row X).lt]at V;by_cases e1:q'=S.N
   ·subst e1;rw[F,Y]at U;exact J.disj q k row r X hk h3 g V U
   ·obtain⟨h4,h5⟩:=I q' E e1 ae;rw[O q' (J.rows q' E h4).lt]at U;exact J.disj q q' row E X h4 af g V U
end
end Go.Aw
end
namespace Go.Proofs.YtpagaknmdfgfkaaGreatDoor
open Go.Aw Go.Aw.D Go.Proofs Ty
namespace Sq
open Go.Proofs.YtpagaknmdfgfkaaGreatDoor.Nu (ltB geB)
open Mv (bO bR aO)
def Ii(L:List Nat):Nat:=(L.map fun a=>2^62-a).sum
def Pz:∀{L:List Nat} {i u v:Nat},L[i]?=some u->u<v->v<=2^62->Ii (L.set i v)<Ii L
 | [],i,u,v,h,_,_=>by simp at h
 | a::L,0,u,v,h,h1,h2=>by
  have:a=u:=by simpa using h
  subst this;show(2^62-v)+(L.map fun a=>2^62-a).sum<(2^62-a)+(L.map fun a=>2^62-a).sum;omega
 | a::L,i+1,u,v,h,h1,h2=>by have:=Pz (L:=L) (i:=i) (by simpa using h) h1 h2;show(2^62-a)+Ii (L.set i v)<(2^62-a)+Ii L;omega
abbrev FL(L:List Nat):Row:=⟨3,1,L.map fun n=>[int (n:Nat)]⟩
def avJ:List AV->Nat
 | [.v (.int _ a)]=>2^62-a.toNat
 | _=>0
def aoA(x b:AV)(H:aH):Nat:=match x,b with
 | .os j,.v (.bool true)=>match H j with
   | some r=>(r.es.map avJ).sum+1
   | none=>0
 | _,_=>0
def acP{j:Nat}{H:aH}{L:List Nat}(h:H j=some (FL L)):aoA (.os j) (boo true) H=Ii L+1:=by unfold aoA;simp only[h,List.map_map];rfl
def arK{j:Nat}{H:aH}:aoA (.os j) (boo false) H=0:=rfl
def ajE{s:Int}{a:Int}(h:a∈cZ s):∃k:Nat,a=(k:Nat):=by unfold cZ qO at h;obtain⟨k,_,rfl⟩:=Xbe.1 h;exact⟨k,rfl⟩
def aeS(s:Int):(cZ s).length<=63:=by unfold cZ qO;rw[Xab];exact Xam (Xcp _ _) (by rw[Xbd];exact Xaf _)
end Sq
namespace Sq
structure Lab where
 ready:Int
 since:Int
 sheet:Sheet
def FM:Tm:=⟨0,0,0,false⟩
def dB(s:Sheet)(k:Nat)(b:Bool)(d:Int):Sheet:=match k with
 | 0=>{ s with rest:=b,depart:=d }
 | j+1=>{ s with times:=s.times.set j ⟨(s.times.getD j FM).arrive,(s.times.getD j FM).begin_,d,b⟩ }
def gZ(t:VType)(l:Lab)(b:Bool):Int:=if b=true then W (l.ready+t.rest)else l.ready
def nS(l:Lab)(b:Bool):Int:=if b=true then 0 else l.since
def goL(x:Instance)(t:VType)(p q:Int)(l:Lab)(b:Bool):Int×Int×Int:=fP x.net t.profile p q (gZ t l b)
def mP(x:Instance)(t:VType)(p q:Int)(l:Lab)(b:Bool):Int:=W (W (nS l b+(goL x t p q l b).1)-gZ t l b)
def jH(x:Instance)(t:VType)(p:Int)(s:Stop)(k:Nat)(l:Lab)(b:Bool):Sheet:=
 { dB l.sheet k b (gZ t l b)with
   times:=(dB l.sheet k b (gZ t l b)).times++[⟨(goL x t p s.place l b).1,eV (goL x t p s.place l b).1 s.start,0,false⟩]
   miles:=W (l.sheet.miles+(goL x t p s.place l b).2.1) }
def pP(x:Instance)(t:VType)(p:Int)(s:Stop)(k:Nat)(l:Lab)(b:Bool):Except Int Lab:=
 if((goL x t p s.place l b).2.2 != 0)=true then .error 12
 else if eV (goL x t p s.place l b).1 s.start>s.close then .error 14
 else if mP x t p s.place l b>t.drive then .error 16
 else .ok ⟨W (eV (goL x t p s.place l b).1 s.start+s.service),mP x t p s.place l b,jH x t p s k l b⟩
def JA(x:Instance)(t:VType)(p:Int)(k:Nat)(l:Lab)(b:Bool):Sheet:=
 { dB l.sheet k b (gZ t l b)with
   end_:=(goL x t p t.dst l b).1
   miles:=W (l.sheet.miles+(goL x t p t.dst l b).2.1) }
def rS(x:Instance)(t:VType)(p:Int)(k:Nat)(l:Lab)(b:Bool):Except Int Lab:=
 if((goL x t p t.dst l b).2.2 != 0)=true then .error 12
 else if(goL x t p t.dst l b).1>t.close then .error 15
 else if mP x t p t.dst l b>t.drive then .error 16
 else .ok ⟨(goL x t p t.dst l b).1,mP x t p t.dst l b,JA x t p k l b⟩
def Ev(x:Instance)(t:VType):List Visit->List Bool->Int->Nat->Lab->Except Int Lab
 | [],b::_,p,k,l=>rS x t p k l b
 | v::vs,b::bs,p,k,l=>match pP x t p (bI x v).1 k l b with
   | .error e=>.error e
   | .ok l'=>Ev x t vs bs (bI x v).1.place (k+1) l'
 | _,[],_,_,l=>.ok l
def gI(t:VType)(r:Route):Lab:=⟨eV t.start r.start,0,aX⟩
def oE(s:Sheet)(k:Nat)(b:Bool)(d:Int):(dB s k b d).miles=s.miles/\(dB s k b d).end_=s.end_/\(dB s k b d).times.length=s.times.length:=by cases k <;> simp[dB]
def yS(t:VType)(p:Int)(l:Lab)(m:Int)(b:Bool):lF t ⟨p,l.ready,l.since,m⟩ b=⟨p,gZ t l b,nS l b,m⟩:=by unfold lF gZ nS;cases b <;> rfl
def X2{a s c:Int}(h:s<=c):(eV a s>c)↔a>c:=by unfold eV;split <;> omega
def Md{x:Instance}{t:VType}{p:Int}{l:Lab}{b:Bool}{q c E:Int}:
  gL x t ⟨p,gZ t l b,nS l b,l.sheet.miles⟩ q c E =
   if((goL x t p q l b).2.2 != 0)=true then(⟨p,gZ t l b,nS l b,l.sheet.miles⟩,12)
   else if(goL x t p q l b).1>c then(⟨p,gZ t l b,nS l b,l.sheet.miles⟩,E)
   else if mP x t p q l b>t.drive then(⟨p,gZ t l b,nS l b,l.sheet.miles⟩,16)
   else(⟨q,(goL x t p q l b).1,mP x t p q l b,W (l.sheet.miles+(goL x t p q l b).2.1)⟩,0):=by
 unfold gL goL mP;by_cases h:(fP x.net t.profile p q (gZ t l b)).2.2=0
 ·simp only[h];rfl
 ·have:((fP x.net t.profile p q (gZ t l b)).2.2 == 0)=false:=by simpa using h
  have F:((fP x.net t.profile p q (gZ t l b)).2.2 != 0)=true:=by simpa using h
  simp only[this,F];rfl
def RV(x:Instance)(t:VType):∀(vs:List Visit) (bs:List Bool) (b:Bool) (p:Int) (k:Nat) (l:Lab) (dr:List Int),bs.length=vs.length->l.sheet.times.length=k ->
   (∀v∈vs,(bI x v).1.start<=(bI x v).1.close) ->
   match (vs.zip bs).foldlM (kX x t) (lF t ⟨p,l.ready,l.since,l.sheet.miles⟩ b,dr,(dB l.sheet k b (gZ t l b)).times)with
   | .error e=>Ev x t vs (b::bs) p k l=.error e
   | .ok a=>if((gL x t a.1 t.dst t.close 15).2 != 0)=true then Ev x t vs (b::bs) p k l=.error (gL x t a.1 t.dst t.close 15).2
     else ∃l',Ev x t vs (b::bs) p k l=.ok l'/\l'.sheet=⟨(dB l.sheet k b (gZ t l b)).rest,(dB l.sheet k b (gZ t l b)).depart,a.2.2,(gL x t a.1 t.dst t.close 15).1.time,(gL x t a.1 t.dst t.close 15).1.miles⟩
 | [],bs,b,p,k,l,dr,hb,hk,_=>by
   simp only[List.zip_nil_left,List.foldlM_nil];show if((gL x t (lF t ⟨p,l.ready,l.since,l.sheet.miles⟩ b) t.dst t.close 15).2 != 0)=true then _ else _
   rw[yS,Md];unfold Ev rS;by_cases h1:((goL x t p t.dst l b).2.2 != 0)=true
   . simp only[h1,if_true];exact(if_pos (by decide)).mpr trivial
   by_cases I:(goL x t p t.dst l b).1>t.close
   . simp only[h1,I,if_true,if_false,Xaz];exact(if_pos (by decide)).mpr trivial
   by_cases X:mP x t p t.dst l b>t.drive
   . simp only[h1,I,X,if_true,if_false,Xaz];exact(if_pos (by decide)).mpr trivial
   . simp only[h1,I,X,if_false,Xaz];refine(if_neg (by decide)).mpr ⟨_,rfl,?_⟩;unfold JA;rfl
 | v::vs,[],b,p,k,l,dr,hb,_,_=>by simp at hb
 | v::vs,b1::bs,b,p,k,l,dr,hb,hk,hs=>by
   have O:=hs v (by simp);rw[List.zip_cons_cons,List.foldlM_cons];unfold Ev;have E:jV x t (lF t ⟨p,l.ready,l.since,l.sheet.miles⟩ b,dr,(dB l.sheet k b (gZ t l b)).times) v=_:=(congrArg (fun s=>gL x t s (bI x v).1.place (bI x v).1.close 14) (yS t p l l.sheet.miles b)).trans Md;generalize Y:(bI x v).1=s at E O |-;unfold pP;by_cases h1:((goL x t p s.place l b).2.2 != 0)=true
   . simp only[h1,if_true]at E |-;unfold kX;rw[E];rfl
   by_cases I:(goL x t p s.place l b).1>s.close
   . have F:=(X2 O).2 I;simp only[h1,I,F,if_true,if_false,Xaz]at E |-;unfold kX;rw[E];rfl
   have F:¬eV (goL x t p s.place l b).1 s.start>s.close:=fun h=>I ((X2 O).1 h)
   by_cases X:mP x t p s.place l b>t.drive
   . simp only[h1,I,F,X,if_true,if_false,Xaz]at E |-;unfold kX;rw[E];rfl
   simp only[h1,I,F,X,if_false,Xaz]at E |-;have e1 : kX x t (lF t ⟨p, l.ready, l.since, l.sheet.miles⟩ b, dr, (dB l.sheet k b (gZ t l b)).times) (v, b1) =
       .ok (mF x t (lF t ⟨p,l.ready,l.since,l.sheet.miles⟩ b,dr,(dB l.sheet k b (gZ t l b)).times) (v,b1)):=by
     unfold kX;rw[E];rfl
   rw[e1];show match (vs.zip bs).foldlM (kX x t) (mF x t (lF t ⟨p,l.ready,l.since,l.sheet.miles⟩ b,dr,(dB l.sheet k b (gZ t l b)).times) (v,b1))with
     | .error e=>_
     | .ok a=>_
   have Z:(jH x t p s k l b).times.length=k+1:=by simp only[jH,Xae,Xah,List.length_nil,(oE _ _ _ _).2.2,hk]
   have ih:=RV x t vs bs b1 s.place (k+1) ⟨W (eV (goL x t p s.place l b).1 s.start+s.service),mP x t p s.place l b,jH x t p s k l b⟩ (dr++[(jV x t (lF t ⟨p,l.ready,l.since,l.sheet.miles⟩ b,dr,(dB l.sheet k b (gZ t l b)).times) v).1.driven])
     (by simpa using hb) Z (fun u hu=>hs u (by simp[hu]))
   have e2 : mF x t (lF t ⟨p, l.ready, l.since, l.sheet.miles⟩ b, dr, (dB l.sheet k b (gZ t l b)).times) (v, b1) =
       (lF t ⟨s.place,W (eV (goL x t p s.place l b).1 s.start+s.service),mP x t p s.place l b,(jH x t p s k l b).miles⟩ b1,dr++[(jV x t (lF t ⟨p,l.ready,l.since,l.sheet.miles⟩ b,dr,(dB l.sheet k b (gZ t l b)).times) v).1.driven],
         (dB (jH x t p s k l b) (k+1) b1 (gZ t ⟨W (eV (goL x t p s.place l b).1 s.start+s.service),mP x t p s.place l b,jH x t p s k l b⟩ b1)).times):=by
     unfold mF;rw[Y];simp only[E];have J:(dB l.sheet k b (gZ t l b)).times.length=k:=by rw[(oE _ _ _ _).2.2,hk]
     have et:(lF t (D5 s ⟨s.place,(goL x t p s.place l b).1,mP x t p s.place l b,W (l.sheet.miles+(goL x t p s.place l b).2.1)⟩) b1)=⟨s.place,gZ t ⟨W (eV (goL x t p s.place l b).1 s.start+s.service),mP x t p s.place l b,jH x t p s k l b⟩ b1,nS ⟨W (eV (goL x t p s.place l b).1 s.start+s.service),mP x t p s.place l b,jH x t p s k l b⟩ b1,W (l.sheet.miles+(goL x t p s.place l b).2.1)⟩:=by exact yS t s.place ⟨W (eV (goL x t p s.place l b).1 s.start+s.service),mP x t p s.place l b,jH x t p s k l b⟩ _ b1
     rw[et];rw[yS t s.place ⟨W (eV (goL x t p s.place l b).1 s.start+s.service),mP x t p s.place l b,jH x t p s k l b⟩ _ b1];have U:((dB l.sheet k b (gZ t l b)).times++[(⟨(goL x t p s.place l b).1,eV (goL x t p s.place l b).1 s.start,0,false⟩:Tm)]).getD k FM=⟨(goL x t p s.place l b).1,eV (goL x t p s.place l b).1 s.start,0,false⟩:=by rw[List.getD_eq_getElem?_getD,List.getElem?_append_right (by omega),J];simp
     have hT:(jH x t p s k l b).times=(dB l.sheet k b (gZ t l b)).times++[⟨(goL x t p s.place l b).1,eV (goL x t p s.place l b).1 s.start,0,false⟩]:=rfl;have V:∀d,(dB (jH x t p s k l b) (k+1) b1 d).times=(dB l.sheet k b (gZ t l b)).times++[⟨(goL x t p s.place l b).1,eV (goL x t p s.place l b).1 s.start,d,b1⟩]:=fun d=>by show(jH x t p s k l b).times.set k ⟨((jH x t p s k l b).times.getD k FM).arrive,((jH x t p s k l b).times.getD k FM).begin_,d,b1⟩=_;rw[hT,U,List.set_append_right _ _ (by omega),J];simp
     rw[V];rfl
   rw[e2];have er : (dB (jH x t p s k l b) (k + 1) b1 (gZ t ⟨W (eV (goL x t p s.place l b).1 s.start + s.service), mP x t p s.place l b, jH x t p s k l b⟩ b1)).rest = (dB l.sheet k b (gZ t l b)).rest /\
       (dB (jH x t p s k l b) (k+1) b1 (gZ t ⟨W (eV (goL x t p s.place l b).1 s.start+s.service),mP x t p s.place l b,jH x t p s k l b⟩ b1)).depart=(dB l.sheet k b (gZ t l b)).depart:=⟨rfl,rfl⟩
   rw[er.1,er.2]at ih;exact ih
def asR{x:Instance}{r:Route}{t:VType}{b:Bool}{bs:List Bool}(Z:bW x r=true)(Y:x.types[r.type.toNat]?=some t)(J:bs.length=r.visits.length)
  (hs:∀v∈r.visits,(bI x v).1.start<=(bI x v).1.close):
  match Ev x t r.visits (b::bs) t.src 0 (gI t r)with
  | .error e=>(fF x r (b::bs)).1=aX/\(fF x r (b::bs)).2.2=e
  | .ok l=>(fF x r (b::bs)).1=l.sheet/\(fF x r (b::bs)).2.2=0:=by
 have X:fF x r (b::bs)=NZ x r (b::bs) t b:=by
  unfold fF;rw[if_neg,Y]
  ·rfl
  ·rw[Z];simp[J]
 rw[X];have h:=RV x t r.visits bs b t.src 0 (gI t r) [] J rfl hs;unfold NZ;show match Ev x t r.visits (b::bs) t.src 0 (gI t r)with
  | .error e=>(match (r.visits.zip bs).foldlM (kX x t) (oJ r t b,[],[])with| .error e=>(aX,[],e)| .ok a=>qB x t b (oJ r t b) a:Sheet×List Int×Int).1=aX/\_
  | .ok l=>_
 have O:(lF t ⟨t.src,(gI t r).ready,(gI t r).since,(gI t r).sheet.miles⟩ b,([]:List Int),(dB (gI t r).sheet 0 b (gZ t (gI t r) b)).times)=(oJ r t b,[],[]):=rfl;rw[O]at h;cases E:(r.visits.zip bs).foldlM (kX x t) (oJ r t b,[],[])with
 | error e=>rw[E]at h;have h:Ev x t r.visits (b::bs) t.src 0 (gI t r)=.error e:=h;rw[h];exact⟨rfl,by show(match (r.visits.zip bs).foldlM (kX x t) (oJ r t b,[],[])with| .error e=>(aX,[],e)| .ok a=>qB x t b (oJ r t b) a:Sheet×List Int×Int).2.2=e;rw[E]⟩
 | ok a=>
  rw[E]at h;simp only at h;by_cases I:((gL x t a.1 t.dst t.close 15).2 != 0)=true
  ·rw[if_pos I]at h;rw[h];have F:qB x t b (oJ r t b) a=(aX,[],(gL x t a.1 t.dst t.close 15).2):=if_pos I;refine⟨?_,?_⟩
   ·show(qB x t b (oJ r t b) a).1=_;rw[F]
   ·show(match (r.visits.zip bs).foldlM (kX x t) (oJ r t b,[],[])with| .error e=>(aX,[],e)| .ok a=>qB x t b (oJ r t b) a:Sheet×List Int×Int).2.2=_;rw[E];show(qB x t b (oJ r t b) a).2.2=_;rw[F]
  ·rw[if_neg I]at h;obtain⟨l',h1,U⟩:=h;rw[h1];have F:qB x t b (oJ r t b) a=_:=if_neg I;have V:(oJ r t b).time=gZ t (gI t r) b:=by have:=yS t t.src (gI t r) 0 b;exact congrArg St8.time this
   refine⟨?_,?_⟩
   ·show(match (r.visits.zip bs).foldlM (kX x t) (oJ r t b,[],[])with| .error e=>(aX,[],e)| .ok a=>qB x t b (oJ r t b) a:Sheet×List Int×Int).1=_;rw[E];show(qB x t b (oJ r t b) a).1=_;rw[F,U];show(⟨b,(oJ r t b).time,a.2.2,_,_⟩:Sheet)=_;rw[V];rfl
   ·show(match (r.visits.zip bs).foldlM (kX x t) (oJ r t b,[],[])with| .error e=>(aX,[],e)| .ok a=>qB x t b (oJ r t b) a:Sheet×List Int×Int).2.2=_;rw[E];show(qB x t b (oJ r t b) a).2.2=_;rw[F]
structure GoB(x:Instance)(t:VType):Prop where
 arrive:∀p q d,0<=d/\d<=12288->(fP x.net t.profile p q d).2.2=0->0<=(fP x.net t.profile p q d).1
 rest:0<=t.rest/\t.rest<=4096
 close:t.close<=4096
 drive:t.drive<=4096
structure StopB(s:Stop):Prop where
 start:0<=s.start
 close:s.close<=4096
 service:0<=s.service/\s.service<=4096
structure LabB(l:Lab)(k:Nat):Prop where
 ready:0<=l.ready/\l.ready<=8192
 since: -(12288*(k:Int))<=l.since/\l.since<=4096
def oW(l m:Lab):Prop:=l.ready=m.ready/\l.since<=m.since
def oW.refl(l:Lab):oW l l:=⟨rfl,Xbp _⟩
def oW.trans{a b c:Lab}(h:oW a b)(E:oW b c):oW a c:=⟨h.1.trans E.1,Int.le_trans h.2 E.2⟩
def apM{n:Int}(h: -9223372036854775808<=n/\n<=9223372036854775807):W n=n:=aW h
def M1{t:VType}{l:Lab}{k:Nat}(F:0<=t.rest/\t.rest<=4096)(E:LabB l k)(b:Bool):0<=gZ t l b/\gZ t l b<=12288:=by
 have:=E.ready;unfold gZ;cases b with
 | false=>exact⟨this.1,by simp;omega⟩
 | true=>rw[if_pos rfl,apM (by omega)];omega
def L1{l:Lab}{k:Nat}(E:LabB l k)(b:Bool): -(12288*(k:Int))<=nS l b/\nS l b<=4096:=by
 unfold nS;cases b with
 | false=>exact E.since
 | true=>rw[if_pos rfl];omega
def DV{x:Instance}{t:VType}{p q:Int}{l:Lab}{b:Bool}{k:Nat}(O:k<=1048576)(E:GoB x t)(F:LabB l k)(h0:(goL x t p q l b).2.2=0)(h1:(goL x t p q l b).1<=4096):
  mP x t p q l b=nS l b+(goL x t p q l b).1-gZ t l b/\0<=(goL x t p q l b).1:=by
 have I:=M1 E.rest F b;have U:=L1 F b;have J:0<=(goL x t p q l b).1:=E.arrive p q _ I h0;unfold mP;rw[apM (n:=nS l b+(goL x t p q l b).1) (by omega),apM (by omega)];exact⟨rfl,J⟩
def Xw(a s:Int):a<=eV a s/\s<=eV a s:=by unfold eV;split <;> omega
def JU{x:Instance}{t:VType}{p:Int}{s:Stop}{k j:Nat}{l l':Lab}{b:Bool}(h:pP x t p s j l b=.ok l'):
  (goL x t p s.place l b).2.2=0/\eV (goL x t p s.place l b).1 s.start<=s.close/\mP x t p s.place l b<=t.drive /\
   l'=⟨W (eV (goL x t p s.place l b).1 s.start+s.service),mP x t p s.place l b,jH x t p s j l b⟩:=by
 unfold pP at h;split at h
 ·cases h
 ·rename_i h1;split at h
  ·cases h
  ·rename_i E;split at h
   ·cases h
   ·rename_i F;injection h with h;exact⟨by simpa using h1,by omega,by omega,h.symm⟩
def Sx{x:Instance}{t:VType}{p:Int}{j:Nat}{l l':Lab}{b:Bool}(h:rS x t p j l b=.ok l'):
  (goL x t p t.dst l b).2.2=0/\(goL x t p t.dst l b).1<=t.close/\mP x t p t.dst l b<=t.drive /\
   l'=⟨(goL x t p t.dst l b).1,mP x t p t.dst l b,JA x t p j l b⟩:=by
 unfold rS at h;split at h
 ·cases h
 ·rename_i h1;split at h
  ·cases h
  ·rename_i E;split at h
   ·cases h
   ·rename_i F;injection h with h;exact⟨by simpa using h1,by omega,by omega,h.symm⟩
def alX{x:Instance}{t:VType}{p:Int}{s:Stop}{k j:Nat}{l l':Lab}{b:Bool}(J:k<=1048576)(E:GoB x t)(I:StopB s)(F:LabB l k)(h:pP x t p s j l b=.ok l'):LabB l' (k+1):=by
 obtain⟨h0,h1,X,rfl⟩:=JU (k:=k) h;have hi:=Xw (goL x t p s.place l b).1 s.start;have Y:=I.close;have h3:=I.start;have Z:=I.service;obtain⟨e,ha⟩:=DV J E F h0 (by omega);have V:=M1 E.rest F b;have U:=L1 F b;have O:=E.drive;refine⟨?_,?_⟩
 ·show 0<=W _/\W _<=8192;rw[apM (by omega)];omega
 ·show _<=mP x t p s.place l b/\mP x t p s.place l b<=4096;refine⟨?_,by omega⟩;rw[e];push_cast;omega
def XP{x:Instance}{t:VType}{p q:Int}{l m:Lab}{b:Bool}(h:l.ready=m.ready):goL x t p q l b=goL x t p q m b/\gZ t l b=gZ t m b:=by
 have e:gZ t l b=gZ t m b:=by unfold gZ;rw[h]
 exact⟨by unfold goL;rw[e],e⟩
def Jc{x:Instance}{t:VType}{p:Int}{s:Stop}{k j:Nat}{l m O:Lab}{b:Bool}(J:k<=1048576)(V:GoB x t)(hs:StopB s)(hl:LabB l k)(hm:LabB m k)(U:oW l m)(h:pP x t p s j m b=.ok O):
  ∃l',pP x t p s j l b=.ok l'/\oW l' O:=by
 obtain⟨h0,h1,h2,rfl⟩:=JU (k:=k) h;obtain⟨E,Y⟩:=XP (x:=x) (t:=t) (p:=p) (q:=s.place) (b:=b) U.1;have hi:=Xw (goL x t p s.place m b).1 s.start;have hc:=hs.close;have X:=(DV (p:=p) (q:=s.place) (b:=b) J V hm h0 (by omega)).1;have Z:=(DV (p:=p) (q:=s.place) (b:=b) J V hl (by rw[E];exact h0) (by rw[E];omega)).1;have I:nS l b<=nS m b:=by
  unfold nS;cases b with
  | false=>exact U.2
  | true=>exact Xbp _
 have F:mP x t p s.place l b<=mP x t p s.place m b:=by rw[X,Z,E,Y];omega
 refine⟨⟨W (eV (goL x t p s.place l b).1 s.start+s.service),mP x t p s.place l b,jH x t p s j l b⟩,?_,?_,F⟩
 ·unfold pP;rw[E,if_neg (by rw[h0];simp),if_neg (by omega),if_neg (by omega)]
 ·show W _=W _;rw[E]
def Ie{x:Instance}{t:VType}{p:Int}{k j:Nat}{l m U:Lab}{b:Bool}(O:k<=1048576)(I:GoB x t)(hl:LabB l k)(hm:LabB m k)(V:oW l m)(h:rS x t p j m b=.ok U):
  ∃l',rS x t p j l b=.ok l'/\oW l' U:=by
 obtain⟨h0,h1,h2,rfl⟩:=Sx h;obtain⟨E,Y⟩:=XP (x:=x) (t:=t) (p:=p) (q:=t.dst) (b:=b) V.1;have hc:=I.close;have X:=(DV (p:=p) (q:=t.dst) (b:=b) O I hm h0 (by omega)).1;have Z:=(DV (p:=p) (q:=t.dst) (b:=b) O I hl (by rw[E];exact h0) (by rw[E];omega)).1;have J:nS l b<=nS m b:=by
  unfold nS;cases b with
  | false=>exact V.2
  | true=>exact Xbp _
 have F:mP x t p t.dst l b<=mP x t p t.dst m b:=by rw[X,Z,E,Y];omega
 refine⟨⟨(goL x t p t.dst l b).1,mP x t p t.dst l b,JA x t p j l b⟩,?_,?_,F⟩
 ·unfold rS;rw[E,if_neg (by rw[h0];simp),if_neg (by omega),if_neg (by omega)]
 ·show(goL x t p t.dst l b).1=_;rw[E]
def eU(fixed:List Bool)(k:Nat):List Bool:=if k<fixed.length then[fixed.getD k false]else[false,true]
def iF(x:Instance)(t:VType)(r:Route):Nat->Int
 | 0=>t.src
 | k+1=>match r.visits[k]? with|some v=>(bI x v).1.place|none=>0
def gH(x:Instance)(t:VType)(r:Route)(k:Nat)(l:Lab)(b:Bool):Except Int Lab:=match r.visits[k]? with
 | some v=>pP x t (iF x t r k) (bI x v).1 k l b
 | none=>rS x t (iF x t r k) k l b
def kR(x:Instance)(t:VType)(r:Route):List Bool->Nat->Lab->Except Int Lab
 | [],_,l=>.ok l
 | b::bs,k,l=>match gH x t r k l b with
   | .error e=>.error e
   | .ok l'=>kR x t r bs (k+1) l'
def agB{x:Instance}{t:VType}{r:Route}:∀(bs:List Bool) (k:Nat) (l:Lab),bs.length+k=r.visits.length+1->k<=r.visits.length->Ev x t (r.visits.drop k) bs (iF x t r k) k l=kR x t r bs k l
 | [],k,l,h,hk=>by simp at h;omega
 | b::bs,k,l,h,hk=>by
  by_cases E:k<r.visits.length
  ·obtain⟨v,F⟩:=aK E;have J:r.visits.drop k=v::r.visits.drop (k+1):=by
    rw[Xci E];have:r.visits[k]=v:=by rw[List.getElem?_eq_getElem E]at F;exact Option.some.inj F
    rw[this]
   rw[J];unfold Ev kR gH;rw[F];have ih:=fun l'=>agB (x:=x) (t:=t) (r:=r) bs (k+1) l' (by simp at h;omega) (by omega)
   have U:iF x t r (k+1)=(bI x v).1.place:=by show(match r.visits[k]? with|some v=>(bI x v).1.place|none=>0)=_;rw[F]
   rw[U]at ih;show(match pP x t (iF x t r k) (bI x v).1 k l b with| .error e=>Except.error e| .ok l'=>Ev x t (r.visits.drop (k+1)) bs (bI x v).1.place (k+1) l')=(match pP x t (iF x t r k) (bI x v).1 k l b with| .error e=>Except.error e| .ok l'=>kR x t r bs (k+1) l');cases pP x t (iF x t r k) (bI x v).1 k l b with
   | error e=>rfl
   | ok l'=>exact ih l'
  ·have O:k=r.visits.length:=by omega
   have I:bs=[]:=by
    have:bs.length=0:=by simp at h;omega
    exact Xcz this
   subst I;rw[List.drop_eq_nil_of_le (by omega)];unfold Ev kR gH;rw[List.getElem?_eq_none (by omega)];show rS x t (iF x t r k) k l b=match rS x t (iF x t r k) k l b with| .error e=>Except.error e| .ok l'=>kR x t r [] (k+1) l'
   cases rS x t (iF x t r k) k l b with
   | error e=>rfl
   | ok l'=>rfl
def qG{x:Instance}{t:VType}{r:Route}:∀(bs:List Bool) (b:Bool) (k:Nat) (l:Lab),kR x t r (bs++[b]) k l=match kR x t r bs k l with
  | .error e=>.error e
  | .ok l'=>gH x t r (k+bs.length) l' b
 | [],b,k,l=>by show(match gH x t r k l b with| .error e=>Except.error e| .ok l'=>kR x t r [] (k+1) l')=gH x t r (k+0) l b;cases gH x t r k l b <;> rfl
 | c::bs,b,k,l=>by
  show(match gH x t r k l c with| .error e=>Except.error e| .ok l'=>kR x t r (bs++[b]) (k+1) l')=match (match gH x t r k l c with| .error e=>Except.error e| .ok l'=>kR x t r bs (k+1) l')with| .error e=>Except.error e| .ok l'=>gH x t r (k+(bs.length+1)) l' b
  cases gH x t r k l c with
  | error e=>rfl
  | ok l'=>show kR x t r (bs++[b]) (k+1) l'=_;rw[qG bs b (k+1) l',show k+1+bs.length=k+(bs.length+1)by omega]
def vF(m l:Lab):Bool:=m.ready == l.ready&&decide (m.since<=l.since)
def IY{m l:Lab}:vF m l=true↔oW m l:=by unfold vF oW;simp
def wM(out:List Lab)(e:Except Int Lab):List Lab:=match e with
 | .error _=>out
 | .ok l=>if out.any (vF · l)=true then out else out++[l]
def Bs(x:Instance)(t:VType)(r:Route)(ls:List Lab)(k:Nat):List Lab:=(ls.flatMap fun l=>(eU r.rests k).map fun b=>gH x t r k l b).foldl wM []
def dpL(x:Instance)(t:VType)(r:Route):Nat->List Lab
 | 0=>[gI t r]
 | k+1=>Bs x t r (dpL x t r k) k
def Cd:∀(es:List (Except Int Lab)) (out:List Lab),
  (∀l∈es.foldl wM out,l∈out\/.ok l∈es)/\(∀l∈out,l∈es.foldl wM out)/\(∀l,.ok l∈es->∃m∈es.foldl wM out,oW m l)
 | [],out=>⟨fun l h=>.inl h,fun l h=>h,fun l h=>by cases h⟩
 | e::es,out=>by
  obtain⟨h1,U,X⟩:=Cd es (wM out e);have F:∀l∈out,l∈wM out e:=fun l E=>by
   unfold wM;split
   ·exact E
   ·split
    ·exact E
    ·exact Xby _ E
  refine⟨fun l E=>?_,fun l E=>U l (F l E),fun l E=>?_⟩
  ·rcases h1 l E with h|h
   ·unfold wM at h;split at h
    ·exact .inl h
    ·split at h
     ·exact .inl h
     ·rcases Xba.1 h with h|h
      ·exact .inl h
      ·simp at h;subst h;exact .inr (by simp)
   ·exact .inr (by simp[h])
  ·rcases Xbg.1 E with h|h
   ·subst h;have J:∃m∈wM out (.ok l),oW m l:=by
     unfold wM;simp only;split
     ·rename_i V;obtain⟨m,I,O⟩:=Xao.1 V;exact⟨m,I,IY.1 O⟩
     ·exact⟨l,by simp,oW.refl l⟩
    obtain⟨m,I,O⟩:=J;exact⟨m,U m I,O⟩
   ·exact X l h
def Iu(fixed bs:List Bool):Prop:=∀(i:Nat) (b:Bool),bs[i]?=some b->b∈eU fixed i
def JZ{fixed bs:List Bool}{b:Bool}:Iu fixed (bs++[b])↔Iu fixed bs/\b∈eU fixed bs.length:=by
 constructor
 ·intro h;refine⟨fun i c E=>h i c ?_,h bs.length b (by simp)⟩;have:=(List.getElem?_eq_some_iff.1 E).1;rw[List.getElem?_append_left this];exact E
 ·rintro⟨h1,I⟩ i c E;by_cases hi:i<bs.length
  ·rw[List.getElem?_append_left hi]at E;exact h1 i c E
  ·rw[List.getElem?_append_right (by omega)]at E;by_cases J:i=bs.length
   ·subst J;simp at E;subst E;exact I
   ·have:i-bs.length≠0:=by omega
    cases F:i-bs.length with
    | zero=>omega
    | succ n=>rw[F]at E;simp at E
structure RouteB(x:Instance)(t:VType)(r:Route):Prop where
 go:GoB x t
 stop:∀v∈r.visits,StopB (bI x v).1
 first:LabB (gI t r) 0
 short:r.visits.length<=1048575
def Pg{α:Type}{l:List α}{k:Nat}(h:l.length=k+1):∃m b,l=m++[b]/\m.length=k:=by
 have E:l≠[]:=by intro e;subst e;simp at h
 refine⟨l.dropLast,l.getLast E,(List.dropLast_concat_getLast E).symm,by simp[h]⟩
def alA{x:Instance}{t:VType}{r:Route}{k:Nat}(F:k<r.visits.length)(l:Lab)(b:Bool):∃v∈r.visits,gH x t r k l b=pP x t (iF x t r k) (bI x v).1 k l b:=by obtain⟨v,E⟩:=aK F;exact⟨v,Xac E,by unfold gH;rw[E]⟩
def Pe{x:Instance}{t:VType}{r:Route}(E:RouteB x t r):∀(k:Nat) (bs:List Bool) (l:Lab),bs.length=k->k<=r.visits.length->kR x t r bs 0 (gI t r)=.ok l->LabB l k
 | 0,bs,l,hl,_,h=>by have:=Xcz hl;subst this;injection h with h;subst h;exact E.first
 | k+1,bs,l,hl,hk,h=>by
  obtain⟨m,b,rfl,I⟩:=Pg hl;rw[qG]at h;cases F:kR x t r m 0 (gI t r)with
  | error e=>rw[F]at h;cases h
  | ok l'=>rw[F]at h;have h:gH x t r (0+m.length) l' b=.ok l:=h;rw[I,Xce]at h;have J:=Pe E k m l' I (by omega) F;have U:=E.short;obtain⟨v,O,e⟩:=alA (x:=x) (t:=t) (r:=r) (k:=k) (by omega) l' b;rw[e]at h;exact alX (by omega) E.go (E.stop v O) J h
def By{x:Instance}{t:VType}{r:Route}:∀(k:Nat) (l:Lab),l∈dpL x t r k->∃bs,bs.length=k/\Iu r.rests bs/\kR x t r bs 0 (gI t r)=.ok l
 | 0,l,h=>by have h:l∈[gI t r]:=h;simp at h;subst h;exact⟨[],rfl,fun i b F=>by simp at F,rfl⟩
 | k+1,l,h=>by
  have h:l∈Bs x t r (dpL x t r k) k:=h;unfold Bs at h;rcases(Cd _ []).1 l h with h|h
  ·cases h
  ·obtain⟨l',E,h⟩:=List.mem_flatMap.1 h;obtain⟨b,F,h⟩:=Xbe.1 h;obtain⟨bs,h1,I,J⟩:=By k l' E;refine⟨bs++[b],by simp[h1],JZ.2 ⟨I,by rw[h1];exact F⟩,?_⟩;rw[qG,J];show gH x t r (0+bs.length) l' b=.ok l;rw[h1,Xce];exact h
def Gj{x:Instance}{t:VType}{r:Route}(E:RouteB x t r):∀(k:Nat) (bs:List Bool) (m:Lab),bs.length=k->k<=r.visits.length+1->Iu r.rests bs->kR x t r bs 0 (gI t r)=.ok m->∃l∈dpL x t r k,oW l m
 | 0,bs,m,hl,_,_,h=>by have:=Xcz hl;subst this;injection h with h;subst h;exact⟨_,by show gI t r∈[gI t r];simp,oW.refl _⟩
 | k+1,bs,m,hl,hk,hc,h=>by
  obtain⟨cs,b,rfl,U⟩:=Pg hl;obtain⟨Y,F⟩:=JZ.1 hc;rw[U]at F;rw[qG]at h;cases O:kR x t r cs 0 (gI t r)with
  | error e=>rw[O]at h;cases h
  | ok m'=>
   rw[O]at h;have h:gH x t r (0+cs.length) m' b=.ok m:=h;rw[U,Xce]at h;obtain⟨l',J,I⟩:=Gj E k cs m' U (by omega) Y O;have hs:=E.short;have bm:=Pe E k cs m' U (by omega) O;obtain⟨ds,d1,d2,d3⟩:=By k l' J;have bl:=Pe E k ds l' d1 (by omega) d3;have step:∃l,gH x t r k l' b=.ok l/\oW l m:=by
    by_cases Z:k<r.visits.length
    ·obtain⟨v,hv⟩:=aK Z;have e:∀l,gH x t r k l b=pP x t (iF x t r k) (bI x v).1 k l b:=fun l=>by unfold gH;rw[hv]
     rw[e]at h |-;exact Jc (by omega) E.go (E.stop v (Xac hv)) bl bm I h
    ·have e:∀l,gH x t r k l b=rS x t (iF x t r k) k l b:=fun l=>by unfold gH;rw[List.getElem?_eq_none (by omega)]
     rw[e]at h |-;exact Ie (by omega) E.go bl bm I h
   obtain⟨l,V,aa⟩:=step;obtain⟨q,hq,X⟩:=(Cd ((dpL x t r k).flatMap fun l=>(eU r.rests k).map fun b=>gH x t r k l b) []).2.2 l
    (List.mem_flatMap.2 ⟨l',J,Xbe.2 ⟨b,F,V⟩⟩)
   exact⟨q,hq,X.trans aa⟩
def VI{x:Instance}{t:VType}{r:Route}(O:RouteB x t r):dpL x t r (r.visits.length+1)=[]↔∀bs,bs.length=r.visits.length+1->Iu r.rests bs->∃e,kR x t r bs 0 (gI t r)=.error e:=by
 constructor
 ·intro h bs V X;cases U:kR x t r bs 0 (gI t r)with
  | error e=>exact⟨e,rfl⟩
  | ok m=>obtain⟨l,E,_⟩:=Gj O _ bs m V (Xaf _) X U;rw[h]at E;cases E
 ·intro h;cases I:dpL x t r (r.visits.length+1)with
  | nil=>rfl
  | cons l ls=>obtain⟨bs,h1,J,Y⟩:=By (r.visits.length+1) l (by rw[I];simp);obtain⟨e,F⟩:=h bs h1 J;rw[Y]at F;cases F
def NV{α:Type}(a c:List α)(b d:α):(a++b::c).set a.length d=a++d::c:=by simp
def Ic{α:Type}(a c:List α)(b d:α):(a++b::c).getD a.length d=b:=by simp
def RJ{α:Type}(n:Nat)(a:α):List.replicate (n+1) a=List.replicate n a++[a]:=List.replicate_succ'
def Jn(n:Nat):∀(j m:Nat) (q:List Bool),n<=q.length->pC n (q.length+1+j) (q++false::(List.replicate j true++List.replicate m false))=(q++true::List.replicate (j+m) false,true)
 | 0,m,q,hq=>by unfold pC;rw[if_pos hq];simp only[List.replicate_zero,Xcj,Ic,Xce];rw[if_neg (by simp),NV]
 | j+1,m,q,hq=>by
  have e:q++false::(List.replicate (j+1) true++List.replicate m false)=(q++false::List.replicate j true)++true::List.replicate m false:=by rw[RJ];simp
  have E:(q++false::List.replicate j true).length=q.length+1+j:=by simp;omega
  rw[show q.length+1+(j+1)=(q++false::List.replicate j true).length+1 by omega,e];unfold pC;rw[if_pos (by omega),Ic,if_pos rfl,NV,E];have ih:=Jn n j (m+1) q hq;rw[List.replicate_succ]at ih;rw[show(q++false::List.replicate j true)++false::List.replicate m false=q++false::(List.replicate j true++false::List.replicate m false)by simp,ih,show j+(m+1)=j+1+m by omega]
def HZ(n:Nat):∀(j m:Nat) (p:List Bool),p.length=n->pC n (n+j) (p++(List.replicate j true++List.replicate m false))=([],false)
 | 0,m,p,hp=>by
   rw[Nat.add_zero];cases n with
   | zero=>rfl
   | succ k => conv => lhs; unfold pC
               rw[if_neg (by omega)]
 | j+1,m,p,hp=>by
   have e:p++(List.replicate (j+1) true++List.replicate m false)=(p++List.replicate j true)++true::List.replicate m false:=by rw[RJ];simp
   have E:(p++List.replicate j true).length=n+j:=by simp;omega
   rw[show n+(j+1)=(p++List.replicate j true).length+1 by omega,e];unfold pC;rw[if_pos (by omega),Ic,if_pos rfl,NV,E];have ih:=HZ n j (m+1) p hp;rw[List.replicate_succ]at ih;rw[show(p++List.replicate j true)++false::List.replicate m false=p++(List.replicate j true++false::List.replicate m false)by simp,ih]
def agH{n m:Nat}{q:List Bool}(E:n<=q.length):jS (q++false::List.replicate m true) n=(q++true::List.replicate m false,true):=by have h:=Jn n m 0 q E;simp only[List.replicate_zero,Xak,Nat.add_zero]at h;unfold jS;rw[show(q++false::List.replicate m true).length=q.length+1+m by simp;omega,h]
def adY{n m:Nat}{p:List Bool}(E:p.length=n):jS (p++List.replicate m true) n=([],false):=by have h:=HZ n m 0 p E;simp only[List.replicate_zero,Xak]at h;unfold jS;rw[show(p++List.replicate m true).length=n+m by simp[E],h]
def tF(p:List Bool):Nat->List (List Bool)
 | 0=>[p]
 | m+1=>tF (p++[false]) m++tF (p++[true]) m
def DY:∀(m:Nat) (p c:List Bool),c∈tF p m↔c.length=p.length+m/\p <+: c
 | 0,p,c=>by
  show c∈[p]↔_;simp only[Xbg,List.not_mem_nil,or_false];constructor
  ·rintro rfl;exact⟨rfl,List.prefix_refl _⟩
  ·rintro⟨h1,E⟩;exact(E.eq_of_length (by omega)).symm
 | m+1,p,c=>by
  show c∈tF (p++[false]) m++tF (p++[true]) m↔_;rw[Xba,DY m,DY m];constructor
  ·rintro(⟨h1,E⟩|⟨h1,E⟩)
   ·exact⟨by simp at h1;omega,(List.prefix_append _ _).trans E⟩
   ·exact⟨by simp at h1;omega,(List.prefix_append _ _).trans E⟩
  ·rintro⟨h1,s,rfl⟩;cases s with
   | nil=>simp at h1
   | cons b s=>
    cases b
    ·exact .inl ⟨by simp at h1 |-;omega,⟨s,by simp⟩⟩
    ·exact .inr ⟨by simp at h1 |-;omega,⟨s,by simp⟩⟩
def A6(x:Instance)(r:Route)(l:List (List Bool))(b:Sheet×Bool):Sheet×Bool:=l.foldl (fun b c=>iI x r c b) b
def Dm{x:Instance}{r:Route}{n:Nat}:∀(m:Nat) (p:List Bool) (b:Sheet×Bool),n<=p.length ->
  qX x r n (zC (p++List.replicate m false,true)) (p++List.replicate m false,true) b=qX x r n (zC (jS (p++List.replicate m true) n)) (jS (p++List.replicate m true) n) (A6 x r (tF p m) b)
 | 0,p,b,hp=>(B9 (x:=x) (r:=r) (m:=n) (c:=(p++List.replicate 0 false,true)) (b:=b) rfl).1.trans (by simp only[List.replicate_zero,Xak];rfl)
 | m+1,p,b,hp=>by have h1:=Dm (x:=x) (r:=r) (n:=n) m (p++[false]) b (by simp;omega);have E:=Dm (x:=x) (r:=r) (n:=n) m (p++[true]) (A6 x r (tF (p++[false]) m) b) (by simp;omega);rw[show p++[false]++List.replicate m false=p++List.replicate (m+1) false by simp[List.replicate_succ]]at h1;rw[show p++[false]++List.replicate m true=p++false::List.replicate m true by simp,agH hp]at h1;rw[show p++[true]++List.replicate m false=p++true::List.replicate m false by simp]at E;rw[show p++[true]++List.replicate m true=p++List.replicate (m+1) true by simp[List.replicate_succ]]at E;rw[h1,E];unfold A6;rw[show tF p (m+1)=tF (p++[false]) m++tF (p++[true]) m from rfl,Xbn]
def sD(r:Route):Nat:=r.visits.length+1-r.rests.length
def SB{x:Instance}{r:Route}(J:bW x r=true)(V:r.rests.length<=r.visits.length+1)(O:(fF x r (cY r)).2.2≠0->(fF x r (cY r)).1=aX):
  lX x r=DF (A6 x r (tF r.rests (sD r)) (aX,false)) (fF x r (cY r)).2.2:=by
 have e:lX x r=_:=if_neg (by rw[J];simp;omega);rw[e];have I:((fF x r (cY r)).1,(fF x r (cY r)).2.2 == 0)=iI x r (cY r) (aX,false):=by
  unfold iI;by_cases h:(fF x r (cY r)).2.2=0
  ·rw[if_pos (by rw[h];rfl),h];rfl
  ·rw[if_neg (by simp[h]),O h];have:((fF x r (cY r)).2.2 == 0)=false:=by simpa using h
   rw[this]
 rw[I];have U:=(B9 (x:=x) (r:=r) (m:=r.rests.length) (c:=(cY r,true)) (b:=(aX,false)) rfl).1;have E:=Dm (x:=x) (r:=r) (n:=r.rests.length) (sD r) r.rests (aX,false) (Xaf _);have F:r.rests++List.replicate (sD r) false=cY r:=rfl;rw[F]at E;rw[<-U,E,adY rfl,xD rfl]
def Xl{x:Instance}{r:Route}:∀(l:List (List Bool)) (b:Sheet×Bool),(A6 x r l b).2=(b.2||l.any fun c=>(fF x r c).2.2 == 0)
 | [],b=>by simp[A6]
 | c::l,b=>by have ih:=Xl (x:=x) (r:=r) l (iI x r c b);show(A6 x r l (iI x r c b)).2=_;rw[ih];unfold iI;simp only[List.any_cons];cases h:(fF x r c).2.2 == 0 <;> simp[];cases E:b.2 <;> simp[];split <;> simp[E]
def aiX{x:Instance}{r:Route}(F:bW x r=true)(J:r.rests.length<=r.visits.length+1)(I:(fF x r (cY r)).2.2≠0->(fF x r (cY r)).1=aX):
  (lX x r).2=if(tF r.rests (sD r)).any (fun c=>(fF x r c).2.2 == 0)=true then 0 else(fF x r (cY r)).2.2:=by
 rw[SB F J I];have E:=Xl (x:=x) (r:=r) (tF r.rests (sD r)) (aX,false);simp only[Xbt]at E;unfold DF;rw[E];split <;> rfl
def uG{p c:List Bool}(h:p.length<=c.length):Iu p c↔p <+: c:=by
 constructor
 ·intro I;refine List.prefix_iff_getElem?.2 fun i hi=>?_
  have F:i<c.length:=by omega
  have E:=I i c[i] (List.getElem?_eq_getElem F);unfold eU at E;rw[if_pos hi]at E;simp only[Xbg,List.not_mem_nil,or_false]at E;rw[List.getElem?_eq_getElem F,E];simp[List.getD,List.getElem?_eq_getElem hi]
 ·rintro⟨s,rfl⟩ i b E;unfold eU;by_cases hi:i<p.length
  ·rw[if_pos hi];rw[List.getElem?_append_left hi]at E;simp[List.getD,E]
  ·rw[if_neg hi];cases b <;> simp
def oC{r:Route}(E:r.rests.length<=r.visits.length+1):(cY r).length=r.visits.length+1:=by unfold cY;simp;omega
def aoI{bs:List Bool}{n:Nat}(h:bs.length=n+1):∃b cs,bs=b::cs/\cs.length=n:=by
 cases bs with
 | nil=>simp at h
 | cons b cs=>exact⟨b,cs,rfl,by simpa using h⟩
def RX{x:Instance}{r:Route}{t:VType}{bs:List Bool}(J:bW x r=true)(F:x.types[r.type.toNat]?=some t)(E:bs.length=r.visits.length+1)
  (O:∀v∈r.visits,(bI x v).1.start<=(bI x v).1.close):
  match kR x t r bs 0 (gI t r)with
  | .error e=>(fF x r bs).1=aX/\(fF x r bs).2.2=e
  | .ok l=>(fF x r bs).1=l.sheet/\(fF x r bs).2.2=0:=by
 obtain⟨b,cs,rfl,I⟩:=aoI E;have h:=asR (b:=b) J F I O;have e:=agB (x:=x) (t:=t) (r:=r) (b::cs) 0 (gI t r) (by simpa using E) (Xaa _);have e:Ev x t r.visits (b::cs) t.src 0 (gI t r)=kR x t r (b::cs) 0 (gI t r):=e;rw[e]at h;exact h
def Lr{x:Instance}{t:VType}{p:Int}{s:Stop}{k:Nat}{l:Lab}{b:Bool}{e:Int}(h:pP x t p s k l b=.error e):e≠0:=by
 unfold pP at h
 repeat' split at h
 all_goals first|(injection h with h;omega)|cases h
def Ml{x:Instance}{t:VType}{p:Int}{k:Nat}{l:Lab}{b:Bool}{e:Int}(h:rS x t p k l b=.error e):e≠0:=by
 unfold rS at h
 repeat' split at h
 all_goals first|(injection h with h;omega)|cases h
def Ea{x:Instance}{t:VType}{r:Route}:∀(bs:List Bool) (k:Nat) (l:Lab) (e:Int),kR x t r bs k l=.error e->e≠0
 | [],k,l,e,h=>by cases h
 | b::bs,k,l,e,h=>by
  unfold kR at h;cases E:gH x t r k l b with
  | error e'=>
   rw[E]at h;have h:(Except.error e':Except Int Lab)=.error e:=h;injection h with h;subst h;unfold gH at E;split at E
   ·exact Lr E
   ·exact Ml E
  | ok l'=>rw[E]at h;exact Ea bs (k+1) l' e h
def F2(e:Except Int Lab):Int:=match e with| .error e=>e| .ok _=>0
def apH{x:Instance}{r:Route}{t:VType}(hB:RouteB x t r)(O:bW x r=true)(Y:x.types[r.type.toNat]?=some t)(hr:r.rests.length<=r.visits.length+1)
  (hs:∀v∈r.visits,(bI x v).1.start<=(bI x v).1.close):
  (lX x r).2=match dpL x t r (r.visits.length+1)with
   | []=>F2 (kR x t r (cY r) 0 (gI t r))
   | _::_=>0:=by
 have h0:=RX (bs:=cY r) O Y (oC hr) hs;have hz:(fF x r (cY r)).2.2≠0->(fF x r (cY r)).1=aX:=by
  intro Z;cases E:kR x t r (cY r) 0 (gI t r)with
  | error e=>rw[E]at h0;exact h0.1
  | ok l=>rw[E]at h0;exact absurd h0.2 Z
 have e0:(fF x r (cY r)).2.2=F2 (kR x t r (cY r) 0 (gI t r)):=by
  cases E:kR x t r (cY r) 0 (gI t r)with
  | error e=>rw[E]at h0;exact h0.2
  | ok l=>rw[E]at h0;exact h0.2
 rw[aiX O hr hz,e0];cases F:dpL x t r (r.visits.length+1)with
 | nil=>
  rw[if_neg];rw[Xao];rintro⟨c,hc,he⟩;obtain⟨X,U⟩:=(DY _ _ _).1 hc;have I:c.length=r.visits.length+1:=by unfold sD at X;omega
  obtain⟨e,J⟩:=(VI hB).1 F c I ((uG (by omega)).2 U);have h1:=RX (bs:=c) O Y I hs;rw[J]at h1;have V:(fF x r c).2.2=0:=by simpa using he
  exact Ea _ _ _ _ J (h1.2.symm.trans V)
 | cons l ls=>rw[if_pos];rw[Xao];obtain⟨bs,h1,V,h3⟩:=By (r.visits.length+1) l (by rw[F];simp);refine⟨bs,(DY _ _ _).2 ⟨by unfold sD;omega,(uG (by omega)).1 V⟩,?_⟩;have E:=RX (bs:=bs) O Y h1 hs;rw[h3]at E;rw[E.2];rfl
end Sq
namespace Rx
open Go.Nu
open Sq (W fP xG yP Dg iW fV eZ dN NetOk)
structure Clk where
 ready:Int
 since:Int
structure Part where
 place:Int
 memory:Nat
 board:Nat
 visits:Nat
 load:List Int
 clocks:List Clk
 value:ByteArray
structure Wk where
 x:Instance
 kind:Nat
 t:VType
 near:List Int
 dual:Option (List ByteArray)
 most:Nat
section
variable(w:Wk)
end
def acJ(c d:Clk):Bool:=c.ready == d.ready&&decide (c.since<=d.since)
def avI(n:Network)(t:VType)(place goal:Int)(s:List Clk×Int)(c:Clk):List Clk×Int:=
 if((fP n t.profile place goal c.ready).2.2 == 0&&decide (W (W (c.since+(fP n t.profile place goal c.ready).1)-c.ready)<=t.drive))=true
 then(s.1++[⟨(fP n t.profile place goal c.ready).1,W (W (c.since+(fP n t.profile place goal c.ready).1)-c.ready)⟩],(fP n t.profile place goal c.ready).2.1)else s
def aqP(t:VType)(c:Clk):Clk:=⟨W (c.ready+t.rest),0⟩
def drv2(n:Network)(t:VType)(place goal:Int)(s:List Clk×Int)(c:Clk):List Clk×Int:=avI n t place goal (avI n t place goal s c) (aqP t c)
def ajB(n:Network)(t:VType)(place goal:Int)(l:List Clk):List Clk×Int:=l.foldl (drv2 n t place goal) ([],0)
def nH(s:Stop)(a:Int):Int×Int:=if eV a s.start>s.close then(0,14)else(W (eV a s.start+s.service),0)
def srvC(s:Stop)(out:List Clk)(c:Clk):List Clk:=
 if((nH s c.ready).2 != 0)=true then out
 else if(out.any fun d=>acJ d ⟨(nH s c.ready).1,c.since⟩)=true then out
 else(out.filter fun d=> !acJ ⟨(nH s c.ready).1,c.since⟩ d)++[⟨(nH s c.ready).1,c.since⟩]
def WT(s:Stop)(l:List Clk):List Clk:=l.foldl (srvC s) []
def memP(near:List Int)(m o:Nat):Nat:=(m &&& (near.getD o 0).toNat) ||| 2^o
def Xx(a:Int)(kind:Nat):Int:=if(a != -1&&a != (kind:Int))=true then 1 else 0
def anZ(a:ByteArray)(n:Int):ByteArray:=(vR a (zed n)).1
def dO(x:Instance)(o:Nat):Order:=x.orders.getD o ⟨ByteArray.empty,[],⟨0,0,0,0⟩,⟨0,0,0,0⟩,0,0,0,0,0,false⟩
def avF(a:ByteArray)(o:Nat):Option (List ByteArray)->ByteArray
 | none=>a
 | some l=>(D6 a (l.getD o ByteArray.empty)).1
def Pf(w:Wk)(p:Part)(o:Nat):Part×Bool:=
 if(dN (p.memory:Nat) (o:Nat)||dN (p.board:Nat) (o:Nat))=true then(p,false)
 else({ p with memory:=memP w.near p.memory o,value:=avF (anZ p.value ((Xx (dO w.x o).now w.kind*16+Xx (dO w.x o).last w.kind)*65536)) o w.dual },true)
def arG(b o:Nat):Nat:=b ^^^ (b &&& 2^o)
def CY(o:Order):Bool:=decide (o.pick.place>=0)&&decide (o.drop.place>=0)
def alW(w:Wk)(p:Part)(o:Nat)(drop:Bool):Part×Bool:=
 if drop=false then
   ({ p with load:=yP p.load (dO w.x o).load,board:=if CY (dO w.x o)=true then p.board ||| 2^o else p.board },iW (yP p.load (dO w.x o).load) w.t.cap)
 else if CY (dO w.x o)=true then
   if dN (p.board:Nat) (o:Nat)=true then({ p with load:=Dg p.load (dO w.x o).load,board:=arG p.board o },iW (Dg p.load (dO w.x o).load) w.t.cap)else(p,false)
 else(p,iW p.load w.t.cap)
def goP(w:Wk)(p:Part)(s:Stop):Part×Bool:=
 let d:=ajB w.x.net w.t p.place s.place p.clocks
 ({ p with clocks:=WT s d.1,place:=s.place,visits:=p.visits+1,value:=anZ p.value (W (W (w.t.perMile*d.2)*16777216)) },decide ((WT s d.1).length>0))
def Yl(w:Wk)(p:Part)(v:Visit):Part×Bool:=
 if(decide ((p.visits:Int)>=(w.most:Int))||(dO w.x v.order.toNat).off|| !xG w.t.skills (dO w.x v.order.toNat).skills)=true then(p,false)
 else
   let s:=if(!v.drop||decide ((dO w.x v.order.toNat).pick.place<0))=true then Pf w p v.order.toNat else(p,true)
   if s.2=true then
     let l:=alW w s.1 v.order.toNat v.drop
     if l.2=true then(if((eZ w.x v).2 != 0)=true then(l.1,false)else goP w l.1 (eZ w.x v).1)else(l.1,false)
   else(s.1,false)
def auS(close:Int)(out:Int)(c:Clk):Int:=if(decide (c.ready<=close)&&(decide (out<0)||decide (c.ready<out)))=true then c.ready else out
def amP(w:Wk)(p:Part):Int×Int×Bool:=
 if((p.visits:Int) == 0||(p.board:Int) != 0)=true then(0,0,false)
 else
   let d:=ajB w.x.net w.t p.place w.t.dst p.clocks
   (d.1.foldl (auS w.t.close) (-1),d.2,decide (d.1.foldl (auS w.t.close) (-1)>=0))
def agA(w:Wk)(e:Int):Int:=W (e-w.t.start)
def auU(w:Wk)(e miles:Int):Int:=W (W (w.t.fixed+W (w.t.perMile*miles))+W (w.t.perTick*agA w e))
def atK(w:Wk)(p:Part)(e miles:Int):ByteArray:=
 anZ p.value (W (W (auU w e miles*16777216)+W (W (Int.tdiv (agA w e) 64)*W (Int.tdiv (agA w e) 64))))
def abL(x:Instance):List Visit:=(List.range x.orders.length).flatMap fun i=>if(dO x i).off=true then[]else fV x.orders (i:Nat)
def atG(w:Wk):Part:=⟨w.t.src,0,0,0,List.replicate w.t.cap.length 0,[⟨w.t.start,0⟩],dec 0⟩
structure Srch where
 known:List Part
 more:List Part
 best:ByteArray
 found:Bool
end Rx
namespace Rx
open Go.Nu
open Sq (W fP xG yP Dg iW fV eZ dN NetOk)
open Nu (Bv BX Eu ltB geB)
structure NearB(near:List Int):Prop where
 len:near.length<=62
 num:∀n∈near,0<=n/\n<4611686018427387904
end Rx
namespace Rx
open Go.Proofs.Tryz
open Go.Nu
open Sq (W fP xG yP Dg iW fV eZ dN NetOk pM lW kS rK)
open Mv (bO bR aO)
open Nu (Bv BX Eu ltB geB)
def bM.cutO{P:Program}{f:FuncId}{args:List AV}{H:aH}{K:AV->aH->Prop}
  (h:bM P f args H fun a H'=>K a H'\/∃j i row,a=.oz j 0 i/\H' j=some row/\i<=row.es.length/\∀E,H' E=none->K (.os E) (aM (aM H' j none) E (some ⟨row.e,row.sz,row.es.take i⟩))):bM P f args H K:=by
 intro S w vals hS ha;refine(h S w vals hS ha).mono fun e w' ⟨v,x,H',S',he,J,F,Z,Y,hn⟩=>?_
 rcases J with J|J
 ·exact⟨v,x,H',S',he,J,F,Z,Y,hn⟩
 have h2:∀K2:AV->aH->Prop,(∃j i row,x=.oz j 0 i/\H' j=some row/\i<=row.es.length/\∀E,H' E=none->K2 (.os E) (aM (aM H' j none) E (some ⟨row.e,row.sz,row.es.take i⟩)))->∃v x H' S',e=.returned v/\K2 x H'/\St S' w' H'/\rep S' w' x v/\Grow S w S' w'/\∀k,k<S.N->H k=none->H' k=none:=by
  rintro K2 ⟨j,i,row,rfl,hj,hi,hk⟩;simp only[rep]at Z;obtain⟨ab,ad,n,c,V,cc,U,O,_,aa,_,h0⟩:=Z;obtain⟨rfl,rfl⟩:=h0 trivial;obtain⟨c1,c2⟩:=F.cut hj U hi;have I:H' S'.N=none:=by
   cases e:H' S'.N with
   | none=>rfl
   | some row2=>exact absurd (F.rows _ _ e).lt (Nat.lt_irrefl _)
  refine⟨v,.os S'.N,_,_,he,hk S'.N I,c1,?_,Y.trans c2,fun q hq h0=>?_⟩
  ·simp only[rep];refine⟨Nat.lt_succ_self _,?_,V,i-0,cc,O⟩;rw[O];simp[Sg.addRow]
  ·have X:q≠S'.N:=Nat.ne_of_lt (Xbs hq Y.le.N);rw[aJ _ _ _ _ X];by_cases e:q=j
   ·subst e;rw[aB]
   ·rw[aJ _ _ _ _ e];exact hn q hq h0
 exact h2 K J
def Fu{α:Type}{p:α->Bool}:∀{l:List α} {n:Int},0<=n->pM p l n= -1->∀y∈l,p y=false
 | [],_,_,_,y,E=>by simp at E
 | a::r,n,hn,h,y,E=>by
  simp only[pM]at h;split at h
  ·omega
  ·next F=>
   rcases Xbg.1 E with rfl|E
   ·simpa using F
   ·exact Fu (by omega) h y E
def Fl{α:Type}{p:α->Bool}:∀{l:List α} {n:Int},pM p l n≠ -1->∃(i:Nat) (y:α),pM p l n=n+i/\l[i]?=some y/\p y=true/\∀u∈l.take i,p u=false
 | [],_,h=>absurd rfl h
 | a::r,n,h=>by
  simp only[pM]at h |-;by_cases F:p a=true
  ·exact⟨0,a,by rw[if_pos F];omega,rfl,F,by simp⟩
  ·rw[if_neg F]at h |-;obtain⟨i,y,h1,I,O,J⟩:=Fl h;refine⟨i+1,y,by omega,I,O,fun u E=>?_⟩;rw[List.take_succ_cons]at E;rcases Xbg.1 E with rfl|E
   ·simpa using F
   ·exact J u E
def Db{α:Type}(l:List α){m:Nat}{v:α}(h:m<l.length):(l.set m v).take (m+1)=l.take m++[v]:=by
 have E:(l.set m v)[m]?=some v:=by simp[h]
 rw[List.take_add_one,E,List.take_set_of_le (Xaf m)];rfl
def adV(s:Stop)(a:Int):PC prog 229 [.agg (eN s),int a] (.tup [int (nH s a).1,int (nH s a).2]):=by
 refine pcd func229 rfl rfl ?_;simp only[go_sem];refine aG (Sq.Yi s a) ?_;unfold nH;by_cases h:eV a s.start>s.close
 ·simp only[if_pos h];simp only[go_sem];refine aA (fun E=>?_) (fun E=>?_)
  ·simp only[go_sem];exact .refl _
  ·simp at E
 ·simp only[if_neg h];simp only[go_sem];refine aA (fun E=>?_) (fun E=>?_)
  ·simp at E
  ·simp only[go_sem];exact .refl _
end Rx
namespace Rx
open Go.Nu
open Sq (W fP xG yP Dg iW fV eZ dN NetOk)
open Nu (Bv BX Eu ltB geB)
structure WkOk(w:Wk):Prop where
 net:NetOk w.x.net
 near:NearB w.near
 len:w.near.length=w.x.orders.length
 kind:w.kind<4611686018427387904
 dual:∀l,w.dual=some l->l.length=w.x.orders.length/\∀a∈l,a.size<=1048576
structure PartOk(p:Part):Prop where
 mem:p.memory<2^62
 board:p.board<2^62
 value:p.value.size<=1048576
def gO{x:Instance}{o:Nat}(h:o<x.orders.length):x.orders[o]?=some (dO x o):=by unfold dO;rw[List.getD,List.getElem?_eq_getElem h,Xbo]
def acV(n:Int): -9223372036854775808<=IntKind.i64.wrap n/\IntKind.i64.wrap n<=9223372036854775807:=by have e:IntKind.i64.wrap n=Go.RowKit.wrap64 n:=IntWalk.i64_left n;rw[e];unfold Go.RowKit.wrap64;omega
abbrev Au(s:Stop):Row:=⟨91,4,[eN s]⟩
end Rx
namespace Rx
open Go.Nu
open Sq (W fP xG yP Dg iW fV eZ dN NetOk)
open Nu (Bv BX Eu ltB geB Ax)
open Mv (bO bR aO)
def mZ(x:Instance)(k:Nat):VType:=x.types.getD k ⟨ByteArray.empty,0,0,0,[],0,0,0,0,0,0,0,0,0⟩
structure PInv(D:Nat)(p:Part):Prop where
 ok:PartOk p
 load:p.load.length=D
 clk:p.clocks.length<=2^p.visits
structure WkB(D:Nat)(w:Wk):Prop where
 ok:WkOk w
 dim:∀o,o<w.x.orders.length->(dO w.x o).load.length=D
 D:D<=1048576
 n:w.x.orders.length<=62
 most:w.most<=16
structure VisOk(x:Instance)(v:Visit):Prop where
 ex:∃o:Nat,v.order=(o:Nat)/\o<x.orders.length
def avA(w:Wk)(p:Part)(n:Int):Int:=if(amP w p).2.2=true then W (n+1)else n
def countP(w:Wk)(vs:List Visit):Nat->Part->Int->Int
 | 0,p,n=>avA w p n
 | f+1,p,n=>vs.foldl (fun n v=>if n>8192 then n else if(Yl w p v).2=true then countP w vs f (Yl w p v).1 n else n) (avA w p n)
structure XB(D:Nat)(x:Instance):Prop where
 net:NetOk x.net
 dim:∀o,o<x.orders.length->(dO x o).load.length=D
 cap:∀k,k<x.types.length->(mZ x k).cap.length=D
 D:D<=1048576
 n:x.orders.length<=8
 types:x.types.length<=1048576
end Rx
namespace Rx
open Go.Nu
open Sq (W fP xG yP Dg iW fV eZ dN NetOk pM lW kS rK)
open Nu (Bv BX Eu ltB geB Ax BR)
open Mv (bO bR aO)
section
variable{H:aH}{w:Wk}{jw jk jm jf:Nat}{known more fresh:List Part}
end
structure SI(D:Nat)(w:Wk)(r m K:Nat)(s:Srch):Prop where
 known:∀p∈s.known,PInv D p/\p.visits<=6
 more:∀p∈s.more,PInv D p/\p.visits=r+1/\r+1<=w.most
 ml:s.more.length<=m
 kl:s.known.length<=K+s.more.length
 best:s.best.size<=8194
end Rx
end Go.Proofs.YtpagaknmdfgfkaaGreatDoor
section
namespace Go.So
variable{α:Type}
structure SWO(lt:α->α->Bool):Prop where
 asym:∀a b,lt a b=true->lt b a=false
 neg:∀a b c,lt a b=false->lt b c=false->lt a c=false
def tlt(lt:α->α->Bool)(p q:α×Nat):Prop:=lt p.1 q.1=true\/(lt q.1 p.1=false/\p.2<q.2)
section
variable{lt:α->α->Bool}(h:SWO lt)
include h
end
def ins(lt:α->α->Bool)(x:α):List α->List α
 | []=>[x]
 | z::r=>if lt x z=true then x::z::r else z::ins lt x r
def CO(lt:α->α->Bool)(l:List α):List α:=l.foldl (fun acc x=>ins lt x acc) []
def Tp(lt:α->α->Bool)(x:α):∀l:List α,(ins lt x l).Perm (x::l)
 | []=>.refl _
 | z::r=>by
  unfold ins;split
  ·exact .refl _
  ·exact((Tp lt x r).cons z).trans (.swap x z r)
section
variable{lt:α->α->Bool}(h:SWO lt)
include h
end
def awH(A B:List (α×Nat)):Prop:=∀x∈A,∀y∈B,x.2<y.2
structure Good(lt:α->α->Bool)(R:List (List (α×Nat))):Prop where
 srt:∀A∈R,A.Pairwise (tlt lt)
 rk:R.Pairwise awH
end Go.So
end
namespace Go.Proofs.YtpagaknmdfgfkaaGreatDoor
open Go.Aw Go.Aw.D Go.Proofs Ty
namespace Rx
open Go.Proofs.Tryz
open Go.Nu Go.So
open Nu (ltB geB)
abbrev wC(l:List Int):Row:=⟨3,1,l.map bC⟩
def JK(x:Int):(bC x).length=1:=(rfl)
abbrev TB:=Int×Nat
def fs(L:List TB):List Int:=L.map Prod.fst
structure CmpOk(gf:Nat)(cap':List AV)(lt:Int->Int->Bool)(ok:Int->Prop):Prop where
 call:aE Tryz.prog gf=true
 cmp:∀x y,ok x->ok y->∃n:Int,decide (n<0)=lt x y/\PC Tryz.prog gf (int x::int y::cap') (int n)
section
variable{gf:Nat}{cx:AV}{jc:Nat}{rc:Row}{cap':List AV}{lt:Int->Int->Bool}{ok:Int->Prop}
end
end Rx
namespace Rx
open Go.Nu Go.So
open Sq (W fV eZ dN NetOk pM lW kS rK)
open Nu (ltB geB Fm)
open Mv (bO bR aO)
end Rx
namespace Rx
open Go.Nu Go.So
open Sq (W fV eZ dN NetOk)
open Nu (ltB geB)
open Mv (bO bR aO)
def mH(s i:Nat):Bool:=s/2^i%2 == 1
def PN(o:Order):List Int:=(if decide (o.pick.place>=0)=true then[o.pick.place]else[])++(if decide (o.drop.place>=0)=true then[o.drop.place]else[])
def cZ(near:List Int)(m o:Nat)(s i:Nat):Nat:=if(i == o||(mH m i&&mH (near.getD o 0).toNat i))=true then s+2^i else s
def d32A(p q:Int)(out:Int)(w:Arc):Int:=if((w.src == p&&w.dst == q)||(w.src == q&&w.dst == p))=true then anL out w.miles else out
def d32Q(arcs:List Arc)(p:Int)(out q:Int):Int:=arcs.foldl (d32A p q) (if(p == q)=true then 0 else out)
def d32P(arcs:List Arc)(Q:List Int)(out p:Int):Int:=Q.foldl (d32Q arcs p) out
def ajQ(x:Instance)(a b:Nat):Int:=(PN (dO x a)).foldl (d32P x.net.arcs (PN (dO x b))) 10001
def nG(x:Instance)(a set:Nat)(best:Int)(b:Nat):Int:=if(!mH set b&&(decide (best<0)||decide (ajQ x a b<ajQ x a best.toNat)))=true then(b:Int)else best
end Rx
namespace Rx
open Go.Nu Go.So
open Sq (W fV eZ dN NetOk fP)
open Nu (ltB geB)
open Mv (bO bR aO)
structure Mom where
 time:Int
 driven:Int
structure RP where
 place:Int
 visits:Nat
 miles:Int
 moms:List Mom
 memory:Nat
 board:Nat
 load:List Int
 moved:Int
 other:Int
 dual:ByteArray
structure Rs where
 x:Instance
 t:VType
 kind:Nat
 near:List Int
 dual:List ByteArray
 most:Nat
 count:Int
 limited:Bool
 found:Bool
 least:ByteArray
section
variable(p:RP)
end
section
variable(w:Rs)
end
def auT(t:VType)(m:Mom):Mom:=⟨W (m.time+t.rest),0⟩
def aoE(t:VType)(l:List Mom):List Mom:=l.flatMap fun m=>[m,auT t m]
def arrM(n:Network)(t:VType)(place goal close:Int)(s:List Mom×Int)(m:Mom):List Mom×Int:=
 (if(((fP n t.profile place goal m.time).2.2 == 0&&decide ((fP n t.profile place goal m.time).1<=close))&&decide (W (W (m.driven+(fP n t.profile place goal m.time).1)-m.time)<=t.drive))=true
  then s.1++[⟨(fP n t.profile place goal m.time).1,W (W (m.driven+(fP n t.profile place goal m.time).1)-m.time)⟩]else s.1,(fP n t.profile place goal m.time).2.1)
def KO(n:Network)(t:VType)(place goal close:Int)(l:List Mom):List Mom×Int:=l.foldl (arrM n t place goal close) ([],0)
end Rx
end Go.Proofs.YtpagaknmdfgfkaaGreatDoor
section
namespace Go.Aw
open Go.RowKit
section
variable{P:Program}{f:FuncId}{args:List AV}{H H1:aH}{K:AV->aH->Prop}{r:AV}
def MC(P:Program)(f:FuncId)(args:List AV)(H H1:aH)(r:AV):Prop:=∀K:AV->aH->Prop,K r H1->bM P f args H K
def MC.use(h:MC P f args H H1 r)(E:K r H1):bM P f args H K:=h K E
def bM.dataM(hs:∀k,H k=none->H1 k=none)(h:bM P f args H (Pk H1 r))(Y:K r H1):bM P f args H K:=by
 intro S w vals X Z;refine(h S w vals X Z).mono fun e w' ⟨v,x,H',S',O,⟨hm,l,U,V⟩,I,hv,hg,hn⟩=>?_
 obtain⟨h1,J,h3⟩:=I.frz l;refine⟨v,r,H1,S'.froze _,O,Y,h1.drop (fun k row F=>?_),V.rep h3 hv,hg.trans J,fun k _ h0=>hs k h0⟩;have E:¬k∈l:=fun E=>by rw[U k E]at F;cases F
 show(if k∈l then none else H' k)=some row;rw[if_neg E];exact hm k row F
def MC.body{fn:Func}{c:Code}(mt:Nat->Bool)(U:∀k,H k=none->H1 k=none)(E:P.follows .mixedOrders=true)(O:P.funcs[f]?=some fn)(I:fn.body=some c)(F:CQ fn c args.length=true)
 (h:awp P (bM P) (fB P) mt c (KH P fn.results.toList (Pk H1 r)) (Fx args) H):MC P f args H H1 r:=fun K J=>bM.dataM U (bM.body mt E O I F h) J
def Q6{H:aH}{j:Nat}{a:Row}(h:H j=some a):aM H j (some a)=H:=funext fun k=>by
 by_cases e:k=j
 ·subst e;rw[aB,h]
 ·rw[aJ _ _ _ _ e]
def ZX(H:aH)(j:Nat)(a b:Option Row):aM (aM H j a) j b=aM H j b:=funext fun k=>by
 by_cases e:k=j
 ·subst e;rw[aB,aB]
 ·rw[aJ _ _ _ _ e,aJ _ _ _ _ e,aJ _ _ _ _ e]
def Sup.set{H H':aH}(h:Sup H H')(j:Nat)(a:Option Row):Sup (aM H j a) (aM H' j a):=fun k row E=>by
 by_cases e:k=j
 ·subst e;rw[aB]at E |-;exact E
 ·rw[aJ _ _ _ _ e]at E |-;exact h k row E
def Sup.set2{H H':aH}{j:Nat}{b:Option Row}(h:Sup (aM H j b) H')(a:Option Row):Sup (aM H j a) (aM H' j a):=by
 have:=Sup.set h j a
 rwa [ZX]at this
def Wa{H:aH}{j:Nat}{a:Option Row}{b:Row}(h:H j=some b):∀k,H k=none->aM H j a k=none:=fun k E=>by
 by_cases e:k=j
 ·subst e;rw[h]at E;cases E
 ·rw[aJ _ _ _ _ e,E]
def EU{P:Program}{C:mL}{PC:FuncId->List AV->aH->AV->Prop}{mt:Nat->Bool}{ops:List Oper}{K:Env->aH->Prop}{m:Nat}{ρ:Env}{H:aH}(l:List Nat)(t:Mx)(J:Env->aH->Prop)(O:∀k,k∈l->(H k).isSome=true)(I:GC ops.toArray t=true)
 (h:∀K':Env->aH->Prop,(∀E H',J E H'->K' E H')->∀Hp F:aH,(∀k,k∈l->Hp k=H k)->(∀k,k∉l->F k=H k)->(∀k,k∉l->Hp k=none)->(∀k,k∈l->F k=none)->nJ P C PC mt ops.toArray (sH l H K') Hp t ρ F)
 (U:∀E H',J E H'->K E H'):wA P C PC mt ops.toArray K m ρ H:=HE l t O I (h K U)
end
end Go.Aw
namespace Go.Proofs.YtpagaknmdfgfkaaGreatDoor.Rx
open Go.Aw Go.Aw.D Go.Proofs Ty Go.Nu Go.So
open Sq (W fV eZ dN NetOk fP)
open Nu (ltB geB CR BP nX)
open Mv (bO bR aO)
def G4(s:Rs)(v:ByteArray):Rs:=
 if(!s.found||decide (FW v s.least<0))=true then { s with count:=W (s.count+1),found:=true,least:=v }else { s with count:=W (s.count+1) }
end Go.Proofs.YtpagaknmdfgfkaaGreatDoor.Rx
end
namespace Go.Proofs.YtpagaknmdfgfkaaGreatDoor
namespace Sq
open Go.Proofs.Tryz
open Go.Aw Go.Aw.D Go.Proofs Ty
open Go.Proofs.YtpagaknmdfgfkaaGreatDoor.Nu (ltB geB)
open Mv (bO bR aO)
def AY(M:List Nat)(q:Pair):List Nat:=
 if(((decide (q.a<0)||decide (q.b<0))||decide (q.a>=(M.length:Int)))||decide (q.b>=(M.length:Int)))=true then M
 else M.set q.b.toNat (M.getD q.b.toNat 0 ||| M.getD q.a.toNat 0 ||| 2^q.a.toNat)
def DD(l:List Pair)(M:List Nat):List Nat:=l.foldl AY M
def QH(l:List Pair):Nat->List Nat->List Nat
 | 0,M=>M
 | f+1,M=>if DD l M=M then M else QH l f (DD l M)
def uI(n:Nat)(l:List Pair):List Nat:=QH l (Ii (List.replicate n 0)+1) (List.replicate n 0)
def aiR{α:Type}{M:List α}{i:Nat}{u:α}(h:M[i]?=some u):M.set i u=M:=by obtain⟨hi,rfl⟩:=List.getElem?_eq_some_iff.1 h;exact List.set_getElem_self hi
def Zh{M:List Nat}{i u:Nat}(h:M[i]?=some u):M.getD i 0=u:=by rw[List.getD,h];rfl
def TJ(l:List Pair):∀(f:Nat) (M:List Nat),(QH l f M).length=M.length:=by
 have h1:∀(l:List Pair) (M:List Nat),(l.foldl AY M).length=M.length:=fun l=>by
  induction l with
  | nil=>exact fun M=>rfl
  | cons q l ih=>exact fun M=>(ih (AY M q)).trans (by unfold AY;split <;> simp)
 intro f;induction f with
 | zero=>exact fun M=>rfl
 | succ f ih=>
  intro M;unfold QH;split
  ·rfl
  ·exact(ih _).trans (h1 l M)
def Gd(n:Nat)(l:List Pair):(uI n l).length=n:=(TJ l _ _).trans Xct
def agF(n:Nat)(l:List Pair)(hn:n<=60)(hl:l.length<=1048576):PC prog 171 [int (n:Nat),.sl (l.map dH)] (.sl ((uI n l).map fun n:Nat=>[int (n:Nat)])):=by
 refine pcd func171 rfl rfl ?_;simp only[go_sem];have ao:eV (n:Int) 0=(n:Nat):=by unfold eV;split <;> omega
 rw[ao];refine⟨by omega,?_⟩;rw[Xaq];generalize hR:uI n l=RR;refine fO fun j ai aw (R:ai j=some ((⟨3,1,List.replicate n [int 0]⟩:Row))) N=>?_
 simp only[go_sem];have R:ai j=some (FL (List.replicate n 0)):=by rw[R,FL,List.map_replicate];rfl
 refine⟨fun ρ H=>∃(j:Nat) (L:List Nat) (b:Bool),ρ 1=.sl (l.map dH)/\ρ 5=.os j/\ρ 6=boo b/\H j=some (FL L)/\L.length=n/\(∀a∈L,a<2^62)/\(b=true->∃f,Ii L<f/\QH l f L=RR)/\(b=false->L=RR),fun ρ H=>aoA (ρ 5) (ρ 6) H,⟨j,_,true,rfl,rfl,rfl,R,Xct,fun a ha=>by rw[List.eq_of_mem_replicate ha];decide,fun _=>⟨_,Nat.lt_succ_self _,hR⟩,fun h=>(by cases h)⟩,?_⟩;rintro ρ H ⟨j,L,b,e1,O,e6,R,hL,hB,hT,hF⟩;simp only[go_sem,O,e6];refine aA (fun hb=>?_) (fun hb=>?_)
 case refine_2=>simp only[go_sem,O];rw[<-hF hb];exact .row _ _ _ R (ConvE.refl _)
 have hb:b=true:=hb;subst hb;obtain⟨f,av,J⟩:=hT rfl;obtain⟨f,rfl⟩:∃f',f=f'+1:=⟨f-1,by omega⟩;have J:(if DD l L=L then L else QH l f (DD l L))=RR:=J;simp only[go_sem,e1,Xab];rw[acP R];refine⟨fun ρ H=>∃(k:Nat) (j:Nat) (M:List Nat) (b:Bool),k<=l.length/\ρ 1=.sl (l.map dH)/\ρ 5=.os j/\ρ 6=boo b/\ρ 16=.sl (l.map dH)/\ρ 17=int l.length/\ρ 18=int (k:Nat)/\H j=some (FL M)/\M.length=n/\(∀a∈M,a<2^62)/\Ii M<=Ii L/\(b=true->Ii M<Ii L)/\(b=false->M=L)/\M=(l.take k).foldl AY L,fun ρ _=>l.length-aR (ρ 18),⟨0,j,L,false,Xaa _,e1,O,rfl,rfl,rfl,by simp only[go_sem];rfl,R,hL,hB,Xaf _,(fun h=>(by cases h)),fun _=>rfl,rfl⟩,?_⟩;rintro ρ H ⟨k,j,M,b,hk,e1,O,e6,ab,aa,X,R,hL,hB,aj,E,I,Z⟩;simp only[go_sem,aa,X];refine aA (fun F=>?_) (fun ad=>?_)
 case refine_2=>
  have ad:=geB hk (by simpa using ad);simp only[go_sem,e1,O,e6];rw[Xan (by omega)]at Z;refine⟨⟨j,M,b,rfl,rfl,R,hL,hB,fun hb=>⟨f,by have:=E hb;omega,?_⟩,fun hb=>?_⟩,?_⟩
  ·have ap:DD l L≠L:=fun e=>by have:=E hb;rw[Z]at this;unfold DD at e;rw[e]at this;omega
   rw[if_neg ap]at J;rw[Z];exact J
  ·have e2:=I hb;rw[if_pos (show DD l L=L from Z.symm.trans e2)]at J;exact e2.trans J
  cases b with
  | true=>rw[acP R];have:=E rfl;omega
  | false=>rw[arK];omega
 have F:=ltB (by simpa using F);obtain⟨q,hq⟩:=aK F;have b1:=inB F;have U:=lH (f:=AY) (b:=L) hq;rw[<-Z]at U;simp only[go_sem,ab,X,aD hq,b1];refine aL fun i8 ag=>?_
 simp only[go_sem,];refine cJ ag (by simp[nP]) fun Y (R8:Y i8=some (⟨169,2,[dH q]⟩)) N=>?_
 replace R:=N R;obtain⟨ah,R⟩:=R;simp only[go_sem,];refine gU [i8] [(0,true),(1,true),(2,true),(3,true),(4,true),(5,true)] (by simp[R8]) (by kernel_rfl) fun Hp Hr hp hr _ an=>?_
 have ak:=(hp i8 (by simp)).trans R8;simp only[go_sem,ak];refine⟨by decide,by decide,qF hr ?_⟩;simp only[go_sem,O,R,Xab];refine aA (fun hc=>?_) (fun hc=>?_)
 ·simp only[go_sem,e1,O,e6,ab,aa,X,aQ k];exact⟨⟨k+1,j,M,b,F,rfl,rfl,rfl,R,hL,hB,aj,E,I,by rw[U];unfold AY;rw[if_pos hc]⟩,by simp only[aN];omega⟩
 have ac:AY M q=M.set q.b.toNat (M.getD q.b.toNat 0 ||| M.getD q.a.toNat 0 ||| 2^q.a.toNat):=by unfold AY;rw[if_neg (by rw[hc];simp)]
 simp only[Xag,decide_eq_false_iff_not]at hc;obtain⟨⟨⟨c1,c2⟩,c3⟩,c4⟩:=hc;obtain⟨A,hA⟩:=Int.eq_ofNat_of_zero_le (show 0<=q.a by omega);obtain⟨B,ae⟩:=Int.eq_ofNat_of_zero_le (show 0<=q.b by omega);rw[hA]at c3;rw[ae]at c4;have af:A<M.length:=by omega
 have V:B<M.length:=by omega
 obtain⟨u,hu⟩:=aK V;obtain⟨w,hw⟩:=aK af;rw[hA,ae,Xaq,Xaq,Zh hu,Zh hw]at ac;rw[ac]at U;have g1:=aD (f:=fun n:Nat=>[int (n:Nat)]) hu;have g2:=aD (f:=fun n:Nat=>[int (n:Nat)]) hw;have d1:=inB V;have d2:=inB af;have bu:=hB u (Xac hu);have bw:=hB w (Xac hw);have b2:2^A<2^62:=Xdc (by decide) (by omega);have o1:u ||| w<2^62:=Nat.or_lt_two_pow bu bw;have o2:u ||| w ||| 2^A<2^62:=Nat.or_lt_two_pow o1 b2;have v1:xR .or .i64 (u:Int) (w:Int)=((u ||| w:Nat):Int):=Jw (by omega) (by omega);have v2:xR .or .i64 ((u ||| w:Nat):Int) ((2^A:Nat):Int)=((u ||| w ||| 2^A:Nat):Int):=Jw (by omega) (by omega);have v3:shV .shl .i64 1 (A:Int)=((2^A:Nat):Int):=JP (by omega);have ad:u<=u ||| w ||| 2^A:=Xam Nat.left_le_or Nat.left_le_or;simp only[go_sem,];refine gU [j] [(0,true),(1,true),(2,true),(3,true),(4,true),(5,true),(6,true),(7,true),(8,true),(9,true),(10,true),(11,true),(12,true)] (by simp[R]) (by kernel_rfl) fun Hp Hr hp hr _ an=>?_
 have aq:=(hp j (by simp)).trans R;simp only[go_sem,O,hA,ae,g1,g2,d1,d2,Xab,v1,v2,v3,aq];refine⟨V,af,?_⟩;refine qF hr ?_;simp only[go_sem,O,R,g1,d1,Xab,];refine⟨V,aA (fun hd=>?_) (fun hd=>?_)⟩
 ·have hd : u < u ||| w ||| 2 ^ A := by have:(((u ||| w ||| 2^A:Nat):Int) != (u:Int))=true:=hd;simp only[bne_iff_ne,ne_eq]at this;omega
  simp only[go_sem,O,R,d1,Xab];generalize ar:u ||| w ||| 2^A=v at *;refine dS so3 R (by rw[Xab];exact⟨V,rfl,Xaf 1⟩) ?_;have al:(M.map fun n:Nat=>[int (n:Nat)]).set B (oV ((M.map fun n:Nat=>[int (n:Nat)]).getD B []) 0 [int (v:Nat)])=(M.set B v).map fun n:Nat=>[int (n:Nat)]:=by rw[g1,List.map_set];rfl
  have R3:aM Y j (some (⟨3,1,(M.map fun n:Nat=>[int (n:Nat)]).set B (oV ((M.map fun n:Nat=>[int (n:Nat)]).getD B []) 0 [int (v:Nat)])⟩:Row)) j=some (FL (M.set B v)):=by rw[aB,al]
  generalize aM Y j _=H3 at R3 |-;have au:=Pz hu hd (Nat.le_of_lt o2);simp only[go_sem,e1,O,ab,aa,X,aQ k];exact⟨⟨k+1,j,M.set B v,true,F,rfl,rfl,rfl,R3,by rw[List.length_set,hL],fun a ha=>by
   rcases List.mem_or_eq_of_mem_set ha with ha|rfl
   ·exact hB a ha
   ·exact o2,by omega,(fun _=>by omega),(fun h=>by cases h),U.symm⟩,by simp only[aN];omega⟩
 ·simp only[go_sem,e1,O,e6,ab,aa,X,aQ k];have am:u ||| w ||| 2^A=u:=by have:(((u ||| w ||| 2^A:Nat):Int) != (u:Int))=false:=hd;simp only[bne_eq_false_iff_eq]at this;omega
  exact⟨⟨k+1,j,M,b,F,rfl,rfl,rfl,R,hL,hB,aj,E,I,by rw[U,am,aiR hu]⟩,by simp only[aN];omega⟩
def Oo(x:Instance)(i:Int):Bool:=match x.orders[i.toNat]? with|some o=>o.off|none=>false
def xO(x:Instance)(set:Int):Int:=
 if set<0 then 2
 else if((cZ set).any fun a=>decide (a>=(x.orders.length:Int)))=true then 2
 else if((cZ set).any (Oo x))=true then 9
 else if(x.apart.any fun q=>dN set q.a&&dN set q.b)=true then 20
 else if(x.before.any fun q=>dN set q.b&& !dN set q.a)=true then 21
 else if((cZ set).any fun a=>dN (((uI x.orders.length x.before).getD a.toNat 0:Nat):Int) a)=true then 21
 else 0
def Ec{α:Type}{p:α->Bool}{l:List α}{k:Nat}{a:α}(h:l[k]?=some a)(E:p a=true):l.any p=true:=Xao.2 ⟨a,Xac h,E⟩
def pK{α:Type}{p:α->Bool}{l:List α}(h:∀a∈l,p a=false):l.any p=false:=Xbb.2 fun a E=>by rw[h a E];simp
def ZK(x:Instance)(set:Int)(hx:x.orders.length<=60)(ha:x.apart.length<=1048576)(hb:x.before.length<=1048576):PC prog 113 [.agg (aC x),int set] (int (xO x set)):=by
 refine pcd func113 rfl rfl ?_;simp only[go_sem];have J:xO x set=(if set<0 then 2
  else if((cZ set).any fun a=>decide (a>=(x.orders.length:Int)))=true then 2
  else if((cZ set).any (Oo x))=true then 9
  else if(x.apart.any fun q=>dN set q.a&&dN set q.b)=true then 20
  else if(x.before.any fun q=>dN set q.b&& !dN set q.a)=true then 21
  else if((cZ set).any fun a=>dN (((uI x.orders.length x.before).getD a.toNat 0:Nat):Int) a)=true then 21
  else 0):=rfl
 generalize xO x set=RP at *;apply aA <;> intro O
 ·rw[if_pos (of_decide_eq_true O)]at J;simp only[go_sem];rw[J];exact .refl _
 rw[if_neg (of_decide_eq_false O)]at J;simp only[go_sem];refine aG (mU set) ?_;have a6:=aeS set;have ap:=fun a=>@ajE set a
 generalize cZ set=S at *;simp only[go_sem,Xab];refine⟨fun ρ H=>∃(k:Nat),k<=S.length/\ρ 1=int set/\ρ 2=.rp (aC x) 0/\ρ 5=.sl (S.map bC)/\ρ 21=.sl (S.map bC)/\ρ 22=int (S.length:Nat)/\ρ 23=int k/\(∀a∈S.take k,a<(x.orders.length:Int)),fun ρ _=>S.length-aR (ρ 23),⟨0,Xaa _,rfl,rfl,rfl,rfl,rfl,(by simp only[go_sem];rfl),by simp⟩,?_⟩;rintro ρ H ⟨k,Z,V,U,X,al,av,ah,hz⟩;simp only[go_sem,av,ah];refine aA (fun E=>?_) (fun F=>?_)
 ·have E:=ltB (by simpa using E);obtain⟨a,I⟩:=aK E;have b1:=inB E;simp only[go_sem,U,al,ah,aD I,b1,Xab];apply aA <;> intro O
  ·rw[if_pos (Ec I O)]at J;simp only[go_sem];rw[J];exact .refl _
  ·have O:¬a>=(x.orders.length:Int):=of_decide_eq_false O;simp only[go_sem,V,U,X,al,av,ah,aQ k];exact⟨⟨k+1,E,rfl,aO (p:=fun a:Int=>a<(x.orders.length:Int)) I (by omega) hz⟩,msr E⟩
 have F:=geB Z (by simpa using F);subst F;rw[Xad]at hz;rw[if_neg (by rw[pK fun a ha=>decide_eq_false (by have:=hz a ha;omega)];simp)]at J;simp only[go_sem,X,Xab];refine⟨fun ρ H=>∃(k:Nat),k<=S.length/\ρ 1=int set/\ρ 2=.rp (aC x) 0/\ρ 5=.sl (S.map bC)/\ρ 33=.sl (S.map bC)/\ρ 34=int (S.length:Nat)/\ρ 35=int k/\(∀a∈S.take k,Oo x a=false),fun ρ _=>S.length-aR (ρ 35),⟨0,Xaa _,by simp only[go_sem,V,],by simp only[go_sem,U,],by simp only[go_sem,X,],by simp only[go_sem],by simp only[go_sem],(by simp only[go_sem];rfl),by simp⟩,?_⟩;rintro ρ H ⟨k,Z,V,U,X,an,au,aj,hy⟩;simp only[go_sem,au,aj];refine aA (fun E=>?_) (fun F=>?_)
 ·have E:=ltB (by simpa using E);obtain⟨a,I⟩:=aK E;have b1:=inB E;obtain⟨A,rfl⟩:=ap a (Xac I);have hA:=hz _ (Xac I);have Y:A<x.orders.length:=by omega
  obtain⟨o,ho⟩:=aK Y;have b2:=inB Y;have aa:Oo x (A:Int)=o.off:=by unfold Oo;rw[Xaq,ho]
  simp only[go_sem,U,an,aj,aD I,b1,aD ho,b2];apply aA <;> intro O
  ·rw[if_pos (Ec (p:=Oo x) I (aa.trans O))]at J;simp only[go_sem];rw[J];exact .refl _
  ·simp only[go_sem,V,U,X,an,au,aj,aQ k];exact⟨⟨k+1,E,rfl,aO (p:=fun a=>Oo x a=false) I (aa.trans O) hy⟩,msr E⟩
 have F:=geB Z (by simpa using F);subst F;rw[Xad]at hy;rw[if_neg (by rw[pK hy];simp)]at J;simp only[go_sem,U,Xab];refine⟨fun ρ H=>∃(k:Nat),k<=x.apart.length/\ρ 1=int set/\ρ 2=.rp (aC x) 0/\ρ 5=.sl (S.map bC)/\ρ 47=.sl (x.apart.map dH)/\ρ 48=int (x.apart.length:Nat)/\ρ 49=int k/\(∀q∈x.apart.take k,(dN set q.a&&dN set q.b)=false),fun ρ _=>x.apart.length-aR (ρ 49),⟨0,Xaa _,by simp only[go_sem,V,],by simp only[go_sem,U,],by simp only[go_sem,X,],by simp only[go_sem],by simp only[go_sem],(by simp only[go_sem];rfl),by simp⟩,?_⟩;rintro ρ H ⟨k,Z,V,U,X,ak,aq,af,hv⟩;simp only[go_sem,aq,af];refine aA (fun E=>?_) (fun F=>?_)
 ·have E:=ltB (by simpa using E);obtain⟨q,hq⟩:=aK E;have b1:=inB E;simp only[go_sem,ak,af,aD hq,b1];refine aL fun a4 ab=>?_
  simp only[go_sem];refine cJ ab (by simp[nP]) fun ae (aw:ae a4=some (⟨169,2,[dH q]⟩)) N=>?_
  simp only[go_sem,V,aw];refine⟨by decide,PC.use (yJ set q.a) ?_⟩;simp only[go_sem,V,aw];refine⟨fun _=>by decide,_,fun _=>(yJ set q.b).q rfl,?_⟩;simp only[go_sem];apply aA <;> intro O
  ·rw[if_pos (Ec (p:=fun q:Pair=>dN set q.a&&dN set q.b) hq O)]at J;simp only[go_sem];rw[J];exact .refl _
  ·simp only[go_sem,V,U,X,ak,aq,af,aQ k];exact⟨⟨k+1,E,rfl,aO (p:=fun q:Pair=>(dN set q.a&&dN set q.b)=false) hq O hv⟩,msr E⟩
 have F:=geB Z (by simpa using F);subst F;rw[Xad]at hv;rw[if_neg (by rw[pK hv];simp)]at J;simp only[go_sem,U,Xab];refine⟨fun ρ H=>∃(k:Nat),k<=x.before.length/\ρ 1=int set/\ρ 2=.rp (aC x) 0/\ρ 5=.sl (S.map bC)/\ρ 65=.sl (x.before.map dH)/\ρ 66=int (x.before.length:Nat)/\ρ 67=int k/\(∀q∈x.before.take k,(dN set q.b&& !dN set q.a)=false),fun ρ _=>x.before.length-aR (ρ 67),⟨0,Xaa _,by simp only[go_sem,V,],by simp only[go_sem,U,],by simp only[go_sem,X,],by simp only[go_sem],by simp only[go_sem],(by simp only[go_sem];rfl),by simp⟩,?_⟩;rintro ρ H ⟨k,Z,V,U,X,am,a0,ai,hw⟩;simp only[go_sem,a0,ai];refine aA (fun E=>?_) (fun F=>?_)
 ·have E:=ltB (by simpa using E);obtain⟨q,hq⟩:=aK E;have b1:=inB E;simp only[go_sem,am,ai,aD hq,b1];refine aL fun a5 ac=>?_
  simp only[go_sem];refine cJ ac (by simp[nP]) fun ag (ax:ag a5=some (⟨169,2,[dH q]⟩)) N=>?_
  simp only[go_sem,V,ax];refine⟨by decide,PC.use (yJ set q.b) ?_⟩;simp only[go_sem,V,ax];refine⟨fun _=>by decide,_,fun _=>(yJ set q.a).q rfl,?_⟩;simp only[go_sem];apply aA <;> intro O
  ·rw[if_pos (Ec (p:=fun q:Pair=>dN set q.b&& !dN set q.a) hq O)]at J;simp only[go_sem];rw[J];exact .refl _
  ·simp only[go_sem,V,U,X,am,a0,ai,aQ k];exact⟨⟨k+1,E,rfl,aO (p:=fun q:Pair=>(dN set q.b&& !dN set q.a)=false) hq O hw⟩,msr E⟩
 have F:=geB Z (by simpa using F);subst F;rw[Xad]at hw;rw[if_neg (by rw[pK hw];simp)]at J;simp only[go_sem,U,Xab];have hL:=Gd x.orders.length x.before;refine aG (agF x.orders.length x.before hx hb) ?_;generalize uI x.orders.length x.before=CH at *;simp only[go_sem,X,Xab];refine⟨fun ρ H=>∃(k:Nat),k<=S.length/\ρ 14=.sl (CH.map fun n:Nat=>[int (n:Nat)])/\ρ 89=.sl (S.map bC)/\ρ 90=int (S.length:Nat)/\ρ 91=int k/\(∀a∈S.take k,dN ((CH.getD a.toNat 0:Nat):Int) a=false),fun ρ _=>S.length-aR (ρ 91),⟨0,Xaa _,by simp only[go_sem],by simp only[go_sem],by simp only[go_sem],(by simp only[go_sem];rfl),by simp⟩,?_⟩;rintro ρ H ⟨k,Z,ay,ar,ao,ad,hu⟩;simp only[go_sem,ao,ad];refine aA (fun E=>?_) (fun F=>?_)
 ·have E:=ltB (by simpa using E);obtain⟨a,I⟩:=aK E;have b1:=inB E;obtain⟨A,rfl⟩:=ap a (Xac I);have hA:=hz _ (Xac I);have Y:A<CH.length:=by omega
  obtain⟨o,ho⟩:=aK Y;have b2:=inB Y;have az:dN ((CH.getD ((A:Int)).toNat 0:Nat):Int) (A:Int)=dN (o:Nat) (A:Nat):=by rw[Xaq,Zh ho]
  have g1:=aD (f:=fun n:Nat=>[int (n:Nat)]) ho;simp only[go_sem,ay,ar,ad,aD I,b1,g1,b2];refine aG (yJ (o:Nat) (A:Nat)) ?_;simp only[go_sem];apply aA <;> intro O
  ·rw[if_pos (Ec (p:=fun a=>dN ((CH.getD a.toNat 0:Nat):Int) a) I (az.trans O))]at J;simp only[go_sem];rw[J];exact .refl _
  ·simp only[go_sem,ay,ar,ao,ad,aQ k];exact⟨⟨k+1,E,rfl,aO (p:=fun a=>dN ((CH.getD a.toNat 0:Nat):Int) a=false) I (az.trans O) hu⟩,msr E⟩
 have F:=geB Z (by simpa using F);subst F;rw[Xad]at hu;rw[if_neg (by rw[pK hu];simp)]at J;simp only[go_sem];rw[J];exact .refl _
end Sq
namespace Nu.Ps
open Go.Aw Go.Aw.D Go.Proofs Ty Go.Nu Go.So
structure Priced where
 column:Column
 reduced:ByteArray
def cG(x:Priced):List AV:=[.v (.int .i64 x.column.type),.v (.int .i64 x.column.set),.v (.int .i64 x.column.price),.v (.int .i64 x.column.route.type),.v (.int .i64 x.column.route.start),.sl (x.column.route.rests.map dI),.sl (x.column.route.visits.map aF),.v (.string x.reduced)]
def jX(x:Priced):(cG x).length=8:=(rfl)
def Sj(x:Priced):(cG x).getD 0 .any=.v (.int .i64 x.column.type):=(rfl)
def PE(x:Priced):(cG x).getD 1 .any=.v (.int .i64 x.column.set):=(rfl)
def Qh(x:Priced):(cG x).getD 2 .any=.v (.int .i64 x.column.price):=(rfl)
def Sz(x:Priced):(cG x).getD 7 .any=.v (.string x.reduced):=(rfl)
def KR(x:Priced):(cG x).take 8=cG x:=(rfl)
def I7(x:Priced):(cG x).drop 8=[]:=(rfl)
def Kq(x:Priced):(cG x).take 7=aU x.column:=(rfl)
attribute [go_sem] jX Sj PE Qh Sz KR Kq
abbrev wJ(gf:Nat):AV:=.v (.func (.func gf) #[] #[])
abbrev mQ(l:List Priced):Row:=⟨64,8,l.map cG⟩
def Uo(H:aH)(j:Nat)(a b:Option Row):aM (aM H j a) j b=aM H j b:=by funext k;unfold aM;split <;> rfl
def qL{H:aH}{j:Nat}{r:Row}(h:H j=some r):aM H j (some r)=H:=by
 funext k;unfold aM;split
 ·next e=>rw[e,h]
 ·rfl
end Nu.Ps
namespace Nu.Ps
open Go.Proofs.Tryz
open Go.Aw Go.Aw.D Go.Proofs Ty Go.Nu Go.So
abbrev TB:=Priced×Nat
def fs(L:List TB):List Priced:=L.map Prod.fst
structure CmpOk(gf:Nat)(lt:Priced->Priced->Bool)(ok:Priced->Prop):Prop where
 call:aE Tryz.prog gf=true
 cmp:∀x y,ok x->ok y->∃n:Int,decide (n<0)=lt x y/\PC Tryz.prog gf [.agg (cG x),.agg (cG y)] (int n)
end Nu.Ps
namespace Nu.Ps
open Go.Aw Go.Aw.D Go.Proofs Ty Go.Nu Go.So
section
variable{gf:Nat}{lt:Priced->Priced->Bool}{ok:Priced->Prop}
end
end Nu.Ps
namespace Nu.Ps
open Go.Aw Go.Aw.D Go.Proofs Ty Go.Nu Go.So
section
variable{gf:Nat}{lt:Priced->Priced->Bool}{ok:Priced->Prop}
end
end Nu.Ps
namespace Nu.Ps
open Go.Aw Go.Aw.D Go.Proofs Go.Nu Go.So
def ltP(a b:Priced):Bool:=decide (tO a.reduced<tO b.reduced)
def tN(m:Priced):List Priced->Priced
 | []=>m
 | p::l=>tN (if ltP p m=true then p else m) l
def Ke:∀(l:List Priced) (m:Priced),tN m l∈m::l
 | [],m=>by simp[tN]
 | p::l,m=>by
  have ih:=Ke l (if ltP p m=true then p else m);show tN (if ltP p m=true then p else m) l∈m::p::l;rcases Xbg.1 ih with h|h
  ·rw[h];split <;> simp
  ·simp[h]
def Jo:∀(l acc:List Priced),(l.foldl (fun acc x=>ins ltP x acc) acc).Perm (acc++l)
 | [],acc=>by simp
 | x::l,acc=>(Jo l _).trans (((Tp ltP x acc).append_right l).trans (by show(x::(acc++l)).Perm (acc++x::l);exact List.perm_middle.symm))
def Kk(l:List Priced):(CO ltP l).Perm l:=Jo l []
def J6(p:Priced):Bool:=decide (tO p.reduced<0)
def asA(l:List Priced):List Priced:=(CO ltP l).takeWhile J6
end Nu.Ps
namespace Nu
open Go.Proofs.Tryz
open Go.Aw Go.Aw.D Go.Proofs Ty Go.Nu
def Yn{a b:Nat}(I:a<2^63)(F:b<2^63):xR .and .i64 (a:Int) (b:Int)=((a &&& b:Nat):Int):=by
 have h:((BitVec.ofInt 64 (a:Int) &&& BitVec.ofInt 64 (b:Int)).toNat:Int)=((a &&& b:Nat):Int):=by
  rw[BitVec.toNat_and,BitVec.toNat_ofInt,BitVec.toNat_ofInt];have h1:((a:Int)%((2^64:Nat):Int)).toNat=a:=by omega
  have E:((b:Int)%((2^64:Nat):Int)).toNat=b:=by omega
  rw[h1,E]
 refine Eq.trans (congrArg IntKind.i64.wrap h) ?_;have:=Nat.and_lt_two_pow a F;exact aW (by omega)
def wH{x:Int}{i:Nat}(h:i<=62):shV .shr .i64 x (i:Int)=x/2^i:=Sq.wH h
def dN(set i:Int):Bool:=decide (i>=0)&&decide (i<=62)&&((set/2^i.toNat)%2 == 1)
def yJ(set i:Int):PC prog 118 [int set,int i] (boo (dN set i)):=Sq.yJ set i
def qO(set:Int)(k:Nat):List Int:=((List.range k).filter fun i:Nat=>dN set (i:Int)).map fun i:Nat=>(i:Int)
def cZ(set:Int):List Int:=qO set 63
def oN(set:Int)(k:Nat):qO set (k+1)=qO set k++(if dN set (k:Int)=true then[(k:Int)]else[]):=Sq.oN set k
def nQ(set:Int)(k:Nat):(qO set k).length<=k:=Sq.nQ set k
def pA(l:List Int):Row:=⟨3,1,l.map bC⟩
def mU(set:Int):PC prog 114 [int set] (.sl ((cZ set).map bC)):=Sq.mU set
def uN:Nat->Nat->Nat
 | 0,_=>0
 | k+1,n=>n%2+uN k (n/2)
def Mt:∀(k n:Nat),uN (k+1) n=uN k n+(n/2^k)%2
 | 0,n=>by simp[uN]
 | k+1,n=>by rw[uN,Mt k (n/2),uN,Nat.div_div_eq_div_mul,show 2*2^k=2^(k+1)by rw[Xbk,Nat.mul_comm]];omega
def Ma:∀k:Nat,uN k 0=0
 | 0=>rfl
 | k+1=>by rw[uN,Ma k]
def Ci:∀k n:Nat,uN k n<=k
 | 0,_=>Xaf 0
 | k+1,n=>by have:=Ci k (n/2);rw[uN];omega
def Ip(n:Nat):∀k:Nat,k<=63->(qO (n:Int) k).length=uN k n
 | 0,_=>rfl
 | k+1,hk=>by
  rw[oN,Xae,Ip n k (by omega),Mt];have h:dN (n:Int) (k:Int)=decide ((n/2^k)%2=1):=by
   unfold dN;rw[show decide ((k:Int)>=0)=true by simp,show decide ((k:Int)<=62)=true by simp;omega,Xaq,Xbc,Xbc];rw[Xap,Xat,decide_eq_true_iff];have:((n:Int)/2^k)=((n/2^k:Nat):Int):=by norm_cast
   rw[this];omega
  rw[h];by_cases E:(n/2^k)%2=1
  ·simp[E]
  ·have:(n/2^k)%2=0:=by omega
   simp[this]
def aeL(n:Nat):PC prog 69 [int n] (int (uN 63 n:Nat)):=by
 have U:=Ip n 63 (Xaf _);have X:=Ci 63 n;refine pcd func69 rfl rfl ?_;simp only[go_sem];refine aG (mU n) ?_;simp only[go_sem,Xab,cZ,U];generalize uN 63 n=P at *;refine⟨fun ρ _=>∃k:Nat,k<=P/\ρ 3=int k/\ρ 6=int (P:Nat)/\ρ 7=int k,fun ρ _=>P-aR (ρ 7),⟨0,Xaa _,by simp only[go_sem];rfl,rfl,by simp only[go_sem];rfl⟩,?_⟩;rintro ρ H ⟨k,V,I,O,J⟩;simp only[go_sem,O,J];refine aA (fun E=>?_) (fun F=>?_)
 ·have E:=ltB E;simp only[go_sem,I,O,J,aQ k];exact⟨⟨k+1,E,rfl⟩,by simp only[aN];omega⟩
 ·have F:=geB V F;subst F;simp only[go_sem,I];exact .refl _
def anR(n:Nat)(hn:n<9223372036854775808):PC prog 213 [int n] (int (uN 63 n:Nat)):=by
 have V:=Ci 63 n;refine pcd func213 rfl rfl ?_;simp only[go_sem];refine⟨fun ρ _=>∃k m c:Nat,k<=63/\ρ 0=int m/\ρ 3=int c/\m<2^(63-k)/\c+uN (63-k) m=uN 63 n,fun ρ _=>aR (ρ 0),⟨0,n,0,Xaa _,rfl,by simp only[go_sem];rfl,hn,by simp⟩,?_⟩;rintro ρ H ⟨k,m,c,hk,h0,O,F,J⟩;simp only[go_sem,h0];refine aA (fun E=>?_) (fun I=>?_)
 ·have E:0<m:=by simpa using E
  obtain⟨d,hd⟩:∃d,63-k=d+1:=⟨62-k,by
   rcases Xav k 63 with h|h
   ·omega
   ·have:k=63:=by omega
    subst this;simp at F;omega⟩
  rw[hd]at F J;have Z:m<9223372036854775808:=Xbs F (show 2^(d+1)<=2^63 from Xau (by decide) (by omega));rw[uN]at J;rw[Xbk]at F;have X:((m:Int)).tmod 2=((m%2:Nat):Int):=rfl;have U:IntKind.i64.wrap (((m:Int)).tdiv 2)=((m/2:Nat):Int):=by rw[show((m:Int)).tdiv 2=((m/2:Nat):Int)from rfl,aW (by omega)]
  have Y:IntKind.i64.wrap ((c:Int)+((m%2:Nat):Int))=((c+m%2:Nat):Int):=by rw[aW (by omega)];omega
  simp only[go_sem,h0,O,X,U,Y];refine⟨by decide,by decide,?_⟩;exact⟨⟨k+1,m/2,c+m%2,by omega,rfl,rfl,by rw[show 63-(k+1)=d by omega];omega,by rw[show 63-(k+1)=d by omega];omega⟩,by simp only[aN];omega⟩
 ·have hz:m=0:=by simpa using I
  subst hz;rw[Ma]at J;simp only[go_sem,O];exact cI (by omega)
def pF(p:Int×Int):List AV:=[int p.1,int p.2]
def zD(m:List (Int×Int))(o:Int):Option Nat:=m.findIdx? fun p=>p.1 == o
def zT(m:List (Int×Int))(o:Int):Int:=((m.find? fun p=>p.1 == o).map (·.2)).getD 0
def G4(m:List (Int×Int))(o v:Int):List (Int×Int):=match zD m o with
 | some i=>m.set i (o,v)
 | none=>m++[(o,v)]
abbrev BC(m:List (Int×Int)):Row:=⟨0,2,m.map pF⟩
def zA(o:Int):∀(m:List (Int×Int)) (i:Nat),wX (tL prog 3 (int o)) (m.map pF) i=some ((zD m o).map (·+i))
 | [],i=>rfl
 | p::m,i=>by
  have ih:=zA o m (i+1);have E:tL prog 3 (int o) ((pF p).getD 0 .any)=some (o == p.1):=by show tL prog 3 (int o) (int p.1)=_;unfold tL;simp only[kk3];simp[xY]
  rw[Xbf,wX,E];unfold zD at *;rw[List.findIdx?_cons];by_cases h:o=p.1
  ·subst h;simp
  ·have h1:(o == p.1)=false:=by simpa using h
   have F:(p.1 == o)=false:=by simpa using fun e=>h e.symm
   rw[h1,F];simp only[Xaz,if_false];rw[ih];cases m.findIdx? (fun p=>p.1 == o)with
   | none=>rfl
   | some j=>simp;omega
def pV(o:Int)(m:List (Int×Int)):wX (tL prog 3 (int o)) (m.map pF) 0=some (zD m o):=by rw[zA];cases zD m o <;> rfl
def sW(o:Int):pE prog 3 (int o)=true:=by simp only[pE,kk3];rfl
def Es(m:List (Int×Int))(o:Int):OZ false (int 0) (m.map pF) (zD m o)=int (zT m o):=by
 unfold OZ zT zD;induction m with
 | nil=>rfl
 | cons p m ih=>
  rw[List.findIdx?_cons,List.find?_cons];cases h:p.1 == o with
  | true=>simp[pF]
  | false=>
   cases hi:m.findIdx? (fun p=>p.1 == o)with
   | none=>rw[hi]at ih;simpa using ih
   | some j=>rw[hi]at ih;simp at ih |-;exact ih
def D1(m:List (Int×Int))(o v:Int):ZU (m.map pF) (zD m o) (int o) (int v)=(G4 m o v).map pF:=by
 unfold ZU G4;cases zD m o with
 | none=>simp[pF]
 | some i=>simp[List.map_set,pF]
def I9(k:Int):Nat:=if k=1 then 2 else if k=2 then 1 else 0
def P1(k:Int)(P:Nat):Bool:=decide (I9 k>0)&&decide (I9 k<=P)
def AX(k:Int)(n:Nat):Int:=if P1 k (uN 63 n)=true then 1 else 0
def ahI(k m:Int)(a b:Nat)(U:a<2^63)(I:b<2^63):PC prog 152 [.agg [int k,int a,int m],int b] (int (AX k (a &&& b))):=by
 have E:a &&& b<2^63:=Nat.and_lt_two_pow a I;have V:=anR (a &&& b) E;have O:=Ci 63 (a &&& b);refine pcd func152 rfl rfl ?_;simp only[go_sem];rw[Yn U I];refine aG V ?_;unfold AX;generalize uN 63 (a &&& b)=P at *;simp only[go_sem];have J:((k == 1&&decide ((P:Int)>=2))||(k == 2&&decide ((P:Int)>=1)))=P1 k P:=by
  unfold P1 I9;by_cases h1:k=1
  ·subst h1;simp;omega
  ·by_cases F:k=2
   ·subst F;simp;omega
   ·simp[h1,F]
 rw[J];refine aA (fun h=>?_) (fun h=>?_)
 ·simp only[go_sem];exact cI (by rw[if_pos h])
 ·simp only[go_sem];exact cI (by rw[if_neg (by rw[h];simp)])
def arJ(k m:Int)(a b:Nat)(ha:a<2^63)(Y:b<2^63):PC prog 126 [.agg [int k,int a,int m],int b] (int (AX k (a &&& b))):=by
 have hs:=aeL (a &&& b);have X:=Ci 63 (a &&& b);refine pcd func126 rfl rfl ?_;simp only[go_sem];refine aL fun jm I=>?_
 generalize E:aM bQ jm _=HM;have O:HM jm=some (BC []):=by rw[<-E,aB];rfl
 clear E I;simp only[go_sem];refine NF O IU (sW _) (pV _ _) ?_;rw[D1];generalize E:aM HM jm _=HN;have J:HN jm=some (BC [(1,2)]):=by rw[<-E,aB];rfl
 clear E O;simp only[go_sem];refine NF J IU (sW _) (pV _ _) ?_;rw[D1];generalize E:aM HN jm _=HO;have Ro:HO jm=some (BC [(1,2),(2,1)]):=by rw[<-E,aB];rfl
 clear E J;simp only[go_sem];refine Ff Ro IU (sW _) (pV _ _) zv3 ?_;rw[Es];have U:zT [(1,2),(2,1)] k=(I9 k:Nat):=by
  unfold zT I9;by_cases h1:k=1
  ·subst h1;rfl
  ·by_cases F:k=2
   ·subst F;rfl
   ·have V:((1:Int) == k)=false:=by simpa using fun e=>h1 e.symm
    have Z:((2:Int) == k)=false:=by simpa using fun e=>F e.symm
    simp[List.find?,V,Z,h1,F]
 rw[U];simp only[go_sem];rw[Yn ha Y];refine⟨_,fun _=>hs.q rfl,?_⟩;unfold AX;generalize uN 63 (a &&& b)=P at *;simp only[go_sem];have hc:(decide (((I9 k:Nat):Int)>0)&&decide ((P:Int)>=((I9 k:Nat):Int)))=P1 k P:=by unfold P1;rw[Xap];simp
 rw[hc];refine aA (fun h=>?_) (fun h=>?_)
 ·simp only[go_sem];exact cI (by rw[if_pos h])
 ·simp only[go_sem];exact cI (by rw[if_neg (by rw[h];simp)])
end Nu
namespace Nu
open Go.Aw Go.Aw.D Go.Proofs Ty Go.Nu
def Eg:∀(l:List (Int×ByteArray)) (t:ByteArray),bZ t=true->(sC l t).2=0->bZ (sC l t).1=true
 | [],t,h,_=>h
 | p::l,t,h,h0=>by
  unfold sC at h0 |-;split at h0
  ·next h1=>exact absurd h0 h1
  ·next h1=>
   rw[if_neg h1];split at h0
   ·next E=>exact absurd h0 E
   ·next E=>
    rw[if_neg E];exact Eg l _ (Do (by simpa using E)) h0
def Gf{ns:List Int}{xs:List ByteArray}(h:(lL ns xs).2=0):bZ (lL ns xs).1=true:=by
 unfold lL at h |-;split at h
 ·cases h
 ·next h1=>
  rw[if_neg h1];split at h
  ·cases h
  ·next E=>rw[if_neg E];exact Eg _ _ Vy h
def U1{a b:ByteArray}(h:(D6 a b).2=0):bZ (D6 a b).1=true:=by
 unfold D6 at h |-;split at h
 ·rename_i E;rw[if_pos E];obtain⟨e,F⟩:=Ix h;rw[e];exact qE F
 ·cases h
end Nu
section
open Go.Aw Go.Aw.D Go.Proofs Ty
def gX{α:Type}{b:Bool}{f:α}(h:opt b f=[]):b=false:=by cases b <;> simp[opt]at h |-
def kY{n a b:Int}:inR n a b=true↔a<=n/\n<=b:=by unfold inR;simp only[Xai,decide_eq_true_eq]
def tR{b:Bool}(h:(!b)=false):b=true:=by simpa using h
structure TypeB(t:VType)(d:Int):Prop where
 cap:AO t.cap d=true
 skills:0<=t.skills/\t.skills<=1073741823
 start:0<=t.start/\t.start<=t.close
 close:t.close<=4096
 drive:1<=t.drive/\t.drive<=4096
 rest:0<=t.rest/\t.rest<=4096
 count:0<=t.count/\t.count<=10
def agM{n:Network}{l:List VType}{k:Nat}{t:VType}(h:pL n l k t=[]):TypeB t (kN l):=by
 unfold pL at h;simp only[Xcj,Xbr]at h;obtain⟨⟨⟨⟨⟨⟨⟨⟨_,_⟩,h3⟩,_⟩,Y⟩,V⟩,O⟩,X⟩,h9⟩:=h;have J:=kY.1 (tR (gX h3));have Z:=tR (gX Y);have U:=kY.1 (tR (gX V));have E:=Xag.1 (gX O);have F:=Xag.1 (gX X);have q7:=kY.1 (tR E.1);have I:¬t.close>4096:=by simpa using E.2
 exact⟨Z,U,q7,by omega,kY.1 (tR F.1),kY.1 (tR F.2),J⟩
structure OrdB(o:Order)(d:Int):Prop where
 load:fA o.load d=true
 pick: -1<=o.pick.place
 drop: -1<=o.drop.place
 both:(o.pick.place == -1&&o.drop.place == -1)=false
 wpick:gJ o.pick=0
 wdrop:gJ o.drop=0
 skills:0<=o.skills/\o.skills<=1073741823
 penalty: -1<=o.penalty/\o.penalty<=1000000
def aoL{P:Nat}{d T:Int}{l:List Order}{k:Nat}{o:Order}(h:lV P d T l k o=[]):OrdB o d:=by unfold lV at h;simp only[Xcj,Xbr]at h;obtain⟨⟨⟨⟨⟨⟨⟨_,_⟩,Y⟩,O⟩,V⟩,X⟩,J⟩,U⟩:=h;have F:=Xag.1 (gX O);have E:=Xag.1 (gX X);have I:=gX U;simp only[Xag]at I;refine⟨tR (gX Y),(kY.1 (tR F.1)).1,(kY.1 (tR F.2)).1,gX V,by simpa using E.1,by simpa using E.2,kY.1 (tR (gX J)),kY.1 (tR I.1.1.1.1.1.1)⟩
structure ArcOk(a:Arc):Prop where
 travel:jT a.travel=[]
 slow:a.slow.length<=16
 pt:∀p∈a.slow,(0<=p.t/\p.t<=4096)/\0<=p.a/\p.a<=4096
def adL{n:Network}{k:Nat}{a:Arc}(F:n.arcs[k]?=some a)(h:J4 n k=[]):ArcOk a:=by
 unfold J4 at h;rw[sF F]at h;simp only[Xcj,Xbr,List.map_eq_nil_iff]at h;obtain⟨⟨⟨_,I⟩,O⟩,U⟩:=h;have V:¬(a.slow.length:Int)>16:=by simpa using gX O
 refine⟨I,by omega,fun p J=>?_⟩;obtain⟨i,hi,rfl⟩:=List.getElem_of_mem J;have:=List.flatMap_eq_nil_iff.1 U i (Xar.2 hi);have E:=gX this;unfold qV at E;rw[dX (List.getElem?_eq_getElem hi)]at E;simp only[Xag]at E;exact⟨kY.1 (tR E.1.1),kY.1 (tR E.1.2)⟩
structure PairB(N:Int)(q:Pair):Prop where
 a:0<=q.a/\q.a<N
 b:0<=q.b/\q.b<N
 ne:q.a≠q.b
def Qk{N:Int}{l:List Pair}{w:ByteArray}{s:Bool}(h:yH N l w s=[]):l.length<=16/\∀q∈l,PairB N q:=by
 unfold yH at h;rw[Xbr]at h;have J:¬(l.length:Int)>16:=by simpa using gX h.1
 refine⟨by omega,fun q F=>?_⟩;obtain⟨i,hi,rfl⟩:=List.getElem_of_mem F;have:=List.flatMap_eq_nil_iff.1 h.2 i (Xar.2 hi);unfold iM at this;have I:pAt l i=l[i]:=by simp[pAt,List.getD,hi]
 rw[I]at this;split at this
 ·simp at this
 ·rename_i E;unfold Go.Proofs.YtpagaknmdfgfkaaGreatDoor.oG at E;simp only[Xag,decide_eq_false_iff_not]at E;exact⟨by omega,by omega,by simpa using E.2⟩
structure Acc(x:Instance):Prop where
 arcs:x.net.arcs.length<=1024
 arc:∀a∈x.net.arcs,ArcOk a
 types:1<=x.types.length/\x.types.length<=6
 type:∀t∈x.types,TypeB t (kN x.types)
 orders:x.orders.length<=10
 order:∀o∈x.orders,OrdB o (kN x.types)
 apart:x.apart.length<=16
 apartB:∀q∈x.apart,PairB x.orders.length q
 before:x.before.length<=16
 beforeB:∀q∈x.before,PairB x.orders.length q
def UU{x:Instance}(h:tU x=[]):Acc x:=by
 unfold tU at h;simp only[Xbr,List.map_eq_nil_iff]at h;obtain⟨⟨⟨J,I⟩,E⟩,F⟩:=h;unfold Kt at J;simp only[Xbr]at J;unfold yK at I;rw[Xbr]at I;unfold tE at E;rw[Xbr]at E;unfold FU at F;rw[Xbr]at F;obtain⟨r1,Z⟩:=Qk F.1;obtain⟨Y,X⟩:=Qk F.2;have e1:¬(x.net.arcs.length:Int)>1024:=by simpa using gX J.1.2
 have e2:=kY.1 (tR (gX I.1));have e3:¬(x.orders.length:Int)>10:=by simpa using gX E.1
 refine⟨by omega,fun a V=>?_,by omega,fun t U=>?_,by omega,fun o O=>?_,r1,Z,Y,X⟩
 ·obtain⟨i,hi,rfl⟩:=List.getElem_of_mem V;exact adL (List.getElem?_eq_getElem hi) (List.flatMap_eq_nil_iff.1 J.2 i (Xar.2 hi))
 ·obtain⟨i,hi,rfl⟩:=List.getElem_of_mem U;have:=List.flatMap_eq_nil_iff.1 I.2 i (Xar.2 hi);unfold kF at this;rw[List.map_eq_nil_iff,Tt (List.getElem?_eq_getElem hi)]at this;exact agM this
 ·obtain⟨i,hi,rfl⟩:=List.getElem_of_mem O;have:=List.flatMap_eq_nil_iff.1 E.2 i (Xar.2 hi);unfold iC at this;rw[List.map_eq_nil_iff,HU (List.getElem?_eq_getElem hi)]at this;exact aoL this
def VA{l:List Int}{d:Int}(h:fA l d=true):(l.length:Int)=d/\∀n∈l,0<=n/\n<=1000:=by
 unfold fA at h;split at h
 ·rename_i F;refine⟨F,fun n E=>?_⟩;have:=Xaj.1 h n E;simp only[Xay,Xag,decide_eq_false_iff_not]at this;omega
 ·cases h
def aiK{l:List Int}{d:Int}(h:AO l d=true):(l.length:Int)=d/\1<=d/\d<=3:=by
 unfold AO at h;split at h
 ·cases h
 ·rename_i E;simp only[Xch,Xag]at E;have h1:=kY.1 (tR E.1);have F:(l.length:Int)=d:=by simpa[bne]using E.2
  omega
end
namespace Nu
open Go.Proofs.Tryz
open Go.Aw Go.Aw.D Go.Proofs Ty Go.Nu
def xM(p:Nat->Bool):Nat->Nat
 | 0=>0
 | k+1=>xM p k+(if p k=true then 2^k else 0)
def Eo(p:Nat->Bool):∀k,xM p k<2^k
 | 0=>by simp[xM]
 | k+1=>by have:=Eo p k;rw[xM,Xbk];split <;> omega
def DA(p:Nat->Bool):∀k i,(xM p k).testBit i=(decide (i<k)&&p i)
 | 0,i=>by simp[xM]
 | k+1,i=>by
  have E:=Eo p k;have ih:=DA p k i;rw[xM];have F:xM p k+(if p k=true then 2^k else 0)=xM p k ||| (if p k=true then 2^k else 0):=by
   split
   ·rw[Xcm,Nat.or_comm];have:=Nat.two_pow_add_eq_or_of_lt E 1;simpa using this
   ·simp
  rw[F,Nat.testBit_or,ih];by_cases h:p k=true
  ·rw[if_pos h,Nat.testBit_two_pow];by_cases e:k=i
   ·subst e;simp[h]
   ·have:(decide (i<k+1))=decide (i<k):=by rw[Xap];simp;omega
    rw[this];simp[e]
  ·rw[if_neg h];by_cases e:k=i
   ·subst e;simp[h]
   ·have:(decide (i<k+1))=decide (i<k):=by rw[Xap];simp;omega
    rw[this];simp
def arZ{a k:Nat}(h:a<2^k):a ||| 2^k=a+2^k:=by rw[Nat.or_comm,Xcm];have:=Nat.two_pow_add_eq_or_of_lt h 1;simpa using this.symm
def Jw{a b:Nat}(E:a<2^63)(I:b<2^63):xR .or .i64 (a:Int) (b:Int)=((a ||| b:Nat):Int):=by
 have h:((BitVec.ofInt 64 (a:Int) ||| BitVec.ofInt 64 (b:Int)).toNat:Int)=((a ||| b:Nat):Int):=by
  rw[BitVec.toNat_or,BitVec.toNat_ofInt,BitVec.toNat_ofInt];have h1:((a:Int)%((2^64:Nat):Int)).toNat=a:=by omega
  have F:((b:Int)%((2^64:Nat):Int)).toNat=b:=by omega
  rw[h1,F]
 refine Eq.trans (congrArg IntKind.i64.wrap h) ?_;have:=Nat.or_lt_two_pow E I;exact aW (by omega)
def JP{i:Nat}(h:i<=62):shV .shl .i64 1 (i:Int)=((2^i:Nat):Int):=by
 show IntKind.i64.wrap (1*2^min ((i:Int)).toNat 64)=_;have:min ((i:Int)).toNat 64=i:=by omega
 rw[this,Int.one_mul];have E:(2:Nat)^i<=2^62:=Xau (by decide) h;have F:((2:Int)^i)=((2^i:Nat):Int):=by norm_cast
 rw[F];generalize 2^i=m at E;exact aW (by omega)
def jL{s:Nat}{i:Nat}(h1:i<=62):dN (s:Int) (i:Int)=s.testBit i:=by
 rw[Xdd];unfold dN;have E:((2:Int)^i)=((2^i:Nat):Int):=by norm_cast
 rw[Xaq,E];have:((s:Int)/((2^i:Nat):Int))=((s/2^i:Nat):Int):=rfl;rw[this];generalize s/2^i=m;rw[Xap];simp only[Xat,decide_eq_true_eq,Xai];omega
def Wb{a b:Nat}(ha:a<2^63)(Z:b<2^63):(xR .andNot .i64 (a:Int) (b:Int) == 0)=decide (a &&& b=a):=by
 have e:xR .andNot .i64 (a:Int) (b:Int)=((a-(a &&& b):Nat):Int):=by
  have h1:((a:Int)%((2^64:Nat):Int)).toNat=a:=by omega
  have J:((b:Int)%((2^64:Nat):Int)).toNat=b:=by omega
  have h:((BitVec.ofInt 64 (a:Int) &&& ~~~(BitVec.ofInt 64 (b:Int))).toNat:Int)=((a-(a &&& b):Nat):Int):=by
   have E:a &&& b<=a:=Nat.and_le_left;have I:BitVec.ofInt 64 (a:Int) &&& ~~~(BitVec.ofInt 64 (b:Int))=BitVec.ofNat 64 (a-(a &&& b)):=by
    have Y:BitVec.ofInt 64 (a:Int)=BitVec.ofNat 64 a:=by apply BitVec.eq_of_toNat_eq;rw[BitVec.toNat_ofInt,BitVec.toNat_ofNat,h1,Xbl (by omega)]
    have V:BitVec.ofInt 64 (b:Int)=BitVec.ofNat 64 b:=by apply BitVec.eq_of_toNat_eq;rw[BitVec.toNat_ofInt,BitVec.toNat_ofNat,J,Xbl (by omega)]
    rw[Y,V];have X:(BitVec.ofNat 64 a &&& ~~~BitVec.ofNat 64 b) &&& BitVec.ofNat 64 (a &&& b)=0#64:=by apply BitVec.eq_of_getLsbD_eq;intro i hi;simp only[BitVec.getLsbD_and,BitVec.getLsbD_not,BitVec.getLsbD_ofNat,Nat.testBit_and,hi,decide_true,Xbc];cases a.testBit i <;> cases b.testBit i <;> simp
    have U:(BitVec.ofNat 64 a &&& ~~~BitVec.ofNat 64 b) ||| BitVec.ofNat 64 (a &&& b)=BitVec.ofNat 64 a:=by apply BitVec.eq_of_getLsbD_eq;intro i hi;simp only[BitVec.getLsbD_or,BitVec.getLsbD_and,BitVec.getLsbD_not,BitVec.getLsbD_ofNat,Nat.testBit_and,hi,decide_true,Xbc];cases a.testBit i <;> cases b.testBit i <;> rfl
    have O:=congrArg BitVec.toNat ((BitVec.add_eq_or_of_and_eq_zero _ _ X).trans U);rw[BitVec.toNat_add,BitVec.toNat_ofNat,BitVec.toNat_ofNat,Xbl (by omega:a<2^64),Xbl (by omega:a &&& b<2^64)]at O;apply BitVec.eq_of_toNat_eq;rw[BitVec.toNat_ofNat,Xbl (by omega)];have hl:=(BitVec.ofNat 64 a &&& ~~~BitVec.ofNat 64 b).isLt;have F:(BitVec.ofNat 64 a &&& ~~~BitVec.ofNat 64 b).toNat<=a:=by rw[BitVec.toNat_and,BitVec.toNat_ofNat,Xbl (by omega:a<2^64)];exact Nat.and_le_left
    omega
   rw[I,BitVec.toNat_ofNat,Xbl (by omega)]
  refine Eq.trans (congrArg IntKind.i64.wrap h) ?_;exact aW (by omega)
 rw[e,Xap];have E:a &&& b<=a:=Nat.and_le_left;simp only[Xat,decide_eq_true_eq];omega
def Y4(a b:Nat)(F:a<2^63)(E:b<2^63):PC prog 119 [int a,int b] (boo (decide (a &&& b=a))):=by refine pcd func119 rfl rfl ?_;simp only[go_sem];exact cB (Wb F E)
def F8(q:Order->Bool)(l:List Order)(i:Nat):Bool:=match l[i]? with|some o=> !o.off&&q o|none=>false
def Jk{q:Order->Bool}{l:List Order}{i:Nat}{o:Order}(h:l[i]?=some o):F8 q l i=(!o.off&&q o):=by unfold F8;rw[h]
def Mc(q:Order->Bool)(l:List Order):Nat:=xM (F8 q l) l.length
def ajJ{g:Nat}{q:Order->Bool}(x:Instance)(hx:x.orders.length<=62)(Z:aE prog g=true)(hg:∀o∈x.orders,PC prog g [.agg (bH o)] (boo (q o))):
  PC prog 181 [.agg (aC x),.v (.func (.func g) #[] #[])] (int (Mc q x.orders:Nat)):=by
 refine pcd func181 rfl rfl ?_;simp only[go_sem];unfold Mc;generalize hp:F8 q x.orders=p;refine⟨fun ρ H=>∃(k:Nat),k<=x.orders.length/\ρ 1=.v (.func (.func g) #[] #[])/\ρ 9=.sl (x.orders.map bH)/\ρ 10=int (x.orders.length:Nat)/\ρ 11=int k/\ρ 5=int (xM p k:Nat),fun ρ _=>x.orders.length-aR (ρ 11),⟨0,Xaa _,rfl,rfl,by simp only[go_sem],(by simp only[go_sem];rfl),by simp only[go_sem];rfl⟩,?_⟩;rintro ρ H ⟨k,hk,U,e9,I,F,e5⟩;simp only[go_sem,I,F];refine aA (fun E=>?_) (fun J=>?_)
 ·have E:=ltB E;obtain⟨o,Y⟩:=aK E;have b1:=inB E;have O:p k=(!o.off&&q o):=by rw[<-hp];exact Jk Y
  have X:=Eo p k;have aa:2^k<=2^62:=Xau (by decide) (by omega);simp only[go_sem,e9,F,aD Y,b1];refine aL fun j hj=>?_
  simp only[go_sem,];refine aI (aB _ _ _) (by simp[bH]) ?_;simp only[go_sem,U,Z];refine⟨_,fun _=>(hg o (Xac Y)).q rfl,?_⟩;simp only[go_sem,];refine aA (fun V=>?_) (fun V=>?_)
  ·have q1:=JP (i:=k) (by omega);have q2:=Jw (a:=xM p k) (b:=2^k) (by omega) (by omega);simp only[go_sem,U,e9,I,F,e5,q1,q2,aQ k];refine⟨by omega,⟨k+1,E,rfl,?_⟩,by simp only[aN];omega⟩;rw[arZ X,xM,O,if_pos V]
  ·simp only[go_sem,U,e9,I,F,e5,aQ k];refine⟨⟨k+1,E,rfl,?_⟩,by simp only[aN];omega⟩;rw[xM,O,if_neg (by rw[V];simp),Nat.add_zero]
 ·have J:=geB hk J;subst J;simp only[go_sem,e5];exact .refl _
def KL(x:Instance):Nat:=Mc (fun _=>true) x.orders
def yT(x:Instance):Nat:=Mc (fun o=>o.penalty == -1) x.orders
def asU(o:Order):PC prog 189 [.agg (bH o)] (boo true):=by refine pcd func189 rfl rfl ?_;simp only[go_sem];exact .refl _
def anF(o:Order):PC prog 182 [.agg (bH o)] (boo (o.penalty == -1)):=by refine pcd func182 rfl rfl ?_;simp only[go_sem];exact .refl _
def agO(x:Instance)(E:x.orders.length<=62):PC prog 123 [.agg (aC x)] (int (KL x:Nat)):=by refine pcd func123 rfl rfl ?_;simp only[go_sem];refine aG (ajJ x E (by kernel_rfl) fun o _=>asU o) ?_;simp only[go_sem];exact .refl _
def auB(x:Instance)(E:x.orders.length<=62):PC prog 120 [.agg (aC x)] (int (yT x:Nat)):=by refine pcd func120 rfl rfl ?_;simp only[go_sem];refine aG (ajJ x E (by kernel_rfl) fun o _=>anF o) ?_;simp only[go_sem];exact .refl _
def rM(n:Nat)(set:Int):Bool:=decide (set>=0)&&(set/2^n == 0)
def O0(x:Instance)(set:Int)(E:x.orders.length<=62):PC prog 68 [.agg (aC x),int set] (boo (rM x.orders.length set)):=by refine pcd func68 rfl rfl ?_;simp only[go_sem];refine⟨by omega,?_⟩;refine cB ?_;rw[wH E];rfl
def NT{g:Nat}{cap:List AV}{p:Int->Bool}(l:List Int)(hl:l.length<=1048576)(U:aE prog g=true)(hg:∀v∈l,PC prog g (int v::cap) (boo (p v))):
  ∃n:Int,decide (n>=0)=l.any p/\PC prog 231 [.sl (l.map bC),.fn g cap] (int n):=by
 refine⟨match l.findIdx? p with|some i=>(i:Int)|none=> -1,?_,?_⟩
 ·cases h:l.findIdx? p with
  | none=>have:=List.findIdx?_eq_none_iff.1 h;simp only;rw[Xbb.2 (fun x hx=>by rw[this x hx];simp)];rfl
  | some i=>obtain⟨hi,hp,_⟩:=List.findIdx?_eq_some_iff_getElem.1 h;simp only;rw[Xao.2 ⟨l[i],List.getElem_mem hi,hp⟩];simp
 ·
  refine pcd func231 rfl rfl ?_;simp only[go_sem];refine⟨fun ρ H=>∃(k:Nat),k<=l.length/\ρ 0=.sl (l.map bC)/\ρ 1=.fn g cap/\ρ 7=int (l.length:Nat)/\ρ 8=int k/\(∀u∈l.take k,p u=false),fun ρ _=>l.length-aR (ρ 8),⟨0,Xaa _,rfl,rfl,by simp only[go_sem],(by simp only[go_sem];rfl),by simp⟩,?_⟩;rintro ρ H ⟨k,hk,Z,Y,e7,X,J⟩;simp only[go_sem,e7,X];refine aA (fun E=>?_) (fun F=>?_)
  ·have E:=ltB E;obtain⟨u,I⟩:=aK E;have b1:=inB E;simp only[go_sem,Z,Y,X,aD I,b1,U];refine aG (hg u (Xac I)) ?_;simp only[go_sem,];refine aA (fun O=>?_) (fun O=>?_)
   ·simp only[go_sem,];have:l.findIdx? p=some k:=by
     have V:k<l.length:=E;refine List.findIdx?_eq_some_iff_getElem.2 ⟨V,?_,fun j hj=>?_⟩
     ·have:=(List.getElem?_eq_some_iff.1 I).2;rw[this];exact O
     ·have:=J l[j] (List.mem_take_iff_getElem.2 ⟨j,by omega,rfl⟩);rw[this];simp
    rw[this];exact .refl _
   ·simp only[go_sem,Z,Y,e7,X,aQ k];exact⟨⟨k+1,E,rfl,gR (p:=fun u=>p u=false) I O J⟩,by simp only[aN];omega⟩
  ·have F:=geB hk F;subst F;rw[Xad]at J;simp only[go_sem];rw[List.findIdx?_eq_none_iff.2 J];exact .refl _
def G6{g:Nat}{cap:List AV}{p:Int->Bool}(l:List Int)(I:l.length<=1048576)(E:aE prog g=true)(F:∀v∈l,PC prog g (int v::cap) (boo (p v))):
  PC prog 184 [.sl (l.map bC),.fn g cap] (boo (l.any p)):=by
 obtain⟨n,O,J⟩:=NT l I E F;refine pcd func184 rfl rfl ?_;simp only[go_sem];refine aG J ?_;simp only[go_sem];exact cB O
def nL(l:List Order)(i:Int):Order:=l.getD i.toNat ⟨ByteArray.empty,[],⟨0,0,0,0⟩,⟨0,0,0,0⟩,0,0,0,0,0,false⟩
def lA{l:List Order}{i:Nat}{o:Order}(h:l[i]?=some o):nL l (i:Int)=o:=by simp[nL,List.getD,h]
def KJ(l:List Order)(ms:List Int):Prop:=∀i∈ms,0<=i/\i<(l.length:Int)
def OM(x:Instance)(g:Nat)(q:Order->Int)(i:Int)(hi:0<=i/\i<(x.orders.length:Int))(F:aE prog g=true)(J:∀o,PC prog g [.agg (bH o)] (int (q o))):
  PC prog 185 [int i,.rp [.v (.func (.func g) #[] #[])] 0,.rp (aC x) 0] (boo (decide (q (nL x.orders i)>=0))):=by
 obtain⟨n,rfl⟩:=Int.eq_ofNat_of_zero_le hi.1;have E:n<x.orders.length:=by omega
 obtain⟨o,I⟩:=aK E;have O:=inB E;rw[lA I];refine pcd func185 rfl rfl ?_;simp only[go_sem];refine kI (by rfl) (by kernel_rfl) ?_;simp only[go_sem,aD I,O,F];refine⟨_,(J o).q rfl,?_⟩;simp only[go_sem];exact .refl _
def P3(o:Order):PC prog 186 [.agg (bH o)] (int o.pick.place):=by refine pcd func186 rfl rfl ?_;simp only[go_sem];exact .refl _
def Tf(o:Order):PC prog 187 [.agg (bH o)] (int o.drop.place):=by refine pcd func187 rfl rfl ?_;simp only[go_sem];exact .refl _
def Gr(x:Instance)(g:Nat)(q:Order->Int)(ms:List Int)(F:KJ x.orders ms)(I:ms.length<=1048576)(E:aE prog g=true)(J:∀o,PC prog g [.agg (bH o)] (int (q o))):
  PC prog 183 [.v (.func (.func g) #[] #[]),.rp [.sl (ms.map bC)] 0,.rp (aC x) 0] (boo (!(ms.any fun i=>decide (q (nL x.orders i)>=0)))):=by
 refine pcd func183 rfl rfl ?_;simp only[go_sem];refine aG (G6 (p:=fun i=>decide (q (nL x.orders i)>=0)) ms I (by kernel_rfl) (fun i hi=>OM x g q i (F i hi) E J)) ?_;simp only[go_sem];exact .refl _
def Zb(x:Instance)(ms:List Int):Bool:= !(ms.any fun i=>decide ((nL x.orders i).pick.place>=0))|| !(ms.any fun i=>decide ((nL x.orders i).drop.place>=0))
def T3(x:Instance)(ms:List Int)(E:KJ x.orders ms)(F:ms.length<=1048576):PC prog 121 [.agg (aC x),.sl (ms.map bC)] (boo (Zb x ms)):=by refine pcd func121 rfl rfl ?_;simp only[go_sem];refine aG (Gr x _ (fun o=>o.pick.place) ms E F (by kernel_rfl) P3) ?_;simp only[go_sem];refine⟨_,fun _=>(Gr x _ (fun o=>o.drop.place) ms E F (by kernel_rfl) Tf).q rfl,?_⟩;simp only[go_sem];exact .refl _
end Nu
end Go.Proofs.YtpagaknmdfgfkaaGreatDoor
