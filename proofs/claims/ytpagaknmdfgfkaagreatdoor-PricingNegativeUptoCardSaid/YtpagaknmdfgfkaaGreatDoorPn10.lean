import Derived.Test.YtpagaknmdfgfkaaGreatDoorPn09
set_option linter.unusedSimpArgs false
set_option linter.unusedVariables false
set_option linter.defProp false
set_option maxRecDepth 100000
namespace Go.Proofs.YtpagaknmdfgfkaaGreatDoor
open Go.Aw Go.Aw.D Go.Proofs Ty
namespace Sq
open Go.Proofs.Tryz
open Mv (bP bS aO)
def rK(s i:Int):Bool:=decide (s>=0)&&decide (i>=0)&&decide (i<=62)&&((shV .shr .i64 s (IntKind.u64.wrap i)).tmod 2 == 1)
def Cv(s i:Int):PC prog 281 [int s,int i] (boo (rK s i)):=by refine pcd func281 rfl rfl ?_;simp only[go_sem];refine⟨fun _=>by decide,?_⟩;exact .refl _
def WR(s n:Int):Int:=if rK s n=true then s else IntKind.i64.wrap (s+shV .shl .i64 1 (IntKind.u64.wrap n))
def AQ(v:Visit):Bool:=decide (v.order<0)||decide (v.order>62)
def He(l:List Visit):Int:=l.foldl (fun s v=>WR s v.order) 0
def Jf{l:List Visit}{k:Nat}{v:Visit}(h:l[k]?=some v):He (l.take (k+1))=WR (He (l.take k)) v.order:=by unfold He;rw[bA h,Xbm];rfl
def cU(l:List Visit):Int×Int:=if l.any AQ=true then(0,2)else(He l,0)
def Kb(r:Route)(hr:r.visits.length<=1048576):PC prog 242 [.agg (bT r)] (.tup [int (cU r.visits).1,int (cU r.visits).2]):=by
 refine pcd func242 rfl rfl ?_;simp only[go_sem];refine⟨fun ρ _=>∃k:Nat,k<=r.visits.length/\ρ 1=.rp (bT r) 0/\ρ 5=int k/\ρ 4=int (He (r.visits.take k))/\∀v∈r.visits.take k,AQ v=false,fun ρ _=>r.visits.length-aR (ρ 5),⟨0,Xaa _,rfl,rfl,rfl,by simp⟩,?_⟩;rintro ρ H ⟨k,hk,h1,I,F,Z⟩;simp only[go_sem,h1,I];refine aA (fun E=>?_) (fun T=>?_)
 ·have E:=aV E;obtain⟨v,X⟩:=aK E;have b1:=inB E;simp only[go_sem,h1,I,aC X,b1];apply aA <;> intro Y
  ·simp only[go_sem];have:cU r.visits=(0,2):=by unfold cU;rw[if_pos (Xas.2 ⟨v,Xac X,Y⟩)]
   rw[this];exact .refl _
  simp only[go_sem,F];refine aH (Cv _ _) ?_;simp only[go_sem];refine gU (fun O _=>O 1=.rp (bT r) 0/\O 5=int k/\O 4=int (He (r.visits.take (k+1)))) ?_ fun K hK _ _=>aA (fun J=>?_) (fun J=>?_)
  ·clear h1 I F;rintro ρ H ⟨h1,I,F⟩;simp only[go_sem,h1,I,F,aQ k];exact⟨⟨k+1,E,rfl,rfl,aO (p:=fun v=>AQ v=false) X Y Z⟩,msr E⟩
  ·simp only[go_sem,F];refine hK _ _ ⟨h1,I,?_⟩;simp only[go_sem];rw[Jf X,WR,if_neg (by simpa using J)]
  ·simp only[go_sem];refine hK _ _ ⟨h1,I,?_⟩;simp only[go_sem,F];rw[Jf X,WR,if_pos (by simpa using J)]
 ·have T:=aW hk T;subst T;simp only[go_sem,F];rw[Xad]at Z F |-;have:cU r.visits=(He r.visits,0):=by unfold cU;rw[if_neg];intro h;obtain⟨v,X,Y⟩:=Xas.1 h;rw[Z v X]at Y;cases Y
  rw[this];exact .refl _
def pM(v u:Visit):Bool:=u.order == v.order&&(u.drop == v.drop&&true)
def pC{α:Type}(p:α->Bool):List α->Int->Int
 | [],_=> -1
 | x::r,n=>if p x=true then n else pC p r (n+1)
def lR{α:Type}{p:α->Bool}{l:List α}{k:Nat}{x:α}(h:∀y∈l.take k,p y=false)(E:l[k]?=some x)(F:p x=true):∀n,pC p l n=n+k:=by
 induction l generalizing k with
 | nil=>simp at E
 | cons a r ih=>
  intro n;cases k with
  | zero=>simp at E;subst E;simp only[pC];rw[if_pos F];simp
  | succ k=>have h0:=h a (by simp);simp only[pC];rw[if_neg (by rw[h0];simp),ih (k:=k) (fun y I=>h y (by simp[I])) (by simpa using E)];omega
def kP{α:Type}{p:α->Bool}{l:List α}(h:∀y∈l,p y=false):∀n,pC p l n= -1:=by
 induction l with
 | nil=>intro n;rfl
 | cons a r ih=>intro n;simp only[pC];rw[if_neg (by rw[h a (by simp)];simp)];exact ih (fun y E=>h y (by simp[E])) _
def bM(l:List Visit)(v:Visit):Int:=pC (pM v) l 0
def sD(l:List Visit)(v:Visit)(hl:l.length<=1048576):PC prog 284 [.sl (l.map aF),.agg (aF v)] (int (bM l v)):=by
 refine pcd func284 rfl rfl ?_;simp only[go_sem];refine⟨fun ρ _=>∃k:Nat,k<=l.length/\ρ 0=.sl (l.map aF)/\ρ 3=.rp (aF v) 0/\ρ 5=int k/\∀u∈l.take k,pM v u=false,fun ρ _=>l.length-aR (ρ 5),⟨0,Xaa _,rfl,rfl,rfl,by simp⟩,?_⟩;rintro ρ H ⟨k,Y,h0,T,I,J⟩;simp only[go_sem,h0,I];refine aA (fun E=>?_) (fun F=>?_)
 ·have E:=aV E;obtain⟨u,O⟩:=aK E;have Z:=inB E;simp only[go_sem];refine dK ?_;simp only[go_sem,h0,T,I,aC O,Z];apply aA <;> intro X
  ·simp only[go_sem,I];exact bP (by rw[bM,lR J O X];omega)
  ·simp only[go_sem,h0,T,I,aQ k];exact⟨⟨k+1,E,rfl,aO (p:=fun u=>pM v u=false) O X J⟩,msr E⟩
 ·have F:=aW Y F;subst F;rw[Xad]at J;simp only[go_sem];exact bP (by rw[bM,kP J])
def iB(l s:List Visit):Bool:=s.all fun v=> !decide (bM l v<0)
def Ej(l s:List Visit)(Y:l.length<=1048576)(hs:s.length<=1048576):PC prog 324 [.sl (l.map aF),.sl (s.map aF)] (boo (iB l s)):=by
 refine pcd func324 rfl rfl ?_;simp only[go_sem];refine⟨fun ρ _=>∃k:Nat,k<=s.length/\ρ 0=.sl (l.map aF)/\ρ 1=.sl (s.map aF)/\ρ 5=int k/\∀u∈s.take k,decide (bM l u<0)=false,fun ρ _=>s.length-aR (ρ 5),⟨0,Xaa _,rfl,rfl,rfl,by simp⟩,?_⟩;rintro ρ H ⟨k,X,h0,h1,J,O⟩;simp only[go_sem,h1,J];refine aA (fun E=>?_) (fun F=>?_)
 ·have E:=aV E;obtain⟨u,I⟩:=aK E;have Z:=inB E;simp only[go_sem,h0,h1,J,aC I,Z];refine aH (sD l u Y) ?_;simp only[go_sem];apply aA <;> intro T
  ·simp only[go_sem];refine bS ?_;unfold iB
   symm
   rw[List.all_eq_false];exact⟨u,Xac I,by rw[T];simp⟩
  ·simp only[go_sem,h0,h1,J,aQ k];exact⟨⟨k+1,E,rfl,aO (p:=fun u=>decide (bM l u<0)=false) I T O⟩,msr E⟩
 ·have F:=aW X F;subst F;rw[Xad]at O;simp only[go_sem];refine bS ?_;unfold iB
  symm
  rw[Xaj];intro u I;rw[O u I];rfl
def cH(o:Order)(i:Int):List Visit:=(if(o.pick.place != -1)=true then[⟨i,false⟩]else[])++(if(o.drop.place != -1)=true then[⟨i,true⟩]else[])
def OG(o:Order)(i:Int):(cH o i).length<=2:=by unfold cH;split <;> split <;> simp
def JH(x:Instance)(i:Int)(o:Order)(X:0<=i/\i<(x.orders.length:Int))(J:x.orders[i.toNat]?=some o):
  PC prog 283 [.agg (aD x),int i] (.sl ((cH o i).map aF)):=by
 have F:0<=i/\i<(x.orders.length:Int):=X;refine pcb (fun t=>t == 5) func283 rfl rfl ?_;simp only[go_sem];refine aN fun j Y=>?_
 simp only[go_sem,aC J,F];apply aA <;> intro h1
 ·simp only[go_sem];refine aY (aB _ _ _) ⟨rfl,rfl⟩ ⟨rfl,trivial⟩ (by simp) (fun Z O=>?_);simp only[go_sem,aC J,F];apply aA <;> intro E
  ·simp only[go_sem];refine aY (aB _ _ _) ⟨rfl,rfl⟩ ⟨rfl,trivial⟩ (by simp) (fun T I=>?_);simp only[go_sem];have e:cH o i=[⟨i,false⟩,⟨i,true⟩]:=by unfold cH;rw[if_pos h1,if_pos E];rfl
   rw[e];exact .row _ _ _ (aB _ _ _) (ConvE.refl _)
  ·simp only[go_sem];have e:cH o i=[⟨i,false⟩]:=by unfold cH;rw[if_pos h1,if_neg (by rw[E];simp)];rfl
   rw[e];exact .row _ _ _ (aB _ _ _) (ConvE.refl _)
 ·simp only[go_sem,aC J,F];apply aA <;> intro E
  ·simp only[go_sem];refine aY (aB _ _ _) ⟨rfl,rfl⟩ ⟨rfl,trivial⟩ (by simp) (fun T I=>?_);simp only[go_sem];have e:cH o i=[⟨i,true⟩]:=by unfold cH;rw[if_neg (by rw[h1];simp),if_pos E];rfl
   rw[e];exact .row _ _ _ (aB _ _ _) (ConvE.refl _)
  ·simp only[go_sem];have e:cH o i=[]:=by unfold cH;rw[if_neg (by rw[h1];simp),if_neg (by rw[E];simp)];rfl
   rw[e];exact .row _ _ _ (aB _ _ _) (ConvE.refl _)
def CE(x:Instance)(s:Int):Bool:=x.apart.all fun q=> !(rK s q.a&&rK s q.b)
def ZQ(x:Instance)(s:Int)(hl:x.apart.length<=1048576):PC prog 357 [.agg (aD x),int s] (boo (CE x s)):=by
 refine pcd func357 rfl rfl ?_;simp only[go_sem];refine⟨fun ρ _=>∃k:Nat,k<=x.apart.length/\ρ 1=int s/\ρ 2=.rp (aD x) 0/\ρ 5=int k/\∀q∈x.apart.take k,(rK s q.a&&rK s q.b)=false,fun ρ _=>x.apart.length-aR (ρ 5),⟨0,Xaa _,rfl,rfl,rfl,by simp⟩,?_⟩;rintro ρ H ⟨k,Z,h1,J,I,T⟩;simp only[go_sem,J,I];refine aA (fun E=>?_) (fun F=>?_)
 ·have E:=aV E;obtain⟨q,O⟩:=aK E;have Y:=inB E;simp only[go_sem,h1,J,I,aC O,Y];refine⟨by decide,PC.use (Cv s q.a) ?_⟩;simp only[go_sem,h1,J,I,aC O,Y];refine⟨fun _=>by decide,_,fun _=>(Cv s q.b).q rfl,?_⟩;simp only[go_sem];apply aA <;> intro X
  ·simp only[go_sem];refine bS ?_;unfold CE
   symm
   rw[List.all_eq_false];exact⟨q,Xac O,by rw[X];simp⟩
  ·simp only[go_sem,h1,J,I,aQ k];exact⟨⟨k+1,E,rfl,aO (p:=fun q:Pair=>(rK s q.a&&rK s q.b)=false) O X T⟩,msr E⟩
 ·have F:=aW Z F;subst F;rw[Xad]at T;simp only[go_sem];refine bS ?_;unfold CE
  symm
  rw[Xaj];intro u hu;rw[T u hu];rfl
def oG(l vs:List Visit)(v:Visit):Bool:=decide (bM vs v<0)|| !iB l vs||((vs.length:Int) == 2&&decide (bM l (vs.getD 0 ⟨0,false⟩)>bM l (vs.getD 1 ⟨0,false⟩)))
def C7(x:Instance)(i:Int):List Visit:=match x.orders[i.toNat]? with|some o=>cH o i|none=>[]
def zG(x:Instance)(l:List Visit):Bool:=l.all fun v=> !oG l (C7 x v.order) v
def Wa(x:Instance)(l:List Visit)(hl:l.length<=1048576)(hi:∀v∈l,0<=v.order/\v.order<(x.orders.length:Int)):PC prog 356 [.agg (aD x),.sl (l.map aF)] (boo (zG x l)):=by
 refine pcd func356 rfl rfl ?_;simp only[go_sem];refine⟨fun ρ _=>∃k:Nat,k<=l.length/\ρ 1=.sl (l.map aF)/\ρ 2=.rp (aD x) 0/\ρ 5=int k/\∀v∈l.take k,oG l (C7 x v.order) v=false,fun ρ _=>l.length-aR (ρ 5),⟨0,Xaa _,rfl,rfl,rfl,by simp⟩,?_⟩;rintro ρ H ⟨k,hk,h1,h2,Y,hz⟩;simp only[go_sem,h1,Y];refine aA (fun E=>?_) (fun I=>?_)
 ·have E:=aV E;obtain⟨v,X⟩:=aK E;have b1:=inB E;have Z:=hi v (Xac X);obtain⟨o,ho⟩:=aK (show v.order.toNat<x.orders.length by omega);have ev:C7 x v.order=cH o v.order:=by unfold C7;rw[ho]
  have O:=OG o v.order;simp only[go_sem];refine mX [(0,true),(1,true),(2,false),(3,false),(4,false),(5,false),(6,false),(7,false)] (by kernel_rfl) ?_;simp only[go_sem,h1,h2,Y,aC X,b1];refine aH (JH x v.order o Z ho) ?_;simp only[go_sem];rw[<-ev]at O |-;generalize T:C7 x v.order=vs at O;refine mX [(0,true),(1,true),(2,false),(3,false),(4,false),(5,false),(6,false),(7,false),(8,true),(9,false),(10,false),(11,false),(12,false),(13,false),(14,false),(15,false),(16,false),(17,false),(18,true),(19,true),(20,true),(21,true),(22,true),(23,true),(24,false),(25,false),(26,false),(27,false),(28,false),(29,false),(30,false)] (by kernel_rfl) ?_;simp only[go_sem,h1,Y,aC X,b1];refine aH (sD vs v (by omega)) ?_;simp only[go_sem,h1,];refine⟨_,fun _=>(Ej l vs hl (by omega)).q rfl,?_⟩;simp only[go_sem,h1,];have J:((vs.length:Int) == 2)=true->∃a b,vs=[a,b]:=fun h=>by
   have h:vs.length=2:=by simp at h;omega
   match vs,h with
   | [a,b],_=>exact⟨a,b,rfl⟩
  refine⟨fun F=>by obtain⟨a,b,rfl⟩:=J F.2;exact⟨by simp,rfl⟩,fun F=>by obtain⟨a,b,rfl⟩:=J F.2;exact Xaf _,int (bM l (vs.getD 0 ⟨0,false⟩)),fun F=>by obtain⟨a,b,rfl⟩:=J F.2;exact(sD l a hl).q rfl,?_⟩;simp only[go_sem,h1,];refine⟨fun F=>by obtain⟨a,b,rfl⟩:=J F.2;exact⟨by simp,rfl⟩,fun F=>by obtain⟨a,b,rfl⟩:=J F.2;exact Xaf _,int (bM l (vs.getD 1 ⟨0,false⟩)),fun F=>by obtain⟨a,b,rfl⟩:=J F.2;exact(sD l b hl).q rfl,?_⟩;simp only[go_sem];apply aA <;> intro hb
  ·simp only[go_sem];refine bS ?_;unfold zG
   symm
   rw[List.all_eq_false];refine⟨v,Xac X,?_⟩;rw[T,show oG l vs v=true from hb];simp
  ·simp only[go_sem,h1,h2,Y,aQ k];exact⟨⟨k+1,E,rfl,aO (p:=fun v=>oG l (C7 x v.order) v=false) X (by rw[T];exact hb) hz⟩,msr E⟩
 ·have I:=aW hk I;subst I;rw[Xad]at hz;simp only[go_sem];refine bS ?_;unfold zG
  symm
  rw[Xaj];intro u hu;rw[hz u hu];rfl
def fB(l:List Visit)(j:Nat):Int:=(l.getD j ⟨0,false⟩).order
def gR{l:List Visit}{j:Nat}{v:Visit}(h:l[j]?=some v):fB l j=v.order:=by simp[fB,List.getD,h]
def wT(l:List Visit)(a b:Int)(j k:Nat):Bool:=fB l j == a&&fB l k == b
def GN(l:List Visit)(a b:Int):Bool:=(List.range l.length).any fun j=>(List.range j).any fun k=>wT l a b j k
def A0(s:Int)(l:List Visit)(q:Pair):Bool:= !rK s q.b||(rK s q.a&& !GN l q.a q.b)
def vZ(x:Instance)(s:Int)(l:List Visit):Bool:=x.before.all (A0 s l)
def EO{x:Instance}{s:Int}{l:List Visit}{q:Pair}(E:q∈x.before)(h:A0 s l q=false):vZ x s l=false:=by unfold vZ;rw[List.all_eq_false];exact⟨q,E,by rw[h];simp⟩
def UR(x:Instance)(s:Int)(l:List Visit)(hb:x.before.length<=1048576)(hl:l.length<=1048576):PC prog 358 [.agg (aD x),int s,.sl (l.map aF)] (boo (vZ x s l)):=by
 refine pcd func358 rfl rfl ?_;simp only[go_sem];refine⟨fun ρ _=>∃i:Nat,i<=x.before.length/\ρ 1=int s/\ρ 2=.sl (l.map aF)/\ρ 3=.rp (aD x) 0/\ρ 7=int i/\∀q∈x.before.take i,A0 s l q=true,fun ρ _=>x.before.length-aR (ρ 7),⟨0,Xaa _,rfl,rfl,rfl,rfl,by simp⟩,?_⟩;rintro ρ H ⟨i,hi,h1,Z,Y,X,hz⟩;simp only[go_sem,Y,X];refine aA (fun F=>?_) (fun aa=>?_)
 ·have F:=aV F;obtain⟨q,hq⟩:=aK F;have b1:=inB F;have ad:=Xac hq;simp only[go_sem,h1,Y,X,aC hq,b1];refine⟨by decide,?_⟩;refine⟨by decide,?_⟩;refine aH (Cv s q.b) ?_;simp only[go_sem];apply aA <;> intro hn
  ·simp only[go_sem,h1,Z,Y,X,aQ i];have ac:A0 s l q=true:=by unfold A0;rw[hn];rfl
   exact⟨⟨i+1,F,rfl,aO (p:=fun q=>A0 s l q=true) hq ac hz⟩,msr F⟩
  simp only[go_sem,h1,];refine aH (Cv s q.a) ?_;simp only[go_sem];apply aA <;> intro hm
  ·simp only[go_sem];refine bS (EO ad ?_).symm;unfold A0;rw[hn,show rK s q.a=false by simpa using hm];rfl
  simp only[go_sem];refine⟨fun ρ _=>∃j:Nat,j<=l.length/\ρ 1=int s/\ρ 2=.sl (l.map aF)/\ρ 3=.rp (aD x) 0/\ρ 7=int i/\ρ 8=int q.a/\ρ 9=int q.b/\ρ 10=int j/\∀c∈(List.range l.length).take j,(List.range c).any (fun k=>wT l q.a q.b c k)=false,fun ρ _=>l.length-aR (ρ 10),⟨0,Xaa _,h1,Z,Y,X,rfl,rfl,by simp only[go_sem];rfl,by simp⟩,?_⟩;rintro ρ H ⟨j,hj,h1,Z,Y,X,h8,h9,J,hy⟩;simp only[go_sem,Z,J];refine aA (fun E=>?_) (fun T=>?_)
  ·have E:=aV E;obtain⟨v,hv⟩:=aK E;have b2:=inB E;simp only[go_sem];refine⟨fun ρ _=>∃k:Nat,k<=j/\ρ 1=int s/\ρ 2=.sl (l.map aF)/\ρ 3=.rp (aD x) 0/\ρ 7=int i/\ρ 8=int q.a/\ρ 9=int q.b/\ρ 10=int j/\ρ 11=int k/\∀c∈(List.range j).take k,wT l q.a q.b j c=false,fun ρ _=>j-aR (ρ 11),⟨0,Xaa _,h1,Z,Y,X,h8,h9,J,by simp only[go_sem];rfl,by simp⟩,?_⟩;rintro ρ H ⟨k,hk,h1,Z,Y,X,h8,h9,J,ab,hw⟩;simp only[go_sem,J,ab];refine aA (fun I=>?_) (fun O=>?_)
   ·have I:k<j:=by simpa using I
    obtain⟨u,hu⟩:=aK (show k<l.length by omega);have b3:=inB (show k<l.length by omega);simp only[go_sem,Z,h8,h9,J,ab,aC hv,aC hu,b2,b3];have hc:wT l q.a q.b j k=(v.order == q.a&&u.order == q.b):=by unfold wT;rw[gR hv,gR hu]
    rw[<-hc];apply aA <;> intro hb
    ·simp only[go_sem];refine bS (EO ad ?_).symm;have:GN l q.a q.b=true:=Xas.2 ⟨j,Xat.2 E,Xas.2 ⟨k,Xat.2 I,hb⟩⟩;unfold A0;rw[hn,this];simp
    ·simp only[go_sem,h1,Z,Y,X,h8,h9,J,ab,aQ k];exact⟨⟨k+1,I,rfl,aO (p:=fun c=>wT l q.a q.b j c=false) (iN I) hb hw⟩,by simp only[aL];omega⟩
   ·have O:k=j:=by simp at O;omega
    subst O;simp only[go_sem,h1,Z,Y,X,h8,h9,J,aQ k];refine⟨⟨k+1,E,rfl,aO (p:=fun c=>(List.range c).any (fun k=>wT l q.a q.b c k)=false) (iN E) ?_ hy⟩,by simp only[aL];omega⟩;rw[Xbf];intro c hc;rw[hw c (by rw[Xan (by simp)];exact hc)];simp
  ·have T:=aW hj T;subst T;simp only[go_sem,h1,Z,Y,X,aQ i];have ae:GN l q.a q.b=false:=by unfold GN;rw[Xbf];intro c hc;rw[hy c (by rw[Xan (by simp)];exact hc)];simp
   have ac:A0 s l q=true:=by unfold A0;rw[ae,show rK s q.a=true by simpa using hm];simp
   exact⟨⟨i+1,F,rfl,aO (p:=fun q=>A0 s l q=true) hq ac hz⟩,msr F⟩
 ·have aa:=aW hi aa;subst aa;rw[Xad]at hz;simp only[go_sem];refine bS ?_;unfold vZ
  symm
  rw[Xaj];exact hz
def vP(x:Instance)(i:Int):Bool:=match x.orders[i.toNat]? with|some o=>o.off|none=>false
def Bo(l:List Visit)(i:Nat):Bool:=bM l (l.getD i ⟨0,false⟩) != (i:Int)
def fE(x:Instance)(l:List Visit):Int:=
 if(l.any fun v=>cF v.order x.orders.length)=true then 2
 else if((cU l).2 != 0||(l.length:Int) == 0)=true then 2
 else if(l.any fun v=>vP x v.order)=true then 9
 else if((List.range l.length).any (Bo l))=true then 6
 else if(!zG x l)=true then 19
 else if(!CE x (cU l).1)=true then 20
 else if(!vZ x (cU l).1 l)=true then 21 else 0
def rZ{α:Type}{p:α->Bool}{l:List α}(h:∀x∈l,p x=false):l.any p=false:=by rw[Xbf];intro x E;rw[h x E];simp
def LR(x:Instance)(r:Route)(hl:r.visits.length<=1048576)(ha:x.apart.length<=1048576)(T:x.before.length<=1048576):
  PC prog 325 [.agg (aD x),.agg (bT r)] (int (fE x r.visits)):=by
 refine pcd func325 rfl rfl ?_;simp only[go_sem];refine⟨fun ρ _=>∃k:Nat,k<=r.visits.length/\ρ 2=.rp (aD x) 0/\ρ 3=.rp (bT r) 0/\ρ 5=.sl (r.visits.map aF)/\ρ 6=int k/\∀v∈r.visits.take k,cF v.order x.orders.length=false,fun ρ _=>r.visits.length-aR (ρ 6),⟨0,Xaa _,rfl,rfl,rfl,rfl,by simp⟩,?_⟩;rintro ρ H ⟨k,hk,O,h3,I,h6,hz⟩;simp only[go_sem,I,h6];refine aA (fun E=>?_) (fun F=>?_)
 ·have E:=aV E;obtain⟨v,J⟩:=aK E;have b1:=inB E;simp only[go_sem];refine dK ?_;simp only[go_sem,O,I,h6,aC J,b1];apply aA <;> intro T
  ·simp only[go_sem];exact bP (by unfold fE;rw[if_pos (Xas.2 ⟨v,Xac J,T⟩)])
  ·simp only[go_sem,O,h3,I,h6,aQ k];exact⟨⟨k+1,E,rfl,aO (p:=fun v=>cF v.order x.orders.length=false) J (show cF v.order x.orders.length=false from T) hz⟩,msr E⟩
 have F:=aW hk F;subst F;rw[Xad]at hz;have c1:¬(r.visits.any fun v=>cF v.order x.orders.length)=true:=by rw[rZ hz];simp
 have ab:∀v∈r.visits,0<=v.order/\v.order<(x.orders.length:Int):=fun v J=>by have:=hz v J;simp only[cF,Xag,decide_eq_false_iff_not]at this;omega
 simp only[go_sem,h3,Am];refine aH (Kb r hl) ?_;simp only[go_sem,I];apply aA <;> intro ad
 ·simp only[go_sem];exact bP (by unfold fE;rw[if_neg c1,if_pos ad])
 have c2:¬((cU r.visits).2 != 0||(r.visits.length:Int) == 0)=true:=by rw[ad];simp
 generalize hS:(cU r.visits).1=s;simp only[go_sem];refine⟨fun ρ _=>∃k:Nat,k<=r.visits.length/\ρ 2=.rp (aD x) 0/\ρ 5=.sl (r.visits.map aF)/\ρ 7=int s/\ρ 9=int k/\∀v∈r.visits.take k,vP x v.order=false,fun ρ _=>r.visits.length-aR (ρ 9),⟨0,Xaa _,O,I,rfl,by simp only[go_sem];rfl,by simp⟩,?_⟩;rintro ρ H ⟨k,hk,O,I,h7,h9,aa⟩;simp only[go_sem,I,h9];refine aA (fun E=>?_) (fun F=>?_)
 ·have E:=aV E;obtain⟨v,J⟩:=aK E;have b1:=inB E;have af:=ab v (Xac J);obtain⟨o,ho⟩:=aK (show v.order.toNat<x.orders.length by omega);have eo:vP x v.order=o.off:=by unfold vP;rw[ho]
  simp only[go_sem];refine dK ?_;simp only[go_sem,O,I,h9,aC J,b1,aC ho,af];apply aA <;> intro T
  ·simp only[go_sem];exact bP (by unfold fE;rw[if_neg c1,if_neg c2,if_pos (Xas.2 ⟨v,Xac J,eo.trans T⟩)])
  ·simp only[go_sem,O,I,h7,h9,aQ k];exact⟨⟨k+1,E,rfl,aO (p:=fun v=>vP x v.order=false) J (eo.trans T) aa⟩,msr E⟩
 have F:=aW hk F;subst F;rw[Xad]at aa;have c3:¬(r.visits.any fun v=>vP x v.order)=true:=by rw[rZ aa];simp
 simp only[go_sem];refine⟨fun ρ _=>∃k:Nat,k<=r.visits.length/\ρ 2=.rp (aD x) 0/\ρ 5=.sl (r.visits.map aF)/\ρ 7=int s/\ρ 10=int k/\∀c∈(List.range r.visits.length).take k,Bo r.visits c=false,fun ρ _=>r.visits.length-aR (ρ 10),⟨0,Xaa _,O,I,h7,by simp only[go_sem];rfl,by simp⟩,?_⟩;rintro ρ H ⟨k,hk,O,I,h7,X,ae⟩;simp only[go_sem,I,X];refine aA (fun E=>?_) (fun F=>?_)
 ·have E:=aV E;obtain⟨v,J⟩:=aK E;have b1:=inB E;have ed:Bo r.visits k=(bM r.visits v != (k:Int)):=by simp[Bo,List.getD,J]
  simp only[go_sem,I,X,aC J,b1];refine aH (sD r.visits v hl) ?_;simp only[go_sem,X];apply aA <;> intro T
  ·simp only[go_sem];exact bP (by unfold fE;rw[if_neg c1,if_neg c2,if_neg c3,if_pos (Xas.2 ⟨k,Xat.2 E,ed.trans T⟩)])
  ·simp only[go_sem,O,I,h7,X,aQ k];exact⟨⟨k+1,E,rfl,aO (p:=fun c=>Bo r.visits c=false) (iN E) (ed.trans T) ae⟩,msr E⟩
 have F:=aW hk F;subst F;have c4:¬((List.range r.visits.length).any (Bo r.visits))=true:=by rw[rZ fun c hc=>ae c (by rw[Xan (by simp)];exact hc)];simp
 simp only[go_sem,O,I];refine aH (Wa x r.visits hl ab) ?_;simp only[go_sem];apply aA <;> intro Y
 ·simp only[go_sem];exact bP (by unfold fE;rw[if_neg c1,if_neg c2,if_neg c3,if_neg c4,if_pos Y])
 simp only[go_sem,O,h7];refine aH (ZQ x s ha) ?_;simp only[go_sem];apply aA <;> intro Z
 ·simp only[go_sem];exact bP (by unfold fE;rw[if_neg c1,if_neg c2,if_neg c3,if_neg c4,if_neg (by rw[Y];simp),if_pos (by rw[hS];exact Z)])
 simp only[go_sem,O,I,h7];refine aH (UR x s r.visits T hl) ?_;simp only[go_sem];apply aA <;> intro ac
 ·simp only[go_sem];exact bP (by unfold fE;rw[if_neg c1,if_neg c2,if_neg c3,if_neg c4,if_neg (by rw[Y];simp),if_neg (by rw[hS,Z];simp),if_pos (by rw[hS];exact ac)])
 ·simp only[go_sem];exact bP (by unfold fE;rw[if_neg c1,if_neg c2,if_neg c3,if_neg c4,if_neg (by rw[Y];simp),if_neg (by rw[hS,Z];simp),if_neg (by rw[hS,ac];simp)])
def iS(a c:List Int):Bool:=((a.length:Int) == (c.length:Int))&&(List.range a.length).all fun i=> !decide (a.getD i 0>c.getD i 0)
def alB(a c:List Int)(hl:a.length<=1048576):PC prog 360 [.sl (a.map bC),.sl (c.map bC)] (boo (iS a c)):=by
 refine pcd func360 rfl rfl ?_;simp only[go_sem];apply aA <;> intro I
 ·simp only[go_sem];refine bS ?_;have:((a.length:Int) == (c.length:Int))=false:=by simpa using I
  unfold iS;rw[this];rfl
 have he:a.length=c.length:=by simp at I;omega
 have Z:iS a c=(List.range a.length).all fun i=> !decide (a.getD i 0>c.getD i 0):=by unfold iS;rw[he];simp
 rw[Z];simp only[go_sem];refine⟨fun ρ _=>∃k:Nat,k<=a.length/\ρ 0=.sl (a.map bC)/\ρ 1=.sl (c.map bC)/\ρ 5=int k/\∀i∈(List.range a.length).take k,decide (a.getD i 0>c.getD i 0)=false,fun ρ _=>a.length-aR (ρ 5),⟨0,Xaa _,rfl,rfl,rfl,by simp⟩,?_⟩;rintro ρ H ⟨k,hk,h0,h1,J,O⟩;simp only[go_sem,h0,J];refine aA (fun E=>?_) (fun F=>?_)
 ·have E:=aV E;obtain⟨u,Y⟩:=aK E;obtain⟨v,X⟩:=aK (show k<c.length by omega);have b1:=inB E;have b2:=inB (show k<c.length by omega);have T:decide (a.getD k 0>c.getD k 0)=decide (u>v):=by simp[List.getD,Y,X]
  simp only[go_sem];refine dK ?_;simp only[go_sem,h0,h1,J,aC Y,aC X,b1,b2];apply aA <;> intro I
  ·simp only[go_sem];refine bS ?_
   symm
   rw[List.all_eq_false];exact⟨k,Xat.2 E,by rw[T,I];simp⟩
  ·simp only[go_sem,h0,h1,J,aQ k];exact⟨⟨k+1,E,rfl,aO (p:=fun i=>decide (a.getD i 0>c.getD i 0)=false) (iN E) (T.trans I) O⟩,msr E⟩
 ·have F:=aW hk F;subst F;simp only[go_sem];refine bS ?_
  symm
  rw[Xaj];intro i hi;rw[O i (by rw[Xan (by simp)];exact hi)];rfl
def fR(x:Instance):Int:=match x.types[0]? with|some t=>t.cap.length|none=>0
def aeY(x:Instance):PC prog 379 [.agg (aD x)] (int (fR x)):=by
 refine pcd func379 rfl rfl ?_;simp only[go_sem];apply aA <;> intro E
 ·simp only[go_sem];have:x.types=[]:=by cases h:x.types with|nil=>rfl|cons a l=>rw[h]at E;simp at E;omega
  exact bP (by unfold fR;rw[this];rfl)
 ·have F:0<x.types.length:=by simp at E;cases h:x.types with|nil=>exact absurd h E|cons a l=>simp
  obtain⟨t,I⟩:=aK F;simp only[go_sem,aC I];refine⟨⟨by decide,by omega⟩,?_⟩;exact bP (by unfold fR;rw[I])
def fD(l:List Int):List AV:=[.sl (l.map bC)]
def jI(ll:List (List Int))(d:Int):Bool:= !(decide (d<0)||decide (d>3))&&ll.all fun l=> !((l.length:Int) != d)
def Ke(ll:List (List Int))(d:Int)(X:ll.length<=1048576):PC prog 240 [.sl (ll.map fD),int d] (boo (jI ll d)):=by
 refine pcd func240 rfl rfl ?_;simp only[go_sem];apply aA <;> intro I
 ·simp only[go_sem];exact bS (by unfold jI;rw[I];rfl)
 have Y:jI ll d=ll.all fun l=> !((l.length:Int) != d):=by unfold jI;rw[I];rfl
 rw[Y];simp only[go_sem];refine⟨fun ρ _=>∃k:Nat,k<=ll.length/\ρ 0=.sl (ll.map fD)/\ρ 1=int d/\ρ 5=int k/\∀l∈ll.take k,((l.length:Int) != d)=false,fun ρ _=>ll.length-aR (ρ 5),⟨0,Xaa _,rfl,rfl,rfl,by simp⟩,?_⟩;rintro ρ H ⟨k,Z,h0,h1,J,O⟩;simp only[go_sem,h0,J];refine aA (fun E=>?_) (fun F=>?_)
 ·have E:=aV E;obtain⟨u,T⟩:=aK E;have b1:=inB E;simp only[go_sem,h0,h1,J,aC T,b1,fD];apply aA <;> intro I
  ·simp only[go_sem];refine bS ?_
   symm
   rw[List.all_eq_false];exact⟨u,Xac T,by rw[I];simp⟩
  ·simp only[go_sem,h0,h1,J,aQ k];exact⟨⟨k+1,E,rfl,aO (p:=fun l:List Int=>((l.length:Int) != d)=false) T I O⟩,msr E⟩
 ·have F:=aW Z F;subst F;rw[Xad]at O;simp only[go_sem];refine bS ?_
  symm
  rw[Xaj];intro l X;rw[O l X];rfl
def lK(ll:List (List Int))(i:Nat):Int:=ll.foldl (fun s l=>IntKind.i64.wrap (s+l.getD i 0)) 0
def zQ{ll:List (List Int)}{k i:Nat}{l:List Int}(h:ll[k]?=some l):lK (ll.take (k+1)) i=IntKind.i64.wrap (lK (ll.take k) i+l.getD i 0):=by unfold lK;rw[bA h,Xbm];rfl
def wF(ll:List (List Int))(d:Int):List Int×Int:=if jI ll d=true then((List.range d.toNat).map (lK ll),0)else([],2)
def CU{ll:List (List Int)}{d:Int}(h:jI ll d=true):0<=d/\d<=3/\∀l∈ll,(l.length:Int)=d:=by simp only[jI,Xak,Xax,Xag,decide_eq_false_iff_not,Xaj]at h;refine⟨by omega,by omega,fun l E=>?_⟩;have:=h.2 l E;simpa using this
def aoG(H0:aG)(K:AV->aG->Prop)(O:Nat)(ll:List (List Int))(d:Int)(hl:ll.length<=1048576)(X:H0 O=some (⟨89,1,ll.map fD⟩:Row))
  (hK:jI ll d=false->K (.tup [.sl [],int 2]) H0)
  (ad:jI ll d=true->∀j H,H j=some (⟨3,1,((List.range d.toNat).map (lK ll)).map bC⟩:Row)->K (.tup [.os j,int 0]) H):
  bK prog 201 [.os O,int d] H0 K:=by
 refine bK.body (c:=f201.body.getD .skip) (fun t=>t == 6) mixed func201 rfl (by kernel_rfl) ?_;unfold f201;simp only[Xbl];simp only[go_sem];refine eV.use ⟨[.sl (ll.map fD),int d],.cons _ _ _ _ (.row _ _ _ X (ConvE.refl _)) (ConvL.refl _),Ke ll d hl,rfl⟩ ?_;simp only[go_sem];apply aA <;> intro hb
 ·simp only[go_sem];exact hK (by simpa using hb)
 have aa:jI ll d=true:=by simpa using hb
 obtain⟨d0,d3,hd⟩:=CU aa;simp only[go_sem];refine aN fun j Y=>?_
 have I:O≠j:=bE X Y;simp only[go_sem];refine⟨fun ρ H=>∃i:Nat,i<=d.toNat/\ρ 0=.os O/\ρ 1=int d/\ρ 7=int i/\H O=some (⟨89,1,ll.map fD⟩:Row)/\∃j,O≠j/\ρ 6=.os j/\H j=some (⟨3,1,((List.range i).map (lK ll)).map bC⟩:Row),fun ρ _=>d.toNat-aR (ρ 7),⟨0,Xaa _,rfl,rfl,rfl,by rw[aJ _ _ _ _ I];exact X,j,I,rfl,aB _ _ _⟩,?_⟩;rintro ρ H ⟨i,hi,h0,h1,Z,R,j,I,h6,Y⟩;simp only[go_sem,h1,Z];refine aA (fun J=>?_) (fun T=>?_)
 ·have J:i<d.toNat:=by simp at J;omega
  simp only[go_sem];refine⟨fun ρ H=>∃k:Nat,k<=ll.length/\ρ 0=.os O/\ρ 1=int d/\ρ 6=.os j/\ρ 7=int i/\ρ 8=int (lK (ll.take k) i)/\ρ 9=int k/\H O=some (⟨89,1,ll.map fD⟩:Row)/\H j=some (⟨3,1,((List.range i).map (lK ll)).map bC⟩:Row),fun ρ _=>ll.length-aR (ρ 9),⟨0,Xaa _,h0,h1,h6,Z,by simp only[go_sem];rfl,by simp only[go_sem];rfl,R,Y⟩,?_⟩;rintro ρ H ⟨k,hk,h0,h1,h6,Z,h8,h9,R,Y⟩;simp only[go_sem,h0,h9,R];refine aA (fun E=>?_) (fun F=>?_)
  ·have E:k<ll.length:=by simpa using E
   obtain⟨u,hu⟩:=aK E;have b1:=inB E;have ae:=hd u (Xac hu);obtain⟨v,hv⟩:=aK (show i<u.length by omega);have b2:=inB (show i<u.length by omega);have ac:u.getD i 0=v:=by simp[List.getD,hv]
   simp only[go_sem,h0,h1,h6,Z,h8,h9,R,aC hu,b1,fD,aC hv,b2,aQ k];refine⟨E,⟨k+1,E,by rw[zQ hu,ac],rfl,Y⟩,by simp only[aL];omega⟩
  ·have F:k=ll.length:=by simp at F;omega
   subst F;rw[Xad]at h8;simp only[go_sem,h6,h8];refine aY Y ⟨rfl,rfl⟩ ⟨rfl,trivial⟩ (by simp;omega) (fun j' ab=>?_);simp only[go_sem,h0,h1,Z,aQ i];refine⟨⟨i+1,J,rfl,dL R I.symm ab,j',bE R ab,rfl,?_⟩,msr J⟩;rw[Xbi,Xam,Xam];exact aB _ _ _
 ·have T:i=d.toNat:=by simp at T;omega
  subst T;simp only[go_sem,h6];exact ad aa j H Y
end Sq
namespace Sq
open Go.Proofs.Tryz
open Mv (bP bS aO)
open Mv (bP bS aO)
def onS(i n:Int)(s:Bool×Bool)(kv:Nat×Visit):Bool×Bool:=
 if(kv.2.order != i)=true then s else(if decide ((kv.1:Int)<n)=true then !kv.2.drop else s.1,true)
def asF(l:List Visit)(i n:Int)(b:Bool):Bool×Bool:=((List.range l.length).map fun k=>(k,l.getD k ⟨0,false⟩)).foldl (onS i n) (b,false)
def Dq(l:List Visit)(i n:Int)(b:Bool)(k:Nat):Bool×Bool:=((List.range k).map fun k=>(k,l.getD k ⟨0,false⟩)).foldl (onS i n) (b,false)
def LJ{l:List Visit}{i n:Int}{b:Bool}{k:Nat}{v:Visit}(h:l[k]?=some v):Dq l i n b (k+1)=onS i n (Dq l i n b k) (k,v):=by unfold Dq;rw[Xbi,Xam,Xbm];simp[List.getD,h]
def onB(l:List Visit)(n:Int)(i:Nat)(o:Order):Bool:=(asF l i n (decide (o.pick.place<0))).1&&(asF l i n (decide (o.pick.place<0))).2
def kF(os:List Order)(l:List Visit)(n:Int)(k:Nat):List (List Int):=(List.range k).flatMap fun i=>match os[i]? with|some o=>if onB l n i o=true then[o.load]else[]|none=>[]
def AH{os:List Order}{l:List Visit}{n:Int}{k:Nat}{o:Order}(h:os[k]?=some o):kF os l n (k+1)=kF os l n k++(if onB l n k o=true then[o.load]else[]):=by unfold kF;rw[Xbi,Xcd];simp[h]
def GS(os:List Order)(l:List Visit)(n:Int)(k:Nat):(kF os l n k).length<=k:=by
 induction k with
 | zero=>simp[kF]
 | succ k ih=>
  have:(kF os l n (k+1)).length<=(kF os l n k).length+1:=by
   unfold kF;rw[Xbi,Xcd,Xae];simp only[List.flatMap_cons,List.flatMap_nil,Xah];split
   ·split <;> simp
   ·simp
  omega
def nA(x:Instance)(l:List Visit)(n:Int):List Int×Int:=wF (kF x.orders l n x.orders.length) (fR x)
abbrev Lw(ll:List (List Int)):Row:=⟨89,1,ll.map fD⟩
def Zd(x:Instance)(l:List Visit)(n:Int)(ho:x.orders.length<=1048576)(hl:l.length<=1048576):
  PC prog 376 [.agg (aD x),.sl (l.map aF),int n] (.tup [.sl ((nA x l n).1.map bC),int (nA x l n).2]):=by
 refine pcb (fun t=>t == 8) func376 rfl rfl ?_;simp only[go_sem];refine aN fun j T=>?_
 simp only[go_sem];refine⟨fun ρ H=>∃i:Nat,i<=x.orders.length/\ρ 1=.sl (l.map aF)/\ρ 2=int n/\ρ 3=.rp (aD x) 0/\ρ 9=int i/\∃j,ρ 8=.os j/\H j=some (Lw (kF x.orders l n i)),fun ρ _=>x.orders.length-aR (ρ 9),⟨0,Xaa _,rfl,rfl,rfl,rfl,j,rfl,aB _ _ _⟩,?_⟩;rintro ρ H ⟨i,hi,h1,Z,J,O,j,Y,T⟩;simp only[go_sem,J,O];refine aA (fun ab=>?_) (fun af=>?_)
 ·have ab:=aV ab;obtain⟨o,ae⟩:=aK ab;have b1:=inB ab;simp only[go_sem,J,O,aC ae,b1];refine⟨fun ρ H=>∃k:Nat,k<=l.length/\ρ 1=.sl (l.map aF)/\ρ 2=int n/\ρ 3=.rp (aD x) 0/\ρ 8=.os j/\ρ 9=int i/\ρ 10=boo (Dq l i n (decide (o.pick.place<0)) k).1/\ρ 11=boo (Dq l i n (decide (o.pick.place<0)) k).2/\ρ 12=int k/\H j=some (Lw (kF x.orders l n i)),fun ρ _=>l.length-aR (ρ 12),⟨0,Xaa _,h1,Z,J,Y,O,by simp only[go_sem];rfl,by simp only[go_sem];rfl,by simp only[go_sem];rfl,T⟩,?_⟩;rintro ρ H ⟨k,hk,h1,Z,J,Y,O,X,aa,F,T⟩;simp only[go_sem,h1,F];refine aA (fun I=>?_) (fun ad=>?_)
  ·have I:=aV I;obtain⟨v,hv⟩:=aK I;have b2:=inB I;have ac:=LJ (i:=i) (n:=n) (b:=decide (o.pick.place<0)) hv;simp only[go_sem,h1,O,F,aC hv,b2];apply aA <;> intro hb
   ·simp only[go_sem,h1,Z,J,Y,O,X,aa,F,aQ k];have e:Dq l i n (decide (o.pick.place<0)) (k+1)=Dq l i n (decide (o.pick.place<0)) k:=by rw[ac];unfold onS;rw[if_pos hb]
    exact⟨⟨k+1,I,by rw[e],by rw[e],rfl,T⟩,by simp only[aL];omega⟩
   ·simp only[go_sem,Z,F,];have e:Dq l i n (decide (o.pick.place<0)) (k+1)=(if decide ((k:Int)<n)=true then !v.drop else(Dq l i n (decide (o.pick.place<0)) k).1,true):=by rw[ac];unfold onS;rw[if_neg (by rw[hb];simp)]
    refine gU (fun E H'=>E 1=.sl (l.map aF)/\E 2=int n/\E 3=.rp (aD x) 0/\E 8=.os j/\E 9=int i/\E 10=boo (Dq l i n (decide (o.pick.place<0)) (k+1)).1/\E 11=boo (Dq l i n (decide (o.pick.place<0)) (k+1)).2/\E 12=int k/\H' j=some (Lw (kF x.orders l n i))) ?_ fun K hK _ _=>aA (fun ag=>?_) (fun ag=>?_)
    ·clear h1 Z J Y O X aa F T;rintro ρ H ⟨h1,Z,J,Y,O,X,aa,F,T⟩;simp only[go_sem,h1,Z,J,Y,O,X,aa,F,aQ k];exact⟨⟨k+1,I,rfl,rfl,rfl,T⟩,by simp only[aL];omega⟩
    ·simp only[go_sem,h1,F,aC hv,b2];refine hK _ _ ⟨h1,Z,J,Y,O,?_,?_,F,T⟩
     ·simp only[go_sem];rw[e,if_pos ag]
     ·simp only[go_sem];rw[e]
    ·simp only[go_sem];refine hK _ _ ⟨h1,Z,J,Y,O,?_,?_,F,T⟩
     ·simp only[go_sem,X];rw[e,if_neg (by rw[ag];simp)]
     ·simp only[go_sem];rw[e]
  ·have ad:=aW hk ad;subst ad;have ai:onB l n i o=((Dq l i n (decide (o.pick.place<0)) l.length).1&&(Dq l i n (decide (o.pick.place<0)) l.length).2):=rfl;have aj:=GS x.orders l n i;simp only[go_sem,X,aa];rw[<-ai];refine gU (fun E H'=>E 1=.sl (l.map aF)/\E 2=int n/\E 3=.rp (aD x) 0/\E 9=int i/\∃j,E 8=.os j/\H' j=some (Lw (kF x.orders l n (i+1)))) ?_ fun K hK _ _=>aA (fun hb=>?_) (fun hb=>?_)
   ·clear h1 Z J Y O X aa T;rintro ρ H ⟨h1,Z,J,O,j,Y,T⟩;simp only[go_sem,h1,Z,J,O,Y,aQ i];exact⟨⟨i+1,ab,rfl,j,rfl,T⟩,msr ab⟩
   ·simp only[go_sem,J,Y,O,aC ae,b1];refine aY T ⟨rfl,rfl⟩ ⟨rfl,trivial⟩ (by simp;omega) (fun j' ah=>?_);simp only[go_sem];refine hK _ _ ⟨h1,Z,J,O,j',rfl,?_⟩;rw[AH ae,if_pos hb,aB];simp[fD]
   ·simp only[go_sem];refine hK _ _ ⟨h1,Z,J,O,j,Y,?_⟩;rw[AH ae,if_neg (by rw[hb];simp),Xah];exact T
 ·have af:=aW hi af;subst af;have aj:=GS x.orders l n x.orders.length;simp only[go_sem,J,Y];refine aH (aeY x) ?_;simp only[go_sem];refine aoG H _ j (kF x.orders l n x.orders.length) (fR x) (by omega) T (fun he=>?_) (fun he j' H' ah=>?_)
  ·simp only[go_sem];have:nA x l n=([],2):=by unfold nA wF;rw[if_neg (by rw[he];simp)]
   rw[this];exact .refl _
  ·simp only[go_sem];have:nA x l n=((List.range (fR x).toNat).map (lK (kF x.orders l n x.orders.length)),0):=by unfold nA wF;rw[if_pos he]
   rw[this];exact .tup _ _ (.cons _ _ _ _ (.row _ _ _ ah (ConvE.refl _)) (ConvL.refl _))
def AW:List Int->Int
 | []=>0
 | e::r=>if(e != 0)=true then e else AW r
def UK{l:List Int}{k:Nat}{e:Int}(h:∀e∈l.take k,(e != 0)=false)(E:l[k]?=some e)(I:(e != 0)=true):AW l=e:=by
 induction l generalizing k with
 | nil=>simp at E
 | cons a r ih=>
  cases k with
  | zero=>simp at E;subst E;simp only[AW];rw[if_pos I]
  | succ k=>have h0:=h a (by simp);simp only[AW];rw[if_neg (by rw[h0];simp)];exact ih (k:=k) (fun e F=>h e (by simp[F])) (by simpa using E)
def GE{l:List Int}(h:∀e∈l,(e != 0)=false):AW l=0:=by
 induction l with
 | nil=>rfl
 | cons a r ih=>simp only[AW];rw[if_neg (by rw[h a (by simp)];simp)];exact ih fun e E=>h e (by simp[E])
def Kd(x:Instance)(l:List Visit)(k:Nat):List (List Int):=(List.range k).map fun n:Nat=>(nA x l n).1
def OB(x:Instance)(l:List Visit):List Int:=(List.range (l.length+1)).map fun n:Nat=>(nA x l n).2
def Tk{x:Instance}{l:List Visit}{k:Nat}(h:k<=l.length):(OB x l)[k]?=some (nA x l k).2:=by
 have:k<l.length+1:=by omega
 simp[OB,this]
def kI(x:Instance)(l:List Visit):List (List Int)×Int:=
 if(fE x l != 0)=true then([],fE x l)else if(AW (OB x l) != 0)=true then([],AW (OB x l))else(Kd x l (l.length+1),0)
def aaW(x:Instance)(r:Route)(ho:x.orders.length<=1048576)(hl:r.visits.length<=1048576)(ha:x.apart.length<=1048576)(hb:x.before.length<=1048576):
  PC prog 359 [.agg (aD x),.agg (bT r)] (.tup [.sl ((kI x r.visits).1.map fD),int (kI x r.visits).2]):=by
 refine pcb (fun t=>t == 7) func359 rfl rfl ?_;simp only[go_sem];refine aH (LR x r hl ha hb) ?_;simp only[go_sem];apply aA <;> intro X
 ·simp only[go_sem];have:kI x r.visits=([],fE x r.visits):=by unfold kI;rw[if_pos X]
  rw[this];exact .refl _
 simp only[go_sem];refine aN fun j O=>?_
 simp only[go_sem];refine⟨fun ρ H=>∃k:Nat,k<=r.visits.length+1/\ρ 2=.rp (aD x) 0/\ρ 3=.rp (bT r) 0/\ρ 8=int k/\(∀e∈(OB x r.visits).take k,(e != 0)=false)/\∃j,ρ 7=.os j/\H j=some (Lw (Kd x r.visits k)),fun ρ _=>r.visits.length+1-aR (ρ 8),⟨0,Xaa _,rfl,rfl,rfl,by simp,j,rfl,aB _ _ _⟩,?_⟩;rintro ρ H ⟨k,hk,h2,J,T,I,j,Z,O⟩;simp only[go_sem,J,T];refine aA (fun E=>?_) (fun F=>?_)
 ·have E:k<=r.visits.length:=by simp at E;omega
  simp only[go_sem,h2,J,T];refine aH (Zd x r.visits k ho hl) ?_;simp only[go_sem];apply aA <;> intro Y
  ·simp only[go_sem];have e:=UK I (Tk E) Y;have:kI x r.visits=([],(nA x r.visits k).2):=by unfold kI;rw[if_neg (by rw[X];simp),e,if_pos Y]
   rw[this];exact .refl _
  ·simp only[go_sem,Z];refine aY O ⟨rfl,rfl⟩ ⟨rfl,trivial⟩ (by simp only[Kd,Xab,Xbd,Xai,List.length_nil];omega) (fun j' aa=>?_);simp only[go_sem,h2,J,T,aQ k];refine⟨⟨k+1,by omega,rfl,?_,j',rfl,?_⟩,by simp only[aL];omega⟩
   ·exact aO (p:=fun e:Int=>(e != 0)=false) (Tk E) Y I
   ·have:Kd x r.visits (k+1)=Kd x r.visits k++[(nA x r.visits k).1]:=by unfold Kd;rw[Xbi,Xam];rfl
    rw[this];show _=some (⟨89,1,(Kd x r.visits k++[(nA x r.visits k).1]).map fD⟩:Row);rw[Xam];exact aB _ _ _
 ·have F:k=r.visits.length+1:=by simp at F;omega
  subst F;simp only[go_sem,Z];have e:=GE (l:=OB x r.visits) (by rw[Xan (by simp[OB])]at I;exact I);have:kI x r.visits=(Kd x r.visits (r.visits.length+1),0):=by unfold kI;rw[if_neg (by rw[X];simp),e];rfl
  rw[this];exact .tup _ _ (.cons _ _ _ _ (.row _ _ _ O (ConvE.refl _)) (ConvL.refl _))
def G3(x:Instance)(t:Int):List Int:=match x.types[t.toNat]? with|some t=>t.cap|none=>[]
def AS(x:Instance)(r:Route):Int:=
 if cF r.type x.types.length=true then 2 else if((kI x r.visits).2 != 0)=true then(kI x r.visits).2
 else if((kI x r.visits).1.any fun l=> !iS l (G3 x r.type))=true then 17 else 0
def aoS{ll:List (List Int)}{d:Int}:(wF ll d).1.length<=3:=by
 unfold wF;by_cases h:jI ll d=true
 ·rw[if_pos h];have:=CU h;simp;omega
 ·rw[if_neg h];simp
def aaQ{x:Instance}{l:List Visit}:(kI x l).1.length<=l.length+1/\∀a∈(kI x l).1,a.length<=3:=by
 unfold kI;split
 ·simp
 ·split
  ·simp
  ·refine⟨by simp[Kd],fun a E=>?_⟩;simp only[Kd,Xbe,Xat]at E;obtain⟨n,_,rfl⟩:=E;exact aoS
def ajZ(x:Instance)(r:Route)(ho:x.orders.length<=1048576)(hl:r.visits.length<=1048576)(ha:x.apart.length<=1048576)(J:x.before.length<=1048576):
  PC prog 327 [.agg (aD x),.agg (bT r)] (int (AS x r)):=by
 refine pcd func327 rfl rfl ?_;simp only[go_sem];apply aA <;> intro h1
 ·simp only[go_sem];exact bP (by unfold AS;rw[if_pos (show cF r.type x.types.length=true from h1)])
 have Z:0<=r.type/\r.type<(x.types.length:Int):=by simp only[Xag,decide_eq_false_iff_not]at h1;omega
 obtain⟨t,ht⟩:=aK (show r.type.toNat<x.types.length by omega);have ec:G3 x r.type=t.cap:=by unfold G3;rw[ht]
 simp only[go_sem];refine aH (aaW x r ho hl ha J) ?_;simp only[go_sem];apply aA <;> intro I
 ·simp only[go_sem];exact bP (by unfold AS;rw[if_neg (by rw[show cF r.type x.types.length=false from h1];simp),if_pos I])
 have hf:AS x r=if((kI x r.visits).1.any fun l=> !iS l t.cap)=true then 17 else 0:=by unfold AS;rw[if_neg (by rw[show cF r.type x.types.length=false from h1];simp),if_neg (by rw[I];simp),ec]
 rw[hf];obtain⟨ln,la⟩:=aaQ (x:=x) (l:=r.visits);generalize (kI x r.visits).1=ll at ln la;simp only[go_sem];refine⟨fun ρ _=>∃k:Nat,k<=ll.length/\ρ 2=.rp (aD x) 0/\ρ 3=.rp (bT r) 0/\ρ 5=.sl (ll.map fD)/\ρ 7=int k/\∀l∈ll.take k,(!iS l t.cap)=false,fun ρ _=>ll.length-aR (ρ 7),⟨0,Xaa _,rfl,rfl,rfl,rfl,by simp⟩,?_⟩;rintro ρ H ⟨k,hk,I,h3,T,Y,X⟩;simp only[go_sem,T,Y];refine aA (fun E=>?_) (fun F=>?_)
 ·have E:=aV E;obtain⟨u,O⟩:=aK E;have b1:=inB E;have aa:=la u (Xac O);simp only[go_sem];refine dK ?_;simp only[go_sem,I,h3,T,Y,aC O,b1,fD,aC ht,Z];refine⟨_,(alB u t.cap (by omega)).q rfl,?_⟩;simp only[go_sem];apply aA <;> intro J
  ·simp only[go_sem];exact bP (by rw[if_pos (Xas.2 ⟨u,Xac O,J⟩)])
  ·simp only[go_sem,I,h3,T,Y,aQ k];exact⟨⟨k+1,E,rfl,aO (p:=fun l=>(!iS l t.cap)=false) O J X⟩,msr E⟩
 ·have F:=aW hk F;subst F;rw[Xad]at X;simp only[go_sem];exact bP (by rw[if_neg (by rw[rZ X];simp)])
def HJ(n:Network)(i:Int):Bool:=decide (i>=0)&&decide (i<(n.places.length:Int))
def MO(n:Network)(i:Int):PC prog 384 [.agg (bD n),int i] (boo (HJ n i)):=by refine pcd func384 rfl rfl ?_;simp only[go_sem];exact .refl _
def CP:Arc:=⟨0,0,0,0,[],[]⟩
def IM(p f t:Int)(a:Arc):Bool:=a.src == f&&a.dst == t&&a.profile == p
def pY(n:Network)(p f t:Int):Option Arc:=n.arcs.find? (IM p f t)
def Em{α:Type}{p:α->Bool}{l:List α}{k:Nat}{x:α}(h:∀y∈l.take k,p y=false)(E:l[k]?=some x)(F:p x=true):l.find? p=some x:=by
 induction l generalizing k with
 | nil=>simp at E
 | cons a r ih=>
  cases k with
  | zero=>simp at E;subst E;simp[List.find?,F]
  | succ k=>have h0:=h a (by simp);rw[List.find?_cons,h0];exact ih (k:=k) (fun y I=>h y (by simp[I])) (by simpa using E)
def Cq{α:Type}{p:α->Bool}{l:List α}(h:∀y∈l,p y=false):l.find? p=none:=List.find?_eq_none.2 fun y E=>by rw[h y E];simp
def ajG(n:Network)(p f t:Int)(hl:n.arcs.length<=1048576):PC prog 385 [.agg (bD n),int p,int f,int t] (.tup [.agg (gH ((pY n p f t).getD CP)),boo (pY n p f t).isSome]):=by
 refine pcd func385 rfl rfl ?_;simp only[go_sem];refine aN fun j Z=>?_
 simp only[go_sem];refine⟨fun ρ H=>∃k:Nat,k<=n.arcs.length/\ρ 1=int p/\ρ 2=int f/\ρ 3=int t/\ρ 4=.rp (bD n) 0/\ρ 8=.op j 0 0/\ρ 10=int k/\H j=some ⟨88,6,[[int 0,int 0,int 0,int 0,.sl [],.sl []]]⟩/\∀a∈n.arcs.take k,IM p f t a=false,fun ρ _=>n.arcs.length-aR (ρ 10),⟨0,Xaa _,rfl,rfl,rfl,rfl,rfl,rfl,aB _ _ _,by simp⟩,?_⟩;rintro ρ H ⟨k,hk,h1,h2,h3,h4,O,J,Z,Y⟩;simp only[go_sem,h4,J];refine aA (fun E=>?_) (fun F=>?_)
 ·have E:=aV E;obtain⟨a,I⟩:=aK E;have b1:=inB E;simp only[go_sem,h4,J,aC I,b1];refine aN fun i hi=>?_
  have T:j≠i:=bE Z hi;simp only[go_sem];refine aI (aB _ _ _) (by simp[iZ]) ?_;simp only[go_sem,h1,h2,h3,];generalize hG:aM (aM H i _) i _=HG;have X:HG j=some ⟨88,6,[[int 0,int 0,int 0,int 0,.sl [],.sl []]]⟩:=by rw[<-hG,aJ _ _ _ _ T,aJ _ _ _ _ T];exact Z
  have aa:HG i=some ⟨88,6,[gH a]⟩:=by rw[<-hG,aB]
  apply aA <;> intro hb
  ·simp only[go_sem,O,aa];refine aI X (by simp[iZ]) ?_;simp only[go_sem,O,iZ];have:pY n p f t=some a:=Em Y I hb;rw[this];exact .refl _
  ·simp only[go_sem,h1,h2,h3,h4,O,J,aQ k];exact⟨⟨k+1,E,rfl,X,aO (p:=fun a=>IM p f t a=false) I hb Y⟩,msr E⟩
 ·have F:=aW hk F;subst F;rw[Xad]at Y;simp only[go_sem,O];refine aI Z (by simp) ?_;simp only[go_sem,O];have:pY n p f t=none:=Cq Y;rw[this];exact .refl _
def W(n:Int):Int:=IntKind.i64.wrap n
def mY(l:List Point)(t:Int)(k:Nat):Bool:=decide ((eM l k).t<=t)&&decide (t<(eM l (k+1)).t)
def I1(p q:Point)(t:Int):Int:=W (p.a+IntKind.i64.wrap (Int.tdiv (W (W (W (W (W (t-p.t)*W (q.a-p.a))+q.t)-p.t)-1)) (W (q.t-p.t))))
def AD(e:Point)(t:Int):Int:=W (W (t+e.a)-e.t)
def uE(l:List Point)(t:Int):Bool:=decide (((jJ l).length:Int)>0)||decide (t<0)||decide (t>1073741824)
def gP(l:List Point)(t:Int):Int:=
 if uE l t=true then 0 else match (List.range (l.length-1)).find? (mY l t)with
 | some k=>I1 (eM l k) (eM l (k+1)) t
 | none=>if decide (t>(eM l 0).t)=true then AD (eM l (l.length-1)) t else AD (eM l 0) t
def aqI(n:Int):Prop:= -9223372036854775808<=n/\n<=9223372036854775807
def Xc{n:Int}(h:0<n/\n<18446744073709551616):¬IntKind.i64.wrap n=0:=by
 show ¬(if(true&&decide (n%18446744073709551616>=9223372036854775808))=true then n%18446744073709551616-18446744073709551616 else n%18446744073709551616)=0;by_cases h1:n%18446744073709551616>=9223372036854775808
 ·rw[if_pos (by simpa using h1)];omega
 ·rw[if_neg (by simpa using h1)];omega
def WD(l:List Point)(t:Int)(hl:l.length<=1048576)(hp:∀p∈l,aqI p.t):PC prog 387 [.sl (l.map bZ),int t] (int (gP l t)):=by
 refine pcd func387 rfl rfl ?_;simp only[go_sem];refine aH (Mf l hl) ?_;simp only[go_sem];apply aA <;> intro Y
 ·simp only[go_sem];exact bP (by unfold gP;rw[if_pos (show uE l t=true by simpa[uE]using Y)])
 have J:uE l t=false:=by simpa[uE]using Y
 have af:0<l.length:=by
  simp only[uE,Xag,decide_eq_false_iff_not]at J;have h0:jJ l=[]:=List.eq_nil_of_length_eq_zero (by omega);simp only[jJ,Xbs]at h0;have h1:=h0.1;cases ad:DK l.length 1 16 with
  | true=>rw[ad]at h1;simp[opt]at h1
  | false=>simp only[DK,Xag,decide_eq_false_iff_not]at ad;omega
 have ht:0<=t/\t<=1073741824:=by simp only[uE,Xag,decide_eq_false_iff_not]at J;omega
 have ab:gP l t=match (List.range (l.length-1)).find? (mY l t)with
  | some k=>I1 (eM l k) (eM l (k+1)) t
  | none=>if decide (t>(eM l 0).t)=true then AD (eM l (l.length-1)) t else AD (eM l 0) t:=by
  unfold gP;rw[if_neg (by rw[J];simp)]
 rw[ab];simp only[go_sem];refine⟨fun ρ _=>∃k:Nat,k<=l.length-1/\ρ 0=.sl (l.map bZ)/\ρ 1=int t/\ρ 5=int k/\∀c∈(List.range (l.length-1)).take k,mY l t c=false,fun ρ _=>l.length-1-aR (ρ 5),⟨0,Xaa _,rfl,rfl,rfl,by simp⟩,?_⟩;rintro ρ H ⟨k,hk,h0,h1,Z,hz⟩;simp only[go_sem,h0,Z,aQ k];refine aA (fun I=>?_) (fun T=>?_)
 ·have I:k<l.length-1:=by simp at I;omega
  obtain⟨p,F⟩:=aK (show k<l.length by omega);obtain⟨q,E⟩:=aK (show k+1<l.length by omega);have b1:=inB (show k<l.length by omega);have b2:=inB (show k+1<l.length by omega);have pb:=hp p (Xac F);have qb:=hp q (Xac E);have es:mY l t k=(decide (p.t<=t)&&decide (t<q.t)):=by unfold mY;rw[dZ F,dZ E]
  simp only[go_sem,h0,Z,aC F,b1];refine aN fun i1 ah=>?_
  simp only[go_sem];refine aI (aB _ _ _) (by simp[fU]) ?_;simp only[go_sem,h0,Z,aC E,b2,aQ k];generalize X:aM (aM H i1 _) i1 _=H1;have O:H1 i1=some ⟨85,2,[bZ p]⟩:=by rw[<-X,aB]
  refine aN fun i2 ag=>?_
  have ae:i1≠i2:=bE O ag;simp only[go_sem];refine aI (aB _ _ _) (by simp[fU]) ?_;generalize X:aM (aM H1 i2 _) i2 _=H2;have R2:H2 i2=some ⟨85,2,[bZ q]⟩:=by rw[<-X,aB];rfl
  have O:H2 i1=some ⟨85,2,[bZ p]⟩:=by rw[<-X,aJ _ _ _ _ ae,aJ _ _ _ _ ae];exact O
  simp only[go_sem,h1,O,R2];rw[<-es];apply aA <;> intro hs
  ·have ac:=hs;rw[es]at ac;simp only[Xak,decide_eq_true_eq]at ac;simp only[go_sem];refine dK ?_;simp only[go_sem,h1,O,R2];have hf:(List.range (l.length-1)).find? (mY l t)=some k:=Em hz (iN I) hs;rw[hf];simp only;rw[dZ F,dZ E];unfold aqI at pb qb;exact⟨Xc (by omega),.refl _⟩
  ·simp only[go_sem,h0,h1,Z,aQ k];exact⟨⟨k+1,by omega,rfl,aO (p:=fun c=>mY l t c=false) (iN I) hs hz⟩,msr I⟩
 ·have T:k=l.length-1:=by simp at T;omega
  subst T;have hf:(List.range (l.length-1)).find? (mY l t)=none:=Cq fun c hc=>hz c (by rw[Xan (by simp)];exact hc)
  rw[hf];obtain⟨p,F⟩:=aK af;obtain⟨q,E⟩:=aK (show l.length-1<l.length by omega);have e0:=dZ F;have e1:=dZ E;have wl:IntKind.i64.wrap ((l.length:Int)-1)=((l.length-1:Nat):Int):=by rw[aU (by omega)];omega
  simp only[go_sem,h0,aC F];refine⟨⟨by decide,by omega⟩,?_⟩;refine aN fun i hi=>?_
  simp only[go_sem];refine aI (aB _ _ _) (by simp[fU]) ?_;generalize X:aM (aM H i _) i _=H1;have O:H1 i=some ⟨85,2,[bZ p]⟩:=by rw[<-X,aB];rfl
  simp only[go_sem,h1,O];rw[e0];refine gU (fun aa H'=>aa 1=int t/\aa 8=.op i 0 0/\H' i=some ⟨85,2,[bZ (if decide (t>p.t)=true then q else p)]⟩) ?_ fun K hK _ _=>aA (fun Y=>?_) (fun Y=>?_)
  ·clear h0 h1 Z O;rintro ρ H ⟨h1,h8,R⟩;simp only[go_sem,h1,h8,R];rw[e1];refine bP ?_;cases decide (t>p.t) <;> rfl
  ·simp only[go_sem,h0,wl,aC E];refine⟨⟨by omega,by omega⟩,?_⟩;refine aI O (by simp[fU]) ?_;simp only[go_sem];refine hK _ _ ⟨h1,rfl,?_⟩;rw[aB,if_pos Y];rfl
  ·simp only[go_sem];refine hK _ _ ⟨h1,rfl,?_⟩;rw[if_neg (by rw[Y];simp)];exact O
end Sq
namespace Sq
open Go.Proofs.Tryz
open Mv (bP bS aO)
def pL(t:Int)(s:Int)(p:Point):Int:=if decide (p.t<=t)=true then W (s+p.a)else s
def tU(a:Arc)(t:Int):Int:=a.slow.foldl (pL t) (gP a.travel t)
structure ArcB(a:Arc):Prop where
 travel:a.travel.length<=1048576
 slow:a.slow.length<=1048576
 time:∀p∈a.travel,aqI p.t
def VV(a:Arc)(t:Int)(Z:ArcB a):PC prog 386 [.agg (gH a),int t] (int (tU a t)):=by
 have aa:=Z.slow;refine pcd func386 rfl rfl ?_;simp only[go_sem];refine aH (WD a.travel t Z.travel Z.time) ?_;simp only[go_sem];refine⟨fun ρ _=>∃k:Nat,k<=a.slow.length/\ρ 1=int t/\ρ 2=.rp (gH a) 0/\ρ 5=int ((a.slow.take k).foldl (pL t) (gP a.travel t))/\ρ 6=int k,fun ρ _=>a.slow.length-aR (ρ 6),⟨0,Xaa _,rfl,rfl,rfl,rfl⟩,?_⟩;rintro ρ H ⟨k,hk,h1,J,T,I⟩;simp only[go_sem,J,I];refine aA (fun E=>?_) (fun O=>?_)
 ·have E:=aV E;obtain⟨p,Y⟩:=aK E;have b1:=inB E;have hs:(a.slow.take (k+1)).foldl (pL t) (gP a.travel t)=pL t ((a.slow.take k).foldl (pL t) (gP a.travel t)) p:=by rw[bA Y,Xbm];rfl
  simp only[go_sem,h1,J,I,aC Y,b1];refine gU (fun F _=>F 1=int t/\F 2=.rp (gH a) 0/\F 5=int ((a.slow.take (k+1)).foldl (pL t) (gP a.travel t))/\F 6=int k) ?_ fun K hK _ _=>aA (fun X=>?_) (fun X=>?_)
  ·clear h1 J T I;rintro ρ H ⟨h1,J,T,I⟩;simp only[go_sem,h1,J,T,I,aQ k];exact⟨⟨k+1,E,rfl,rfl⟩,msr E⟩
  ·simp only[go_sem,J,T,I,aC Y,b1];refine hK _ _ ⟨h1,J,?_,I⟩;simp only[go_sem];rw[hs,pL,if_pos X];rfl
  ·simp only[go_sem];refine hK _ _ ⟨h1,J,?_,I⟩;simp only[go_sem,T];rw[hs,pL,if_neg (by rw[X];simp)]
 ·have O:=aW hk O;subst O;simp only[go_sem,T];rw[Xad];exact .refl _
structure NetB(n:Network):Prop where
 arcs:n.arcs.length<=1048576
 arc:∀a∈n.arcs,ArcB a
def fO(n:Network)(p f t time:Int):Int×Int×Int:=
 if(!HJ n f|| !HJ n t)=true then(0,0,11)else if(f == t)=true then(time,0,0)
 else match pY n p f t with|some a=>(tU a time,a.miles,0)|none=>(0,0,12)
def avW(n:Network)(p f t time:Int)(I:NetB n):PC prog 383 [.agg (bD n),int p,int f,int t,int time] (.tup [int (fO n p f t time).1,int (fO n p f t time).2.1,int (fO n p f t time).2.2]):=by
 refine pcd func383 rfl rfl ?_;simp only[go_sem];refine aH (MO n f) ?_;simp only[go_sem];refine⟨_,fun _=>(MO n t).q rfl,?_⟩;simp only[go_sem];apply aA <;> intro h1
 ·simp only[go_sem];have:fO n p f t time=(0,0,11):=by unfold fO;rw[if_pos h1]
  rw[this];exact .refl _
 simp only[go_sem];apply aA <;> intro F
 ·simp only[go_sem];have:fO n p f t time=(time,0,0):=by unfold fO;rw[if_neg (by rw[h1];simp),if_pos F]
  rw[this];exact .refl _
 have O:fO n p f t time=match pY n p f t with|some a=>(tU a time,a.miles,0)|none=>(0,0,12):=by unfold fO;rw[if_neg (by rw[h1];simp),if_neg (by rw[F];simp)]
 rw[O];simp only[go_sem];refine aH (ajG n p f t I.arcs) ?_;simp only[go_sem];refine aN fun j X=>?_
 simp only[go_sem];refine aI (aB _ _ _) (by simp[iZ]) ?_;simp only[go_sem,iZ];cases J:pY n p f t with
 | none=>refine aA (fun _=>?_) (fun E=>by simp at E);simp only[go_sem];exact .refl _
 | some a=>have T:ArcB a:=I.arc a (List.mem_of_find?_eq_some J);refine aA (fun E=>by simp at E) (fun _=>?_);simp only[go_sem,Xbl];refine dK ?_;simp only[go_sem];refine⟨_,(VV a time T).q rfl,?_⟩;simp only[go_sem];exact .refl _
def apA(x:Instance)(p f t time:Int)(E:NetB x.net):PC prog 382 [.agg (aD x),int p,int f,int t,int time] (.tup [int (fO x.net p f t time).1,int (fO x.net p f t time).2.1,boo ((fO x.net p f t time).2.2 == 0)]):=by refine pcd func382 rfl rfl ?_;simp only[go_sem];refine aH (avW x.net p f t time E) ?_;simp only[go_sem];exact .refl _
structure Score where
 cost:Int
 moved:Int
 other:Int
 work:Int
def cE(s:Score):List AV:=[int s.cost,int s.moved,int s.other,int s.work]
def nH(l:List Visit)(n:Nat):Bool:=(List.range n).all fun i=> !(fB l i == fB l n)
def Wc(l:List Visit)(n:Nat)(hl:l.length<=1048576)(Y:n<l.length):PC prog 364 [.sl (l.map aF),int n] (boo (nH l n)):=by
 obtain⟨u,X⟩:=aK Y;have Z:=inB Y;refine pcd func364 rfl rfl ?_;simp only[go_sem];refine⟨fun ρ _=>∃k:Nat,k<=n/\ρ 0=.sl (l.map aF)/\ρ 1=int n/\ρ 5=int k/\∀i∈(List.range n).take k,(fB l i == fB l n)=false,fun ρ _=>n-aR (ρ 5),⟨0,Xaa _,rfl,rfl,rfl,by simp⟩,?_⟩;rintro ρ H ⟨k,hk,h0,h1,I,J⟩;simp only[go_sem,h1,I];refine aA (fun E=>?_) (fun F=>?_)
 ·have E:k<n:=by simpa using E
  obtain⟨v,T⟩:=aK (show k<l.length by omega);have b1:=inB (show k<l.length by omega);have e:(fB l k == fB l n)=(v.order == u.order):=by rw[gR T,gR X]
  simp only[go_sem];refine dK ?_;simp only[go_sem,h0,h1,I,aC T,aC X,b1,Z];rw[<-e];apply aA <;> intro O
  ·simp only[go_sem];refine bS ?_
   symm
   unfold nH;rw[List.all_eq_false];exact⟨k,Xat.2 E,by rw[O];simp⟩
  ·simp only[go_sem,h0,h1,I,aQ k];exact⟨⟨k+1,E,rfl,aO (p:=fun i=>(fB l i == fB l n)=false) (iN E) O J⟩,msr E⟩
 ·have F:k=n:=by simp at F;omega
  subst F;simp only[go_sem];refine bS ?_
  symm
  unfold nH;rw[Xaj];intro i hi;rw[J i (by rw[Xan (by simp)];exact hi)];rfl
def AA(c s:Int)(i:Nat):Bool:=(IntKind.i64.wrap (Int.tdiv s (2^i:Nat))).tmod 2 == 1&&(IntKind.i64.wrap (Int.tdiv c (2^i:Nat))).tmod 2 == 0
def sK(c s:Int):Bool:= !(decide (c<0)||decide (s<0))&&(List.range 63).all fun i=> !AA c s i
def aiN(t:VType)(s:Int):PC prog 326 [.agg (bF t),int s] (boo (sK t.skills s)):=by
 refine pcd func326 rfl rfl ?_;simp only[go_sem];apply aA <;> intro h1
 ·simp only[go_sem];exact bS (by unfold sK;rw[h1];rfl)
 have ha:sK t.skills s=(List.range 63).all fun i=> !AA t.skills s i:=by unfold sK;rw[h1];rfl
 rw[ha];simp only[go_sem];refine⟨fun ρ _=>∃k:Nat,k<=63/\ρ 1=int s/\ρ 2=.rp (bF t) 0/\ρ 5=int (IntKind.i64.wrap (2^k:Nat))/\∀i∈(List.range 63).take k,AA t.skills s i=false,fun ρ _=>if aR (ρ 5)=0 then 0 else 9223372036854775809-aR (ρ 5),⟨0,Xaa _,rfl,rfl,rfl,by simp⟩,?_⟩;rintro ρ H ⟨k,hk,h1,h2,F,hz⟩;by_cases I:k=63
 ·subst I;have Y:IntKind.i64.wrap ((2^63:Nat):Int)= -9223372036854775808:=by decide +kernel
  rw[Y]at F;simp only[go_sem,F];refine aA (fun E=>by simp at E) (fun _=>?_);simp only[go_sem];refine bS ?_
  symm
  rw[Xaj];intro i hi;rw[hz i (by rw[Xan (by simp)];exact hi)];rfl
 ·have T:k<63:=by omega
  have hp:2^k<=2^62:=Xau (by decide) (by omega);have ad:0<2^k:=Nat.two_pow_pos k;have Y:IntKind.i64.wrap ((2^k:Nat):Int)=((2^k:Nat):Int):=aU (by omega);have ac:((2^k:Nat):Int)*2=((2^(k+1):Nat):Int):=by rw[Xbj];push_cast;rfl
  rw[Y]at F;simp only[go_sem,F];have J:decide (((2^k:Nat):Int)>0)=true:=decide_eq_true (by exact_mod_cast ad);have O:¬(((2^k:Nat):Int)=0):=fun h=>absurd (by exact_mod_cast h:2^k=0) (by omega)
  refine aA (fun _=>?_) (fun E=>by rw[J]at E;cases E);simp only[go_sem,h1,h2,F];refine⟨O,by decide,fun _=>O,fun _=>by decide,?_⟩;apply aA <;> intro E
  ·simp only[go_sem];refine bS ?_
   symm
   rw[List.all_eq_false];exact⟨k,Xat.2 T,by rw[show AA t.skills s k=true from E];simp⟩
  ·simp only[go_sem,h1,h2,F,ac];refine⟨⟨k+1,by omega,rfl,aO (p:=fun i=>AA t.skills s i=false) (iN T) E hz⟩,?_⟩;have ae:aR (int ((2^k:Nat):Int))=2^k:=aL.trans (Xao _);have X:(if aR (int ((2^k:Nat):Int))=0 then 0 else 9223372036854775809-aR (int ((2^k:Nat):Int)))=9223372036854775809-2^k:=by rw[ae,if_neg (by omega)]
   rw[X];by_cases e:k=62
   ·subst e;have:aR (AV.v (Value.int IntKind.i64 (IntKind.i64.wrap ((2^(62+1):Nat):Int))))=0:=by decide +kernel
    rw[this];simp
   ·have ab:2^(k+1)<=2^62:=Xau (by decide) (by omega);have aa:IntKind.i64.wrap ((2^(k+1):Nat):Int)=((2^(k+1):Nat):Int):=aU (by omega);have Z:aR (int ((2^(k+1):Nat):Int))=2^(k+1):=aL.trans (Xao _);rw[aa,Z];rw[if_neg (by have:=Nat.two_pow_pos (k+1);omega),Xbj];rw[Xbj]at ab;omega
def cL:Score:=⟨0,0,0,0⟩
def kW:Stop:=⟨0,0,0,0⟩
def pF(o:Order)(v:Visit):Stop:=if v.drop=true then o.drop else o.pick
def bI(x:Instance)(v:Visit):Stop×Bool:=if cF v.order x.orders.length=true then(kW,false)else
 match x.orders[v.order.toNat]? with
 | some o=>(pF o v,decide ((pF o v).place>=0))
 | none=>(kW,false)
def Tj(x:Instance)(v:Visit):PC prog 377 [.agg (aD x),.agg (aF v)] (.tup [.agg (eJ (bI x v).1),boo (bI x v).2]):=by
 refine pcd func377 rfl rfl ?_;simp only[go_sem];refine aN fun j hj=>?_
 have R:=aB bQ j (some (⟨91,4,[[int 0,int 0,int 0,int 0]]⟩:Row));generalize aM bQ j _=H0 at R |-;simp only[go_sem];apply aA <;> intro h1
 ·have e:bI x v=(kW,false):=if_pos h1;rw[e];simp only[go_sem];refine aI R (by simp) ?_;simp only[go_sem];exact .refl _
 have J:0<=v.order/\v.order<(x.orders.length:Int):=by simp only[Xag,decide_eq_false_iff_not]at h1;omega
 obtain⟨o,O⟩:=aK (show v.order.toNat<x.orders.length by omega);have e:bI x v=(pF o v,decide ((pF o v).place>=0)):=by unfold bI;rw[if_neg (by rw[show cF v.order x.orders.length=false from h1];simp),O]
 rw[e];simp only[go_sem,aC O,J];refine aN fun i hi=>?_
 have E:j≠i:=bE R hi;simp only[go_sem];refine aI (aB _ _ _) (by simp[iC]) ?_;generalize X:aM (aM H0 i _) i _=H1;have F:H1 i=some ⟨91,4,[eJ o.pick]⟩:=by rw[<-X,aB];rfl
 have R:H1 j=some ⟨91,4,[[int 0,int 0,int 0,int 0]]⟩:=by rw[<-X,aJ _ _ _ _ E,aJ _ _ _ _ E];exact R
 simp only[go_sem];refine bN (fun I H'=>I 4=.op j 0 0/\I 6=.op i 0 0/\H' j=some ⟨91,4,[[int 0,int 0,int 0,int 0]]⟩/\H' i=some ⟨91,4,[eJ (pF o v)]⟩) ?_ fun K Z=>aA (fun T=>?_) (fun T=>?_)
 ·clear R F;rintro ρ H ⟨Y,h6,R,F⟩;simp only[go_sem];refine fV [i] [(0,true),(1,true),(2,true),(3,true),(4,false),(5,false)] (by simp[F]) (by kernel_rfl) fun Hp Hr hp hr _ _=>?_
  have Rp:Hp i=some ⟨91,4,[eJ (pF o v)]⟩:=by rw[hp i (by simp)];exact F
  have Rr:Hr j=some ⟨91,4,[[int 0,int 0,int 0,int 0]]⟩:=by rw[hr j (by simpa using E)];exact R
  simp only[go_sem,Y,h6,Rp];refine aI Rr (by simp[iC]) ?_;simp only[go_sem];refine gJ fun _ Hm _ hm=>?_
  have Rm:Hm j=some ⟨91,4,[eJ (pF o v)]⟩:=by rw[hm j (by simpa using E),aB]
  simp only[go_sem,Y,Rm];exact .refl _
 ·simp only[go_sem,aC O,J];refine aI F (by simp[iC]) ?_;simp only[go_sem];refine Z _ _ ⟨rfl,rfl,by rw[aJ _ _ _ _ E];exact R,?_⟩;rw[aB,pF,if_pos T];rfl
 ·simp only[go_sem];refine Z _ _ ⟨rfl,rfl,R,?_⟩;rw[pF,if_neg (by rw[T];simp)];exact F
def bW(x:Instance)(r:Route):Bool:=
 !(cF r.type x.types.length||decide (r.start<0)||decide (r.start>4096)||decide ((r.visits.length:Int)>20))&&r.visits.all fun v=>(bI x v).2
def Eb(x:Instance)(r:Route)(hr:r.visits.length<=1048576):PC prog 361 [.agg (aD x),.agg (bT r)] (boo (bW x r)):=by
 refine pcd func361 rfl rfl ?_;simp only[go_sem];apply aA <;> intro h1
 ·simp only[go_sem];refine bS ?_;unfold bW;rw[show(cF r.type x.types.length||decide (r.start<0)||decide (r.start>4096)||decide ((r.visits.length:Int)>20))=true from h1];rfl
 have ha:bW x r=r.visits.all fun v=>(bI x v).2:=by unfold bW;rw[show(cF r.type x.types.length||decide (r.start<0)||decide (r.start>4096)||decide ((r.visits.length:Int)>20))=false from h1];rfl
 rw[ha];simp only[go_sem];refine⟨fun ρ _=>∃k:Nat,k<=r.visits.length/\ρ 2=.rp (aD x) 0/\ρ 3=.rp (bT r) 0/\ρ 5=int k/\∀v∈r.visits.take k,(bI x v).2=true,fun ρ _=>r.visits.length-aR (ρ 5),⟨0,Xaa _,rfl,rfl,rfl,by simp⟩,?_⟩;rintro ρ H ⟨k,Z,Y,O,J,T⟩;simp only[go_sem,O,J];refine aA (fun E=>?_) (fun F=>?_)
 ·have E:=aV E;obtain⟨v,I⟩:=aK E;have b1:=inB E;simp only[go_sem];refine mX [(0,true),(1,true),(2,true),(3,true),(4,true),(5,true),(6,true),(7,true),(8,true),(9,true),(10,false),(11,false),(12,false)] (by kernel_rfl) ?_;simp only[go_sem,Y,O,J,aC I,b1,dG];refine⟨_,(Tj x v).q rfl,?_⟩;simp only[go_sem];refine aN fun j hj=>?_
  simp only[go_sem];refine aI (aB _ _ _) (by simp[iC]) ?_;simp only[go_sem];apply aA <;> intro X
  ·simp only[go_sem];refine bS ?_
   symm
   rw[List.all_eq_false];exact⟨v,Xac I,by simpa using X⟩
  ·simp only[go_sem,Y,O,J,aQ k];exact⟨⟨k+1,E,rfl,aO (p:=fun v=>(bI x v).2=true) I (by simpa using X) T⟩,msr E⟩
 ·have F:=aW Z F;subst F;simp only[go_sem];refine bS ?_
  symm
  rw[Xaj];intro v I;exact T v (by rw[Xad];exact I)
structure St8 where
 place:Int
 time:Int
 driven:Int
 miles:Int
def lT(s:St8):List AV:=[int s.place,int s.time,int s.driven,int s.miles]
def WT(s:St8):(lT s).length=4:=(rfl)
def agJ(s:St8):(lT s).getD 0 .any=int s.place:=(rfl)
def afR(s:St8):(lT s).getD 1 .any=int s.time:=(rfl)
def ahL(s:St8):(lT s).getD 2 .any=int s.driven:=(rfl)
def ajB(s:St8):(lT s).getD 3 .any=int s.miles:=(rfl)
def UL(s:St8):(lT s).take 4=lT s:=(rfl)
attribute [go_sem] agJ afR ahL ajB UL
def lD(t:VType)(s:St8)(yes:Bool):St8:=if yes=true then⟨s.place,W (s.time+t.rest),0,s.miles⟩else s
def Sv(t:VType)(s:St8)(E:Bool):PC prog 380 [.agg (bF t),.agg (lT s),boo E] (.agg (lT (lD t s E))):=by
 simp only[lT];refine pcb (fun t=>t == 4) func380 rfl rfl ?_;simp only[go_sem];refine aN fun j hj=>?_
 have R:=aB bQ j (some (⟨389,4,[[int s.place,int s.time,int s.driven,int s.miles]]⟩:Row));generalize aM bQ j _=H0 at R |-;simp only[go_sem];refine aN fun i Z=>?_
 have F:j≠i:=bE R Z;have I:=aB H0 i (some (⟨389,4,[[int 0,int 0,int 0,int 0]]⟩:Row));have R:aM H0 i (some (⟨389,4,[[int 0,int 0,int 0,int 0]]⟩:Row)) j=_:=(aJ _ _ _ _ F).trans R;generalize hG:aM H0 i _=H1 at R I |-;simp only[go_sem];refine bN (fun J H'=>J 4=.op j 0 0/\J 6=.op i 0 0/\H' j=some ⟨389,4,[lT (lD t s E)]⟩/\H' i=some ⟨389,4,[[int 0,int 0,int 0,int 0]]⟩) ?_ fun K T=>aA (fun O=>?_) (fun O=>?_)
 ·clear R I;rintro ρ H ⟨Y,X,R,I⟩;simp only[go_sem,Y,X,R];refine aI I (by simp[lT]) ?_;simp only[go_sem,X];exact .refl _
 ·simp only[go_sem,R];refine dP so3 R ⟨by simp,rfl,by simp⟩ ?_;simp only[go_sem];refine dP so3 (aB _ _ _) ⟨by simp,rfl,by simp⟩ ?_;simp only[go_sem];refine T _ _ ⟨rfl,rfl,?_,by rw[aJ _ _ _ _ F.symm,aJ _ _ _ _ F.symm];exact I⟩;rw[aB,lD,if_pos O];rfl
 ·simp only[go_sem];refine T _ _ ⟨rfl,rfl,?_,I⟩;rw[lD,if_neg (by rw[O];simp)];exact R
def gO(x:Instance)(t:VType)(s:St8)(to close late:Int):St8×Int:=
 if(!((fO x.net t.profile s.place to s.time).2.2 == 0))=true then(s,12)
 else if(fO x.net t.profile s.place to s.time).1>close then(s,late)
 else if W (W (s.driven+(fO x.net t.profile s.place to s.time).1)-s.time)>t.drive then(s,16)
 else(⟨to,(fO x.net t.profile s.place to s.time).1,W (W (s.driven+(fO x.net t.profile s.place to s.time).1)-s.time),W (s.miles+(fO x.net t.profile s.place to s.time).2.1)⟩,0)
def Qp(x:Instance)(t:VType)(s:St8)(to close E:Int)(Y:NetB x.net):PC prog 381 [.agg (aD x),.agg (bF t),.agg (lT s),int to,int close,int E] (.tup [.agg (lT (gO x t s to close E).1),int (gO x t s to close E).2]):=by
 simp only[lT];refine pcd func381 rfl rfl ?_;simp only[go_sem];refine aN fun j hj=>?_
 have R:=aB bQ j (some (⟨389,4,[[int 0,int 0,int 0,int 0]]⟩:Row));generalize aM bQ j _=H0 at R |-;simp only[go_sem];refine aH (apA x t.profile s.place to s.time Y) ?_;simp only[go_sem];generalize I:fO x.net t.profile s.place to s.time=g;apply aA <;> intro h1
 ·simp only[go_sem];refine aI R (by simp) ?_;simp only[go_sem];rw[show gO x t s to close E=(s,12)by unfold gO;rw[I,if_pos h1]];exact .refl _
 simp only[go_sem];apply aA <;> intro J
 ·simp only[go_sem];refine aI R (by simp) ?_;simp only[go_sem];rw[show gO x t s to close E=(s,E)by unfold gO;rw[I,if_neg (by rw[h1];simp),if_pos (of_decide_eq_true J)]];exact .refl _
 simp only[go_sem];refine aN fun i Z=>?_
 have F:j≠i:=bE R Z;simp only[go_sem];refine aI (aB _ _ _) (by simp) ?_;generalize T:aM (aM H0 i _) i _=H1;have X:H1 i=some ⟨389,4,[[int to,int g.1,int (W (W (s.driven+g.1)-s.time)),int (W (s.miles+g.2.1))]]⟩:=by rw[<-T,aB];rfl
 have R:H1 j=some ⟨389,4,[[int 0,int 0,int 0,int 0]]⟩:=by rw[<-T,aJ _ _ _ _ F,aJ _ _ _ _ F];exact R
 simp only[go_sem,X];apply aA <;> intro O
 ·simp only[go_sem];refine aI R (by simp) ?_;simp only[go_sem];rw[show gO x t s to close E=(s,16)by unfold gO;rw[I,if_neg (by rw[h1];simp),if_neg (of_decide_eq_false J),if_pos (of_decide_eq_true O)]];exact .refl _
 ·simp only[go_sem,X];refine aI R (by simp) ?_;simp only[go_sem];rw[show gO x t s to close E=(⟨to,g.1,W (W (s.driven+g.1)-s.time),W (s.miles+g.2.1)⟩,0)by unfold gO;rw[I,if_neg (by rw[h1];simp),if_neg (of_decide_eq_false J),if_neg (of_decide_eq_false O)]];exact .refl _
structure Tm where
 arrive:Int
 begin_:Int
 depart:Int
 rest:Bool
def rS(t:Tm):List AV:=[int t.arrive,int t.begin_,int t.depart,boo t.rest]
def abS(s:Tm):(rS s).length=4:=(rfl)
def aaC(s:Tm):(rS s).take 4=rS s:=(rfl)
attribute [go_sem] abS aaC
structure Sheet where
 rest:Bool
 depart:Int
 times:List Tm
 end_:Int
 miles:Int
def bR(s:Sheet):List AV:=[boo s.rest,int s.depart,.sl (s.times.map rS),int s.end_,int s.miles]
def aX:Sheet:=⟨false,0,[],0,0⟩
abbrev Ws:=St8×List Int×List Tm
def jN(x:Instance)(t:VType)(a:Ws)(v:Visit):St8×Int:=gO x t a.1 (bI x v).1.place (bI x v).1.close 14
def Ev(s:Stop)(n:St8):St8:=⟨n.place,W (eN n.time s.start+s.service),n.driven,n.miles⟩
def mE(x:Instance)(t:VType)(a:Ws)(p:Visit×Bool):Ws:=
 (lD t (Ev (bI x p.1).1 (jN x t a p.1).1) p.2,a.2.1++[(jN x t a p.1).1.driven],
   a.2.2++[⟨(jN x t a p.1).1.time,eN (jN x t a p.1).1.time (bI x p.1).1.start,(lD t (Ev (bI x p.1).1 (jN x t a p.1).1) p.2).time,p.2⟩])
def kT(x:Instance)(t:VType)(a:Ws)(p:Visit×Bool):Except Int Ws:=
 if((jN x t a p.1).2 != 0)=true then .error (jN x t a p.1).2 else .ok (mE x t a p)
def nY(r:Route)(t:VType)(b:Bool):St8:=lD t ⟨t.src,eN t.start r.start,0,0⟩ b
def pX(x:Instance)(t:VType)(b:Bool)(s0:St8)(a:Ws):Sheet×List Int×Int:=
 if((gO x t a.1 t.dst t.close 15).2 != 0)=true then(aX,[],(gO x t a.1 t.dst t.close 15).2)
 else(⟨b,s0.time,a.2.2,(gO x t a.1 t.dst t.close 15).1.time,(gO x t a.1 t.dst t.close 15).1.miles⟩,a.2.1++[(gO x t a.1 t.dst t.close 15).1.driven],0)
def OK(x:Instance)(r:Route)(rests:List Bool)(t:VType)(b:Bool):Sheet×List Int×Int:=
 match (r.visits.zip rests.tail).foldlM (kT x t) (nY r t b,[],[])with
 | .error e=>(aX,[],e)
 | .ok a=>pX x t b (nY r t b) a
def fA(x:Instance)(r:Route)(rests:List Bool):Sheet×List Int×Int:=
 if(!bW x r||((rests.length:Int) != ((r.visits.length+1:Nat):Int)))=true then(aX,[],2)
 else match x.types[r.type.toNat]? with
 | some t=>OK x r rests t (rests.getD 0 false)
 | none=>(aX,[],2)
def tI{x:Instance}{r:Route}(h:bW x r=true):0<=r.type/\r.type<(x.types.length:Int):=by unfold bW at h;simp only[Xak,Xax,Xag,cF,decide_eq_false_iff_not]at h;omega
def PO{α E:Type}{f:E->α->Except Int E}{l:List α}{k:Nat}{x:α}{s b:E}(F:l[k]?=some x)(h:(l.take k).foldlM f s=.ok b):(l.take (k+1)).foldlM f s=f b x:=by rw[bA F,List.foldlM_append,h];show(do let s' <-(Except.ok b:Except Int E);[x].foldlM f s')=_;simp only[List.foldlM_cons,List.foldlM_nil];show(f b x >>= fun s'=>pure s')=_;cases f b x <;> rfl
def Uj{α E:Type}{f:E->α->Except Int E}{l:List α}{k:Nat}{s:E}{e:Int}(h:(l.take k).foldlM f s=.error e):l.foldlM f s=.error e:=by
 conv=>lhs;rw[<-Xci k l]
 rw[List.foldlM_append,h];rfl
def rQ{H:aG}{i j:Nat}{r:Row}{a b:Option Row}(E:H i=some r)(F:H j=none):aM (aM H j a) j b i=some r:=by have h1:=bE E F;rw[aJ _ _ _ _ h1,aJ _ _ _ _ h1,E]
def oZ{H:aG}{i j:Nat}{r:Row}{b:Option Row}(E:H i=some r)(h1:i≠j):aM H j b i=some r:=by rw[aJ _ _ _ _ h1,E]
def dQ{H:aG}{i j:Nat}{r r':Row}(F:H i=some r)(E:H j=some r')(h:(r.e == r'.e)=false):i≠j:=fun e=>by subst e;rw[F]at E;injection E with E;rw[E]at h;simp at h
def anS{H:aG}{i j k:Nat}{r a:Row}{b c:Option Row}(E:H i=some r)(F:H j=none)(I:aM H j (some a) k=none):aM (aM (aM H j (some a)) k b) j c i=some r:=by have h1:=bE E F;have J:=bE (eT (r':=a) E F) I;rw[aJ _ _ _ _ h1,aJ _ _ _ _ J,aJ _ _ _ _ h1,E]
def N7{l:List Nat}{H J H' F:aG}(O:∀k,k∉l->J k=H k)(I:∀k,k∈l->F k=H k)(E:∀k,k∉l->F k=H' k)(T:∀k row,J k=some row->H' k=some row):∀k row,H k=some row->F k=some row:=fun k row h=>by
 by_cases e:k∈l
 ·rw[I k e];exact h
 ·rw[E k e];exact T k row ((O k e).trans h)
def HT{l:List Nat}{H':aG}{j:Nat}{r:Row}(E:∀k,k∈l->H' k=none)(h:H' j=some r):j∉l:=fun F=>by rw[E j F]at h;cases h
abbrev Lm(s:St8):Row:=⟨389,4,[lT s]⟩
abbrev As(s:Stop):Row:=⟨91,4,[eJ s]⟩
abbrev yW(l:List Tm):Row:=⟨375,4,l.map rS⟩
abbrev rE(l:List Int):Row:=⟨3,1,l.map bC⟩
def aqS{α E:Type}:∀{l:List α} {m:List E} {k:Nat} {a:α} {b:E},l[k]?=some a->m[k]?=some b->(l.zip m)[k]?=some (a,b):=by intro l m k a b h1 F;rw[List.getElem?_zip_eq_some];exact⟨h1,F⟩
def anF{H:aG}{b:Bool}{d e m c:Int}{E F:Nat}{I:List Tm}{dr:List Int}(J:H E=some (yW I))(Rd:H F=some (rE dr)):
  Conv H (.tup [.agg [boo b,int d,.os E,int e,int m],.os F,int c]) (.tup [.agg (bR ⟨b,d,I,e,m⟩),.sl (dr.map bC),int c]):=
 .tup _ _ (.cons _ _ _ _ (.agg _ _ (.cons _ _ _ _ (.refl _) (.cons _ _ _ _ (.refl _) (.cons _ _ _ _ (.row _ _ _ J (ConvE.refl _)) (ConvL.refl _)))))
  (.cons _ _ _ _ (.row _ _ _ Rd (ConvE.refl _)) (ConvL.refl _)))
def J1{H:aG}{c:Int}{E:Nat}(Rd:H E=some ⟨3,1,[]⟩):
  Conv H (.tup [.agg [boo false,int 0,.sl [],int 0,int 0],.os E,int c]) (.tup [.agg (bR aX),.sl [],int c]):=
 .tup _ _ (.cons _ _ _ _ (.refl _) (.cons _ _ _ _ (.row _ _ _ Rd .nil) (ConvL.refl _)))
abbrev dA(cs:List AV):Row:=⟨257,5,[cs]⟩
abbrev zeroCells:List AV:=[boo false,int 0,.sl [],int 0,int 0]
def aoE(x:Instance)(r:Route)(rests:List Bool)(hn:NetB x.net)(hr:r.visits.length<=1048576):PC prog 378 [.agg (aD x),.agg (bT r),.sl (rests.map dE)] (.tup [.agg (bR (fA x r rests).1),.sl ((fA x r rests).2.1.map bC),int (fA x r rests).2.2]):=by
 refine pcb (fun t=>t == 7||t == 12||t == 59) func378 rfl rfl ?_;simp only[go_sem];refine aN fun j6 Z=>?_
 have J:=aB bQ j6 (some (dA zeroCells));generalize aM bQ j6 _=H0 at J |-;simp only[go_sem];refine aN fun j7 Z=>?_
 have R7:=aB H0 j7 (some (⟨3,1,[]⟩:Row));have J:=eT (r':=(⟨3,1,[]⟩:Row)) J Z;generalize aM H0 j7 _=H1 at J R7 |-;simp only[go_sem];refine aH (Eb x r hr) ?_;simp only[go_sem,mC (show r.visits.length<=4611686018427387904 by omega)];apply aA <;> intro h1
 . simp only[go_sem];refine aI J (by simp) ?_;simp only[go_sem];refine aN fun j7 Z=>?_
   simp only[go_sem];rw[show fA x r rests=(aX,[],2)by unfold fA;rw[if_pos h1]];have n1:=bE (aB _ _ _) Z;simp only[aJ _ _ _ _ n1];simp only[go_sem];exact J1 (aB _ _ _)
 have hp:bW x r=true:=by simp only[Xag,Xbw]at h1;exact h1.1
 have a8:rests.length=r.visits.length+1:=by simp only[Xag,bne_eq_false_iff_eq]at h1;have:=h1.2;omega
 have bg:=tI hp;obtain⟨t,ht⟩:=aK (show r.type.toNat<x.types.length by omega);obtain⟨b,hb⟩:=aK (show 0<rests.length by omega);have b0:0<=(0:Int)/\(0:Int)<(rests.length:Int):=by omega
 have eR:fA x r rests=OK x r rests t b:=by unfold fA;rw[if_neg (by rw[h1];simp),ht];show OK x r rests t (rests.getD 0 false)=_;rw[show rests.getD 0 false=b by rw[List.getD_eq_getElem?_getD,hb];rfl]
 rw[eR];simp only[go_sem,aC ht,bg];refine aN fun j9 Z=>?_
 simp only[go_sem];refine aI (aB _ _ _) (by simp[jH]) ?_;generalize Y:aM (aM H1 j9 _) j9 _=H2;have T:H2 j9=some (kY t):=by rw[<-Y,aB];rfl
 have J:H2 j6=some (dA zeroCells):=by rw[<-Y];exact rQ J Z
 have R7:H2 j7=some ⟨3,1,[]⟩:=by rw[<-Y];exact rQ R7 Z
 simp only[go_sem];refine fV [j9] [(0,true),(1,true),(2,true),(3,true),(4,true),(5,true),(6,true),(7,true),(8,true),(9,true),(10,true),(11,true),(12,true),(13,false),(14,false)] (by simp[T]) (by kernel_rfl) fun Hp Hr hp hr _ a6=>?_
 have Rp:Hp j9=_:=(hp j9 (by simp)).trans T;simp only[go_sem,Rp,aC hb,b0];refine⟨_,(Sv t ⟨t.src,eN t.start r.start,0,0⟩ b).q rfl,?_⟩;simp only[go_sem];refine aN fun af Z=>?_
 simp only[go_sem];refine aI (aB _ _ _) (by simp[lT]) ?_;simp only[go_sem];refine gJ fun hd Hm ah ae=>?_
 have E:=N7 hr ah ae fun k row h=>rQ h Z
 have F:=(ae af (HT hd (aB _ _ _))).trans (aB _ _ _);have F:Hm af=some (Lm (nY r t b)):=F;have J:=E _ _ J;have R7:=E _ _ R7;have T:=E _ _ T;simp only[go_sem];refine fV [af] [(0,true),(1,true),(2,true),(3,true),(4,true),(5,true),(6,false),(7,false)] (by simp[F]) (by kernel_rfl) fun Hp Hr hp hr _ a6=>?_
 have Rp:Hp af=_:=(hp af (by simp)).trans F;simp only[go_sem,Rp,aC hb,b0];refine aN fun aa Z=>?_
 simp only[go_sem];refine L5 2 375 4 ⟨rfl,by decide⟩ (aB _ _ _) (by simp) fun jt ax=>?_
 simp only[go_sem];refine gJ fun hd Hm ah ae=>?_
 have ao:∀c,aM (aM (aM Hr aa (some (dA zeroCells))) jt (some (⟨375,4,[]⟩:Row))) aa c jt=some (⟨375,4,[]⟩:Row):=fun c=>by rw[aJ _ _ _ _ (bE (aB _ _ _) ax).symm,aB]
 have E:=N7 hr ah ae fun k row h=>anS h Z ax
 have I:Hm aa=some (dA [boo b,int (nY r t b).time,.os jt,int 0,int 0]):=(ae aa (HT hd (aB _ _ _))).trans (aB _ _ _);have O:Hm jt=some (yW []):=(ae jt (HT hd (ao _))).trans (ao _);have bf:=E _ _ J;have ay:j6≠aa:=by have:Hr j6=some (dA zeroCells):=(hr j6 (by simpa using dQ J F rfl)).trans J;exact bE this Z
 have J:=bf;have R7:=E _ _ R7;have T:=E _ _ T;have F:=E _ _ F;simp only[go_sem];refine aN fun jd Z=>?_
 have Rd:=aB Hm jd (some (⟨3,1,[]⟩:Row));have J:=eT (r':=(⟨3,1,[]⟩:Row)) J Z;have R7:=eT (r':=(⟨3,1,[]⟩:Row)) R7 Z;have T:=eT (r':=(⟨3,1,[]⟩:Row)) T Z;have F:=eT (r':=(⟨3,1,[]⟩:Row)) F Z;have I:=eT (r':=(⟨3,1,[]⟩:Row)) I Z;have O:=eT (r':=(⟨3,1,[]⟩:Row)) O Z;generalize aM Hm jd _=Hl at J R7 T F I O Rd |-;simp only[go_sem];refine ⟨fun ρ H => ∃ (k : Nat) (a : Ws) (jt jd : Nat), k <= r.visits.length /\ ((r.visits.zip rests.tail).take k).foldlM (kT x t) (nY r t b, [], []) = .ok a /\ a.2.1.length = k /\ a.2.2.length = k /\
     ρ 2=.sl (rests.map dE)/\ρ 3=.rp (aD x) 0/\ρ 4=.rp (bT r) 0/\ρ 6=.op j6 0 0/\ρ 9=.op j9 0 0/\ρ 10=.op af 0 0/\ρ 11=.op aa 0 0/\ρ 12=.os jd/\ρ 13=int k /\
     H j6=some (dA zeroCells)/\H j9=some (kY t)/\H af=some (Lm a.1)/\H aa=some (dA [boo b,int (nY r t b).time,.os jt,int 0,int 0])/\H jt=some (yW a.2.2)/\H jd=some (rE a.2.1),
   fun ρ _=>r.visits.length-aR (ρ 13),⟨0,(nY r t b,[],[]),jt,jd,Xaa _,rfl,rfl,rfl,rfl,rfl,rfl,rfl,rfl,rfl,rfl,rfl,rfl,J,T,F,I,O,Rd⟩,?_⟩
 rintro ρ H ⟨k,a,jt,jd,hk,hf,bh,bi,h2,h3,h4,h6,h9,ap,ai,bd,aq,J,T,F,I,O,Rd⟩;simp only[go_sem,h4,aq];refine aA (fun ak=>?_) (fun a0=>?_)
 . have ak:=aV ak;obtain⟨v,hv⟩:=aK ak;obtain⟨c,hc⟩:=aK (show k+1<rests.length by omega);have b1:=inB ak;have b2:=inB (show k+1<rests.length by omega);have hz:(r.visits.zip rests.tail)[k]?=some (v,c):=aqS hv (by rw[List.getElem?_tail];exact hc);have au:=PO hz hf;simp only[go_sem];refine mX [(0,true),(1,true),(2,true),(3,true),(4,true),(5,true),(6,true),(7,true),(8,true),(9,true),(10,false),(11,false),(12,false)] (by kernel_rfl) ?_;simp only[go_sem,h3,h4,aq,aC hv,b1,dG];refine⟨_,(Tj x v).q rfl,?_⟩;simp only[go_sem];refine aN fun ar Z=>?_
   simp only[go_sem];refine aI (aB _ _ _) (by simp[iC]) ?_;generalize Y:aM (aM H ar _) ar _=H3;have ac:H3 ar=some (As (bI x v).1):=by rw[<-Y,aB];rfl
   have E:∀i row,H i=some row->H3 i=some row:=fun i row h=>by rw[<-Y];exact rQ h Z
   have J:=E _ _ J;have T:=E _ _ T;have F:=E _ _ F;have I:=E _ _ I;have O:=E _ _ O;have Rd:=E _ _ Rd;simp only[go_sem,h3,h9,ap,T,F,ac];refine aH (Qp x t a.1 (bI x v).1.place (bI x v).1.close 14 hn) ?_;simp only[go_sem];refine aN fun ad Z=>?_
   simp only[go_sem];refine aI (aB _ _ _) (by simp[lT]) ?_;generalize Y:aM (aM H3 ad _) ad _=H4;have an:=bE F Z;have X:H4 ad=some (Lm (jN x t a v).1):=by rw[<-Y,aB];rfl
   have E:∀i row,H3 i=some row->H4 i=some row:=fun i row h=>by rw[<-Y];exact rQ h Z
   have J:=E _ _ J;have T:=E _ _ T;have F:=E _ _ F;have I:=E _ _ I;have O:=E _ _ O;have Rd:=E _ _ Rd;have ac:=E _ _ ac;simp only[go_sem];apply aA <;> intro he
   . simp only[go_sem,h6];refine aI J (by simp) ?_;simp only[go_sem];refine aN fun j7 Z=>?_
     simp only[go_sem];have n1:=bE (aB _ _ _) Z;have e:OK x r rests t b=(aX,[],(jN x t a v).2):=by unfold OK;rw[Uj (au.trans (if_pos he))]
     rw[e];simp only[go_sem,h6,aJ _ _ _ _ n1];exact J1 (aB _ _ _)
   have au:((r.visits.zip rests.tail).take (k+1)).foldlM (kT x t) (nY r t b,[],[])=.ok (mE x t a (v,c)):=au.trans (if_neg (by rw[show((jN x t a v).2 != 0)=false from he];simp));simp only[go_sem,bd,X];refine aY Rd ⟨rfl,rfl⟩ (by simp[dM]) (by simp;omega) fun aj az=>?_
   generalize Y:aM (aM H4 jd none) aj _=H5;have aw:H5 aj=some (rE (mE x t a (v,c)).2.1):=by rw[<-Y,aB];simp[mE,bC]
   have E:∀i row,i≠jd->H4 i=some row->H5 i=some row:=fun i row hi h=>by rw[<-Y];exact dL h hi.symm az
   have J:=E _ _ (dQ J Rd rfl) J;have T:=E _ _ (dQ T Rd rfl) T;have F:=E _ _ (dQ F Rd rfl) F;have I:=E _ _ (dQ I Rd rfl) I;have O:=E _ _ (dQ O Rd rfl) O;have ac:=E _ _ (dQ ac Rd rfl) ac;have X:=E _ _ (dQ X Rd rfl) X;simp only[go_sem];refine fV [ad,ar] [(0,true),(1,true),(2,true),(3,true),(4,true),(5,true),(6,true),(7,true),(8,true),(9,true),(10,true),(11,true),(12,true),(13,false),(14,false)] (by simp[X,ac]) (by kernel_rfl) fun Hp Hr hp hr _ a6=>?_
   have Rp:=(hp ad (by simp)).trans X;have Rq:=(hp ar (by simp)).trans ac;simp only[go_sem,h2,aq,Rp,Rq,aQ k,aC hc,b2];refine aN fun al Z=>?_
   simp only[go_sem];refine aI (aB _ _ _) (by simp) ?_;simp only[go_sem];refine gJ fun hd Hm ah ae=>?_
   have E:=N7 hr ah ae fun k row h=>rQ h Z
   have ab:Hm al=some ⟨375,4,[[int (jN x t a v).1.time,int (eN (jN x t a v).1.time (bI x v).1.start),int 0,boo c]]⟩:=(ae al (HT hd (aB _ _ _))).trans (aB _ _ _);have a9:jt≠al:=by have:Hr jt=some (yW a.2.2):=(hr jt (by simp[dQ O X rfl,dQ O ac rfl])).trans O;exact bE this Z
   have J:=E _ _ J;have T:=E _ _ T;have F:=E _ _ F;have I:=E _ _ I;have O:=E _ _ O;have Rd:=E _ _ aw;have ac:=E _ _ ac;have X:=E _ _ X;simp only[go_sem,ab,ac];refine dP so3 X ⟨by simp,rfl,by simp⟩ ?_;generalize Y:aM Hm ad _=H6;have a7:H6 ad=some (Lm (Ev (bI x v).1 (jN x t a v).1)):=by rw[<-Y,aB];rfl
   have E:∀i row,i≠ad->Hm i=some row->H6 i=some row:=fun i row hi h=>by rw[<-Y];exact oZ h hi
   have J:=E _ _ (dQ J X rfl) J;have T:=E _ _ (dQ T X rfl) T;have F:=E _ _ an F;have I:=E _ _ (dQ I X rfl) I;have O:=E _ _ (dQ O X rfl) O;have Rd:=E _ _ (dQ Rd X rfl) Rd;have ab:=E _ _ (dQ ab X rfl) ab;have X:=a7;simp only[go_sem];refine fV [j9,ad] [(0,true),(1,true),(2,true),(3,true),(4,true),(5,true),(6,true),(7,true),(8,false)] (by simp[X,T]) (by kernel_rfl) fun Hp Hr hp hr _ a6=>?_
   have Rp:=(hp j9 (by simp)).trans T;have Rq:=(hp ad (by simp)).trans X;have bb:af∉[j9,ad]:=by simp[an,dQ F T rfl]
   simp only[go_sem,h2,h9,aq,Rp,Rq,aQ k,aC hc,b2];refine⟨_,(Sv t (Ev (bI x v).1 (jN x t a v).1) c).q rfl,?_⟩;simp only[go_sem,ap];refine aI ((hr _ bb).trans F) (by simp[lT]) ?_;simp only[go_sem];refine gJ fun hd Hn ah ae=>?_
   have bc:Hn af=some (Lm (mE x t a (v,c)).1):=(ae af bb).trans (aB _ _ _);have E:∀i row,i≠af->H6 i=some row->Hn i=some row:=fun i row hi h=>by
     by_cases e:i∈[j9,ad]
     . rw[ah i e];exact h
     . rw[ae i e];exact oZ ((hr i e).trans h) hi
   have J:=E _ _ (dQ J F rfl) J;have T:=E _ _ (dQ T F rfl) T;have I:=E _ _ (dQ I F rfl) I;have O:=E _ _ (dQ O F rfl) O;have Rd:=E _ _ (dQ Rd F rfl) Rd;have ab:=E _ _ (dQ ab F rfl) ab;have F:=bc;simp only[go_sem,ap,F];refine dP so3 ab ⟨by simp,rfl,by simp⟩ ?_;generalize Y:aM Hn al _=H7;have ba:H7 al=some ⟨375,4,[rS ⟨(jN x t a v).1.time,eN (jN x t a v).1.time (bI x v).1.start,(mE x t a (v,c)).1.time,c⟩]⟩:=by rw[<-Y,aB];rfl
   have E:∀i row,i≠al->Hn i=some row->H7 i=some row:=fun i row hi h=>by rw[<-Y];exact oZ h hi
   have J:=E _ _ (dQ J ab rfl) J;have T:=E _ _ (dQ T ab rfl) T;have F:=E _ _ (dQ F ab rfl) F;have I:=E _ _ (dQ I ab rfl) I;have O:=E _ _ a9 O;have Rd:=E _ _ (dQ Rd ab rfl) Rd;simp only[go_sem,ai,I,ba];refine aY O ⟨rfl,rfl⟩ (by simp[dM,rS]) (by simp;omega) fun av ax=>?_
   generalize Y:aM (aM H7 jt none) av _=H8;have be:H8 av=some (yW (mE x t a (v,c)).2.2):=by rw[<-Y,aB];simp[mE,rS]
   have E:∀i row,i≠jt->H7 i=some row->H8 i=some row:=fun i row hi h=>by rw[<-Y];exact dL h hi.symm ax
   have J:=E _ _ (dQ J O rfl) J;have T:=E _ _ (dQ T O rfl) T;have F:=E _ _ (dQ F O rfl) F;have I:=E _ _ (dQ I O rfl) I;have Rd:=E _ _ (dQ Rd O rfl) Rd;simp only[go_sem,ai];refine dP WX I ⟨by simp,rfl,by simp⟩ ?_;generalize Y:aM H8 aa _=H9;have am:H9 aa=some (dA [boo b,int (nY r t b).time,.os av,int 0,int 0]):=by rw[<-Y,aB];rfl
   have E:∀i row,i≠aa->H8 i=some row->H9 i=some row:=fun i row hi h=>by rw[<-Y];exact oZ h hi
   have J:=E _ _ ay J;have T:=E _ _ (dQ T I rfl) T;have F:=E _ _ (dQ F I rfl) F;have O:=E _ _ (dQ be I rfl) be;have Rd:=E _ _ (dQ Rd I rfl) Rd;simp only[go_sem,aq,aQ k];refine⟨⟨k+1,mE x t a (v,c),av,aj,ak,au,by simp[mE,bh],by simp[mE,bi],h2,h3,h4,h6,h9,ap,ai,rfl,rfl,J,T,F,am,O,Rd⟩,msr ak⟩
 . have a0:=aW hk a0;subst a0;have hf:(r.visits.zip rests.tail).foldlM (kT x t) (nY r t b,[],[])=.ok a:=by rw[Xan (by simp[a8])]at hf;exact hf
   have eO:OK x r rests t b=pX x t b (nY r t b) a:=by unfold OK;rw[hf]
   rw[eO];simp only[go_sem,h3,h9,ap,T,F];refine aH (Qp x t a.1 t.dst t.close 15 hn) ?_;simp only[go_sem];refine aN fun a4 Z=>?_
   simp only[go_sem];refine aI (aB _ _ _) (by simp[lT]) ?_;generalize Y:aM (aM H a4 _) a4 _=H3;have ag:H3 a4=some (Lm (gO x t a.1 t.dst t.close 15).1):=by rw[<-Y,aB];rfl
   have E:∀i row,H i=some row->H3 i=some row:=fun i row h=>by rw[<-Y];exact rQ h Z
   have J:=E _ _ J;have I:=E _ _ I;have O:=E _ _ O;have Rd:=E _ _ Rd;simp only[go_sem];apply aA <;> intro he
   . simp only[go_sem,h6];refine aI J (by simp) ?_;simp only[go_sem];refine aN fun j7 Z=>?_
     simp only[go_sem];have n1:=bE (aB _ _ _) Z;rw[show pX x t b (nY r t b) a=(aX,[],(gO x t a.1 t.dst t.close 15).2)from if_pos he];simp only[go_sem,h6,aJ _ _ _ _ n1];exact J1 (aB _ _ _)
   rw[show pX x t b (nY r t b) a=_ from if_neg (by rw[he];simp)];simp only[go_sem,bd,ag];refine aY Rd ⟨rfl,rfl⟩ (by simp[dM]) (by simp;omega) fun aj az=>?_
   generalize Y:aM (aM H3 jd none) aj _=H5;have aw:H5 aj=some (rE (a.2.1++[(gO x t a.1 t.dst t.close 15).1.driven])):=by rw[<-Y,aB];simp[bC]
   have E:∀i row,i≠jd->H3 i=some row->H5 i=some row:=fun i row hi h=>by rw[<-Y];exact dL h hi.symm az
   have J:=E _ _ (dQ J Rd rfl) J;have I:=E _ _ (dQ I Rd rfl) I;have O:=E _ _ (dQ O Rd rfl) O;have ag:=E _ _ (dQ ag Rd rfl) ag;simp only[go_sem,ai,ag];refine dP so3 I ⟨by simp,rfl,by simp⟩ ?_;have a5:=dQ ag I rfl;simp only[go_sem,ag,ai,aJ _ _ _ _ a5];refine dP so3 (aB _ _ _) ⟨by simp,rfl,by simp⟩ ?_;generalize Y:aM (aM H5 aa _) aa _=H6;have am:H6 aa=some (dA [boo b,int (nY r t b).time,.os jt,int (gO x t a.1 t.dst t.close 15).1.time,int (gO x t a.1 t.dst t.close 15).1.miles]):=by rw[<-Y,aB];rfl
   have E:∀i row,i≠aa->H5 i=some row->H6 i=some row:=fun i row hi h=>by rw[<-Y];exact oZ (oZ h hi) hi
   have J:=E _ _ ay J;have O:=E _ _ (dQ O I rfl) O;have Rd:=E _ _ (dQ aw I rfl) aw;simp only[go_sem,h6,ai,am];refine aI J (by simp) ?_;simp only[go_sem,h6];exact anF (oZ O (dQ O J rfl)) (oZ Rd (dQ Rd J rfl))
def Yk(x:Instance)(r:Route)(rests:List Bool)(O:NetB x.net)(J:r.visits.length<=1048576):PC prog 362 [.agg (aD x),.agg (bT r),.sl (rests.map dE)] (.tup [.agg (bR (fA x r rests).1),int (fA x r rests).2.2]):=by
 refine pcd func362 rfl rfl ?_;simp only[go_sem];refine aN fun F E=>?_
 have I:=aB bQ F (some (dA zeroCells));generalize aM bQ F _=H0 at I |-;simp only[go_sem];refine aH (aoE x r rests O J) ?_;simp only[go_sem];refine aN fun T E=>?_
 simp only[go_sem];refine aI (aB _ _ _) (by simp[bR]) ?_;simp only[go_sem];refine aI (rQ I E) (by simp[bR]) ?_;simp only[go_sem];exact .refl _
def oY(n:Nat):Nat->List Bool->List Bool×Bool
 | 0,_=>([],false)
 | k+1,l=>if n<=k then(if l.getD k false=true then oY n k (l.set k false)else(l.set k true,true))else([],false)
def jM(l:List Bool)(n:Nat):List Bool×Bool:=oY n l.length l
def En:List Bool->Nat
 | []=>0
 | b::r=>(if b=true then 2^r.length else 0)+En r
def YB:∀l,En l<2^l.length
 | []=>by simp[En]
 | b::r=>by have:=YB r;simp only[En,Xai,Xbj];split <;> omega
def Sp:∀(l:List Bool) (k:Nat) (b:Bool),l[k]?=some b->En (l.set k (!b))+(if b=true then 2^(l.length-1-k)else 0)=En l+(if b=true then 0 else 2^(l.length-1-k))
 | [],k,b,h=>by simp at h
 | a::r,0,b,h=>by
  have e:a=b:=by simpa using h
  subst e;cases a <;> simp[En] <;> omega
 | a::r,k+1,b,h=>by have:=Sp r k b (by simpa using h);simp only[List.set_cons_succ,En,Xcb,Xai];rw[show r.length+1-1-(k+1)=r.length-1-k by omega];cases b <;> simp at this |- <;> omega
def Bq(n:Nat):∀(k:Nat) (l:List Bool),k<=l.length->(oY n k l).2=true->(oY n k l).1.length=l.length/\En (oY n k l).1=En l+2^(l.length-k)
 | 0,l,_,h=>by simp[oY]at h
 | k+1,l,hk,h=>by
  obtain⟨b,I⟩:=aK (show k<l.length by omega);have E:=Sp l k b I;have O:l.getD k false=b:=by rw[List.getD_eq_getElem?_getD,I];rfl
  have F:2^(l.length-k)=2*2^(l.length-(k+1)):=by rw[show l.length-k=(l.length-(k+1))+1 by omega,Xbj];omega
  have T:l.length-1-k=l.length-(k+1):=by omega
  rw[T]at E;unfold oY at h |-;rw[O]at h |-;by_cases J:n<=k
  ·rw[if_pos J]at h |-;cases b
   ·simp only[Xbg,if_false]at h |- E;refine⟨by simp,?_⟩;simpa using E
   ·simp only[if_true]at h |- E;have ih:=Bq n k (l.set k false) (by simp;omega) h;simp only[Xcb]at ih;refine⟨ih.1,?_⟩;rw[ih.2,F];simp only[Xct]at E;omega
  ·rw[if_neg J]at h;simp at h
def aiA:AV->Nat
 | .v (.int _ n)=>(n+1).toNat
 | _=>0
def Vr{k n}:aiA (.v (.int k n))=(n+1).toNat:=(rfl)
def F2:∀l:List Bool,dM 1 (l.map dE)
 | []=>trivial
 | _::r=>⟨rfl,F2 r⟩
abbrev Cz(l:List Bool):Row:=⟨4,1,l.map dE⟩
def Qq(l0:List Bool)(n:Nat)(hl:l0.length<=1048577):PC prog 363 [.sl (l0.map dE),int n] (.tup [.sl ((jM l0 n).1.map dE),boo (jM l0 n).2]):=by
 refine pcb (fun t=>t == 4||t == 6) func363 rfl rfl ?_;simp only[go_sem];refine aN fun j4 ac=>?_
 simp only[go_sem];refine aN fun j6 ab=>?_
 simp only[go_sem];refine aY (aB _ _ _) ⟨rfl,rfl⟩ (F2 _) (by simp;omega) fun j hj=>?_
 generalize hG:aM (aM (aM (aM bQ j4 _) j6 _) j6 none) j _=H0;have R:H0 j=some (Cz l0):=by rw[<-hG,aB];rfl
 have w1:IntKind.i64.wrap ((l0.length:Int)-1)=(l0.length:Int)-1:=aU (by omega);simp only[go_sem,R,w1];refine⟨fun ρ H=>∃(k:Nat) (l:List Bool),k<=l.length/\l.length=l0.length/\oY n k l=jM l0 n/\ρ 1=int n/\ρ 6=.os j/\ρ 7=int ((k:Int)-1)/\H j=some (Cz l),fun ρ _=>aiA (ρ 7),⟨l0.length,l0,Xaf _,rfl,rfl,rfl,rfl,rfl,R⟩,?_⟩;rintro ρ H ⟨k,l,hk,aa,E,h1,T,I,R⟩;cases k with
 | zero=>
  simp only[go_sem,h1,I];refine aA (fun O=>by simp at O;omega) (fun _=>?_);simp only[go_sem];refine aN fun j' Z=>?_
  simp only[go_sem];rw[<-E];exact .tup _ _ (.cons _ _ _ _ (.row _ _ _ (aB _ _ _) .nil) (ConvL.refl _))
 | succ k=>
  rw[show((k+1:Nat):Int)-1=(k:Int)by omega]at I;simp only[go_sem,h1,I];obtain⟨b,O⟩:=aK (show k<l.length by omega);have X:l.getD k false=b:=by rw[List.getD_eq_getElem?_getD,O];rfl
  have Y:=inB (show k<l.length by omega);refine aA (fun F=>?_) (fun J=>?_)
  ·have F:n<=k:=by simpa using F
   unfold oY at E;rw[if_pos F,X]at E;simp only[go_sem,T,I,R,aC O,Y,show k<l.length from by omega];apply aA <;> intro hc
   ·simp only[go_sem,T,I,R,Y];refine dP so4 R ⟨by simp;omega,rfl,by simp⟩ ?_;simp only[go_sem,T];rw[if_neg (by simpa using hc)]at E;rw[<-E];refine .tup _ _ (.cons _ _ _ _ (.row _ _ _ (aB _ _ _) ?_) (ConvL.refl _));have:((Cz l).es.set k (oN ((Cz l).es.getD k []) 0 [boo true]))=(l.set k true).map dE:=by show(l.map dE).set k (oN ((l.map dE).getD k []) 0 [boo true])=_;rw[aC O,List.map_set];rfl
    first|(rw[this];exact ConvE.refl _)|exact this▸ConvE.refl _
   ·simp only[go_sem,T,I,R,Y];refine dP so4 R ⟨by simp;omega,rfl,by simp⟩ ?_;rw[if_pos (by simpa using hc)]at E;have w2:IntKind.i64.wrap ((k:Int)-1)=(k:Int)-1:=aU (by omega);simp only[go_sem,I,w2];refine⟨⟨k,l.set k false,by simp;omega,by simpa using aa,E,h1,T,rfl,?_⟩,by simp only[Vr];omega⟩;show some (⟨4,1,(l.map dE).set k (oN ((l.map dE).getD k []) 0 [boo false])⟩:Row)=some (⟨4,1,(l.set k false).map dE⟩:Row);rw[aC O,List.map_set];rfl
  ·have J:¬n<=k:=by simpa using J
   unfold oY at E;rw[if_neg J]at E;simp only[go_sem];refine aN fun j' Z=>?_
   simp only[go_sem];rw[<-E];exact .tup _ _ (.cons _ _ _ _ (.row _ _ _ (aB _ _ _) .nil) (ConvL.refl _))
def iI(x:Instance)(r:Route)(c:List Bool)(b:Sheet×Bool):Sheet×Bool:=
 if((fA x r c).2.2 == 0&&(!b.2||decide ((fA x r c).1.end_<b.1.end_)))=true then((fA x r c).1,true)else b
def rA(x:Instance)(r:Route)(m:Nat):Nat->List Bool×Bool->Sheet×Bool->Sheet×Bool
 | 0,_,b=>b
 | f+1,c,b=>if c.2=true then rA x r m f (jM c.1 m) (iI x r c.1 b)else b
def zD(c:List Bool×Bool):Nat:=if c.2=true then 2^c.1.length-En c.1 else 0
def cV(r:Route):List Bool:=r.rests++List.replicate (r.visits.length+1-r.rests.length) false
def DW(b:Sheet×Bool)(first:Int):Sheet×Int:=if b.2=true then(b.1,0)else(aX,first)
def lX(x:Instance)(r:Route):Sheet×Int:=
 if(!bW x r||decide ((r.rests.length:Int)>((r.visits.length+1:Nat):Int)))=true then(aX,2)
 else DW (rA x r r.rests.length (zD (jM (cV r) r.rests.length)) (jM (cV r) r.rests.length) ((fA x r (cV r)).1,(fA x r (cV r)).2.2 == 0)) (fA x r (cV r)).2.2
def wS{x:Instance}{r:Route}{m:Nat}{c:List Bool×Bool}{b:Sheet×Bool}(h:c.2=false):∀f,rA x r m f c b=b
 | 0=>rfl
 | f+1=>by unfold rA;rw[if_neg (by rw[h];simp)]
def BF{x:Instance}{r:Route}{m:Nat}{c:List Bool×Bool}{b:Sheet×Bool}(h:c.2=true):rA x r m (zD c) c b=rA x r m (zD (jM c.1 m)) (jM c.1 m) (iI x r c.1 b)/\zD (jM c.1 m)<zD c/\((jM c.1 m).2=true->(jM c.1 m).1.length=c.1.length):=by
 have O:=YB c.1;have e:zD c=(2^c.1.length-En c.1-1)+1:=by unfold zD;rw[if_pos h];omega
 have I:rA x r m (zD c) c b=rA x r m (2^c.1.length-En c.1-1) (jM c.1 m) (iI x r c.1 b):=by
  rw[e];conv=>lhs;unfold rA
  rw[if_pos h]
 cases E:(jM c.1 m).2 with
 | false=>
  refine⟨by rw[I,wS E,wS E],?_,fun h=>by cases h⟩;have:zD (jM c.1 m)=0:=by unfold zD;rw[E];rfl
  omega
 | true=>
  have F:=Bq m c.1.length c.1 (Xaf _) E;rw[Nat.sub_self]at F;have J:zD (jM c.1 m)=2^c.1.length-En c.1-1:=by unfold zD;rw[E,if_pos rfl];unfold jM;rw[F.1,F.2];omega
  exact⟨by rw[I,J],by omega,fun _=>F.1⟩
def OH:AV->Bool
 | .v (.bool b)=>b
 | _=>false
def Ib:AV->List Bool
 | .sl es=>es.map fun c=>OH (c.getD 0 .any)
 | _=>[]
def Bx(l:List Bool):Ib (.sl (l.map dE))=l:=by simp[Ib,dE,OH,Function.comp_def]
abbrev J6(s:Sheet):Row:=⟨257,5,[bR s]⟩
def iP(s:Sheet):(bR s).length=5:=(rfl)
def DM(s:Sheet):(bR s).getD 3 .any=int s.end_:=(rfl)
def Do(s:Sheet):(bR s).getD 4 .any=int s.miles:=(rfl)
def zX(s:Sheet):(bR s).take 5=bR s:=(rfl)
attribute [go_sem] DM Do zX
def JJ{a:List Bool}{n:Nat}(h:a.length<=n):((List.replicate n [boo false]).take 0++(a.map dE).take (min (a.map dE).length (List.replicate n [boo false]).length))++(List.replicate n [boo false]).drop (0+min (a.map dE).length (List.replicate n [boo false]).length)=(a++List.replicate (n-a.length) false).map dE:=by
 have e:min (a.map dE).length (List.replicate n [boo false]).length=a.length:=by simp;omega
 rw[e,List.take_zero,Xbn,Xcg,Xan (by simp),List.drop_replicate,Xam,List.map_replicate];rfl
def afC(x:Instance)(r:Route)(hn:NetB x.net)(hr:r.visits.length<=1048576):PC prog 328 [.agg (aD x),.agg (bT r)] (.tup [.agg (bR (lX x r).1),int (lX x r).2]):=by
 refine pcb (fun t=>t == 39) func328 rfl rfl ?_;simp only[go_sem];refine aN fun O T=>?_
 have E:=aB bQ O (some (dA zeroCells));generalize aM bQ O _=H0 at E |-;simp only[go_sem,mC (show r.visits.length<=4611686018427387904 by omega)];refine aH (Eb x r hr) ?_;simp only[go_sem];apply aA <;> intro h1
 . simp only[go_sem];refine aI E (by simp) ?_;simp only[go_sem];rw[show lX x r=(aX,2)from if_pos h1];exact .refl _
 have hm:r.rests.length<=r.visits.length+1:=by simp only[Xag,decide_eq_false_iff_not]at h1;omega
 rw[show lX x r=_ from if_neg (by rw[h1];simp)];simp only[go_sem];refine⟨by omega,?_⟩;refine aN fun j7 T=>?_
 simp only[go_sem];refine Xo auW (aB _ _ _) (.inl ⟨rfl,rfl,rfl⟩) (.inl rfl) rfl (F2 _) ?_;generalize Y:aM (aM H0 j7 _) j7 _=H1;have ai:=bE E T;have R7:H1 j7=some (Cz (cV r)):=by rw[<-Y,aB];exact congrArg (fun es=>some (⟨4,1,es⟩:Row)) (JJ hm)
 have E:H1 O=some (dA zeroCells):=by rw[<-Y];exact rQ E T
 simp only[go_sem];refine Cg rfl R7 fun H2 _ hH=>?_
 have E:=(hH O ai).trans E;simp only[go_sem];refine aH (Yk x r (cV r) hn hr) ?_;simp only[go_sem];refine aN fun j8 T=>?_
 simp only[go_sem];refine aI (aB _ _ _) (by simp[bR]) ?_;have ak:=bE E T;generalize Y:aM (aM H2 j8 _) j8 _=H3;have J:H3 j8=some (J6 (fA x r (cV r)).1):=by rw[<-Y,aB];rfl
 have E:H3 O=some (dA zeroCells):=by rw[<-Y];exact rQ E T
 simp only[go_sem];have aj:(cV r).length=r.visits.length+1:=by simp[cV];omega
 refine aH (Qq (cV r) r.rests.length (by omega)) ?_;simp only[go_sem];generalize ah:(fA x r (cV r)).2.2=first
 generalize ae:((fA x r (cV r)).1,first == 0)=b0;generalize al:jM (cV r) r.rests.length=c0;have ag:c0.2=true->c0.1.length=r.visits.length+1:=fun h=>by rw[<-al]at h |-;rw[<-aj];exact(Bq r.rests.length (cV r).length (cV r) (Xaf _) h).1
 have e1:(fA x r (cV r)).1=b0.1:=by rw[<-ae]
 have e2:(first == 0)=b0.2:=by rw[<-ae]
 rw[e1]at J;rw[e2];refine ⟨fun ρ H => ∃ (c : List Bool × Bool) (b : Sheet × Bool), rA x r r.rests.length (zD c) c b = rA x r r.rests.length (zD c0) c0 b0 /\ (c.2 = true -> c.1.length = r.visits.length + 1) /\
     ρ 2=.rp (aD x) 0/\ρ 3=.rp (bT r) 0/\ρ 4=.op O 0 0/\ρ 7=.sl (c.1.map dE)/\ρ 8=.op j8 0 0/\ρ 9=int first/\ρ 10=boo b.2/\ρ 11=boo c.2/\H O=some (dA zeroCells)/\H j8=some (J6 b.1),
   fun ρ _=>zD (Ib (ρ 7),OH (ρ 11)),⟨c0,b0,rfl,ag,rfl,rfl,rfl,rfl,rfl,rfl,rfl,rfl,E,J⟩,?_⟩
 rintro ρ H ⟨c,b,hg,af,h2,h3,X,h7,Z,h9,I,aa,E,J⟩;have an:zD (Ib (ρ 7),OH (ρ 11))=zD c:=by rw[h7,aa,Bx];rfl
 simp only[go_sem,aa];apply aA <;> intro hc
 . obtain⟨s1,s2,s3⟩:=BF (x:=x) (r:=r) (m:=r.rests.length) (b:=b) hc;simp only[go_sem,h2,h3,h7];refine aH (Yk x r c.1 hn hr) ?_;simp only[go_sem];refine aN fun ac T=>?_
   simp only[go_sem];refine aI (aB _ _ _) (by simp[bR]) ?_;generalize Y:aM (aM H ac _) ac _=H4;have ab:H4 ac=some (J6 (fA x r c.1).1):=by rw[<-Y,aB];rfl
   have E:H4 O=some (dA zeroCells):=by rw[<-Y];exact rQ E T
   have am:=(bE J T).symm;have J:H4 j8=some (J6 b.1):=by rw[<-Y];exact rQ J T
   simp only[go_sem,Z,I,J,ab];refine bN (fun F H'=>F 2=.rp (aD x) 0/\F 3=.rp (bT r) 0/\F 4=.op O 0 0/\F 7=.sl (c.1.map dE)/\F 8=.op j8 0 0/\F 9=int first/\F 10=boo (iI x r c.1 b).2/\H' O=some (dA zeroCells)/\H' j8=some (J6 (iI x r c.1 b).1)) ?_ fun K hK=>aA (fun hb=>?_) (fun hb=>?_)
   . clear E J ab h2 h3 X h7 Z h9 I aa;rintro ρ H ⟨h2,h3,X,h7,Z,h9,I,E,J⟩;simp only[go_sem,h3,h7];refine aH (Qq c.1 r.rests.length (by have:=af hc;omega)) ?_;simp only[go_sem];refine⟨⟨jM c.1 r.rests.length,iI x r c.1 b,by rw[<-s1];exact hg,fun h=>(s3 h).trans (af hc),h2,h3,X,rfl,Z,h9,I,rfl,E,J⟩,?_⟩;rw[Bx,Bx];exact s2
   . simp only[go_sem,Z,ab];refine aI J (by simp[bR]) ?_;simp only[go_sem];have e:iI x r c.1 b=((fA x r c.1).1,true):=if_pos hb;rw[e]at hK;refine hK _ _ ⟨h2,h3,X,h7,Z,h9,rfl,?_,?_⟩
     . exact oZ E ak
     . rw[aB];rfl
   . simp only[go_sem];have e:iI x r c.1 b=b:=if_neg (by rw[show((fA x r c.1).2.2 == 0&&(!b.2||decide ((fA x r c.1).1.end_<b.1.end_)))=false from hb];simp);rw[e]at hK;exact hK _ _ ⟨h2,h3,X,h7,Z,h9,I,E,J⟩
 . have ad:rA x r r.rests.length (zD c) c b=b:=wS hc _;rw[<-hg,ad];simp only[go_sem,I];apply aA <;> intro hb
   . simp only[go_sem,X,h9];refine aI E (by simp) ?_;simp only[go_sem,X];rw[show DW b first=(aX,first)from if_neg (by simpa using hb)];exact .refl _
   . simp only[go_sem,X,Z,J];refine aI E (by simp[bR]) ?_;simp only[go_sem,X];rw[show DW b first=(b.1,0)from if_pos (by simpa using hb)];exact .refl _
def lA(s:Score):(cE s).length=4:=(rfl)
def AI(s:Score):(cE s).getD 0 .any=int s.cost:=(rfl)
def Az(s:Score):(cE s).getD 1 .any=int s.moved:=(rfl)
def An(s:Score):(cE s).getD 2 .any=int s.other:=(rfl)
def Ay(s:Score):(cE s).getD 3 .any=int s.work:=(rfl)
def uY(s:Score):(cE s).take 4=cE s:=(rfl)
attribute [go_sem] iP WT lA AI Az An Ay uY
abbrev nR(s:Score):Row:=⟨259,4,[cE s]⟩
def I4(o:Order)(t:Int):Bool:=o.now != -1&&o.now != t
def Ix(o:Order)(t:Int):Bool:=o.last != -1&&o.last != t
def A6(o:Order)(t:Int)(a:Score):Score:=if I4 o t=true then⟨a.cost,W (a.moved+1),a.other,a.work⟩else a
def Ax(o:Order)(t:Int)(a:Score):Score:=if Ix o t=true then⟨a.cost,a.moved,W (a.other+1),a.work⟩else a
def fZ(x:Instance)(r:Route)(a:Score)(i:Nat):Score:=
 if(cF (fB r.visits i) x.orders.length|| !nH r.visits i)=true then a
 else match x.orders[(fB r.visits i).toNat]? with
 | some o=>Ax o r.type (A6 o r.type a)
 | none=>a
def vR(t:VType)(s:Sheet):Score:=
 ⟨W (W (t.fixed+W (t.perMile*s.miles))+W (t.perTick*W (s.end_-t.start))),0,0,
   W (W (Int.tdiv (W (s.end_-t.start)) 64)*W (Int.tdiv (W (s.end_-t.start)) 64))⟩
def Uy(x:Instance)(r:Route)(s:Sheet)(t:VType):Score:=(List.range r.visits.length).foldl (fZ x r) (vR t s)
def mZ(x:Instance)(r:Route)(s:Sheet):Score:=
 if cF r.type x.types.length=true then cL else match x.types[r.type.toNat]? with
 | some t=>Uy x r s t
 | none=>cL
def Z5(x:Instance)(r:Route)(s:Sheet)(hr:r.visits.length<=1048576):PC prog 329 [.agg (aD x),.agg (bT r),.agg (bR s)] (.agg (cE (mZ x r s))):=by
 refine pcd func329 rfl rfl ?_;simp only[go_sem];refine aN fun j6 hj=>?_
 have J:=aB bQ j6 (some (⟨259,4,[[int 0,int 0,int 0,int 0]]⟩:Row));generalize aM bQ j6 _=H0 at J |-;simp only[go_sem];apply aA <;> intro h1
 . simp only[go_sem];refine aI J (by simp) ?_;simp only[go_sem];rw[show mZ x r s=cL from if_pos h1];exact .refl _
 have ae:0<=r.type/\r.type<(x.types.length:Int):=by simp only[Xag,decide_eq_false_iff_not]at h1;omega
 obtain⟨t,ht⟩:=aK (show r.type.toNat<x.types.length by omega);rw[show mZ x r s=Uy x r s t by unfold mZ;rw[if_neg (by rw[show cF r.type x.types.length=false from h1];simp),ht]];simp only[go_sem,aC ht,ae];refine aN fun j7 hj=>?_
 simp only[go_sem];refine aI (aB _ _ _) (by simp[jH]) ?_;generalize hG:aM (aM H0 j7 _) j7 _=H1;have R7:H1 j7=some (kY t):=by rw[<-hG,aB];rfl
 have J:H1 j6=some (⟨259,4,[[int 0,int 0,int 0,int 0]]⟩:Row):=by rw[<-hG];exact rQ J hj
 simp only[go_sem,R7];refine⟨by decide,by decide,?_⟩;refine aN fun j9 hj=>?_
 simp only[go_sem];refine aI (aB _ _ _) (by simp) ?_;have ad:=bE J hj;generalize hG:aM (aM H1 j9 _) j9 _=H2;have O:H2 j9=some (nR (vR t s)):=by rw[<-hG,aB];rfl
 have J:H2 j6=some (⟨259,4,[[int 0,int 0,int 0,int 0]]⟩:Row):=by rw[<-hG];exact rQ J hj
 simp only[go_sem];refine ⟨fun ρ H => ∃ k : Nat, k <= r.visits.length /\ ρ 3 = .rp (aD x) 0 /\ ρ 4 = .rp (bT r) 0 /\ ρ 6 = .op j6 0 0 /\ ρ 9 = .op j9 0 0 /\ ρ 10 = int k /\ H j6 = some (⟨259, 4, [[int 0, int 0, int 0, int 0]]⟩ : Row) /\
     H j9=some (nR (((List.range r.visits.length).take k).foldl (fZ x r) (vR t s))),fun ρ _=>r.visits.length-aR (ρ 10),⟨0,Xaa _,rfl,rfl,rfl,rfl,rfl,J,O⟩,?_⟩
 rintro ρ H ⟨k,hk,X,T,Z,Y,F,J,O⟩;simp only[go_sem,T,F];refine aA (fun I=>?_) (fun aa=>?_)
 . have I:=aV I;obtain⟨v,hv⟩:=aK I;have b1:=inB I;have hs:((List.range r.visits.length).take (k+1)).foldl (fZ x r) (vR t s)=fZ x r (((List.range r.visits.length).take k).foldl (fZ x r) (vR t s)) k:=by rw[bA (iN I),Xbm];rfl
   generalize hA:((List.range r.visits.length).take k).foldl (fZ x r) (vR t s)=A at O hs;have ev:fB r.visits k=v.order:=gR hv;simp only[go_sem,X,T,F,aC hv,b1];refine⟨_,fun _=>(Wc r.visits k hr I).q rfl,?_⟩;simp only[go_sem];apply aA <;> intro h2
   . have e:fZ x r A k=A:=by unfold fZ;rw[ev,if_pos (show(cF v.order x.orders.length|| !nH r.visits k)=true from h2)]
     simp only[go_sem,F,aQ k];exact⟨⟨k+1,I,X,T,Z,Y,rfl,J,by rw[hs,e];exact O⟩,msr I⟩
   have af:cF v.order x.orders.length=false:=(Xag.1 h2).1;have ac:0<=v.order/\v.order<(x.orders.length:Int):=by have:=af;simp only[cF,Xag,decide_eq_false_iff_not]at this;omega
   obtain⟨o,ho⟩:=aK (show v.order.toNat<x.orders.length by omega);have e:fZ x r A k=Ax o r.type (A6 o r.type A):=by unfold fZ;rw[ev,if_neg (by rw[show(cF v.order x.orders.length|| !nH r.visits k)=false from h2];simp),ho]
   rw[e]at hs;simp only[go_sem];refine dK ?_;simp only[go_sem,X,T,aC ho,ac];refine bN (fun E H'=>E 3=.rp (aD x) 0/\E 4=.rp (bT r) 0/\E 6=.op j6 0 0/\E 9=.op j9 0 0/\E 10=int k/\E 11=int v.order/\H' j6=some (⟨259,4,[[int 0,int 0,int 0,int 0]]⟩:Row)/\H' j9=some (nR (A6 o r.type A))) ?_ fun K hK=>aA (fun hb=>?_) (fun hb=>?_)
   . clear J O X T Z Y F;rintro ρ H ⟨X,T,Z,Y,F,ab,J,O⟩;simp only[go_sem];refine dK ?_;simp only[go_sem,X,T,ab,aC ho,ac];refine gU (fun E H'=>E 3=.rp (aD x) 0/\E 4=.rp (bT r) 0/\E 6=.op j6 0 0/\E 9=.op j9 0 0/\E 10=int k/\H' j6=some (⟨259,4,[[int 0,int 0,int 0,int 0]]⟩:Row)/\H' j9=some (nR (Ax o r.type (A6 o r.type A)))) ?_ fun K hK _ _=>aA (fun hb=>?_) (fun hb=>?_)
     . clear J O X T Z Y F ab;rintro ρ H ⟨X,T,Z,Y,F,J,O⟩;simp only[go_sem,F,aQ k];exact⟨⟨k+1,I,X,T,Z,Y,rfl,J,by rw[hs];exact O⟩,msr I⟩
     . simp only[go_sem,Y,O];refine dP so3 O ⟨by simp,rfl,by simp⟩ ?_;simp only[go_sem];refine hK _ _ ⟨X,T,Z,Y,F,oZ J ad,?_⟩;rw[aB,Ax,if_pos (show Ix o r.type=true from hb)];rfl
     . simp only[go_sem];refine hK _ _ ⟨X,T,Z,Y,F,J,?_⟩;rw[Ax,if_neg (by rw[show Ix o r.type=false from hb];simp)];exact O
   . simp only[go_sem,Y,O];refine dP so3 O ⟨by simp,rfl,by simp⟩ ?_;simp only[go_sem];refine hK _ _ ⟨X,T,Z,Y,F,rfl,oZ J ad,?_⟩;rw[aB,A6,if_pos (show I4 o r.type=true from hb)];rfl
   . simp only[go_sem];refine hK _ _ ⟨X,T,Z,Y,F,rfl,J,?_⟩;rw[A6,if_neg (by rw[show I4 o r.type=false from hb];simp)];exact O
 . have aa:=aW hk aa;subst aa;simp only[go_sem,Z,Y,O];refine aI J (by simp[cE]) ?_;simp only[go_sem,Z];rw[Xan (by simp)];exact .refl _
structure InsB(x:Instance):Prop where
 net:NetB x.net
 types:x.types.length<=1048576
 orders:x.orders.length<=1048576
 apart:x.apart.length<=1048576
 before:x.before.length<=1048576
def DS{x:Instance}{l:List Visit}(h:fE x l=0):∀v∈l,0<=v.order/\v.order<(x.orders.length:Int):=by
 intro v F;by_cases E:(l.any fun v=>cF v.order x.orders.length)=true
 ·unfold fE at h;rw[if_pos E]at h;cases h
 ·have E : cF v.order x.orders.length = false := by have:=Xbf.1 (Xcz.2 E) v F;simpa using this
  simp only[cF,Xag,decide_eq_false_iff_not]at E;omega
def uP(x:Instance)(t:VType)(v:Visit):Bool:=match x.orders[v.order.toNat]? with|some o=>sK t.skills o.skills|none=>false
def NE(x:Instance)(r:Route)(t:VType):Sheet×Score×Int:=
 if(fE x r.visits != 0)=true then(aX,cL,fE x r.visits)
 else if(r.visits.any fun v=> !uP x t v)=true then(aX,cL,18)
 else if(AS x r != 0)=true then(aX,cL,AS x r)
 else if((lX x r).2 != 0)=true then(aX,cL,(lX x r).2)
 else((lX x r).1,mZ x r (lX x r).1,0)
def pQ(x:Instance)(r:Route):Sheet×Score×Int:=
 if cF r.type x.types.length=true then(aX,cL,2)else match x.types[r.type.toNat]? with
 | some t=>NE x r t
 | none=>(aX,cL,2)
abbrev Km:List AV:=[int 0,int 0,int 0,int 0]
def IY{H:aG}{c:Int}:Conv H (.tup [.agg zeroCells,.agg Km,int c]) (.tup [.agg (bR aX),.agg (cE cL),int c]):=.refl _
def PX(x:Instance)(r:Route)(hx:InsB x)(hr:r.visits.length<=1048576):PC prog 285 [.agg (aD x),.agg (bT r)] (.tup [.agg (bR (pQ x r).1),.agg (cE (pQ x r).2.1),int (pQ x r).2.2]):=by
 refine pcd func285 rfl rfl ?_;simp only[go_sem];refine aN fun X hj=>?_
 have E:=aB bQ X (some (dA zeroCells));generalize aM bQ X _=H0 at E |-;simp only[go_sem];refine aN fun j5 hj=>?_
 have O:=aB H0 j5 (some (⟨259,4,[Km]⟩:Row));have F:=bE E hj;have E:=eT (r':=(⟨259,4,[Km]⟩:Row)) E hj;generalize aM H0 j5 _=H1 at E O |-;have T:=Ne.symm F;simp only[go_sem];apply aA <;> intro h1
 ·simp only[go_sem];refine aI E (by simp) ?_;simp only[go_sem];refine aI (oZ O T) (by simp) ?_;simp only[go_sem,aJ _ _ _ _ F];rw[show pQ x r=(aX,cL,2)from if_pos h1];exact IY
 have ae:0<=r.type/\r.type<(x.types.length:Int):=by simp only[Xag,decide_eq_false_iff_not]at h1;omega
 obtain⟨t,ht⟩:=aK (show r.type.toNat<x.types.length by omega);rw[show pQ x r=NE x r t by unfold pQ;rw[if_neg (by rw[show cF r.type x.types.length=false from h1];simp),ht]];simp only[go_sem];refine aH (LR x r hr hx.apart hx.before) ?_;simp only[go_sem];apply aA <;> intro h2
 ·simp only[go_sem];refine aI E (by simp) ?_;simp only[go_sem];refine aI (oZ O T) (by simp) ?_;simp only[go_sem,aJ _ _ _ _ F];rw[show NE x r t=(aX,cL,fE x r.visits)from if_pos h2];exact IY
 have af:fE x r.visits=0:=by simpa using h2
 have ah:=DS af;rw[show NE x r t=_ from if_neg (by rw[h2];simp)];simp only[go_sem];refine⟨fun ρ H=>∃k:Nat,k<=r.visits.length/\ρ 2=.rp (aD x) 0/\ρ 3=.rp (bT r) 0/\ρ 4=.op X 0 0/\ρ 5=.op j5 0 0/\ρ 8=int k/\H X=some (dA zeroCells)/\H j5=some (⟨259,4,[Km]⟩:Row)/\∀v∈r.visits.take k,uP x t v=true,
  fun ρ _=>r.visits.length-aR (ρ 8),⟨0,Xaa _,rfl,rfl,rfl,rfl,rfl,E,O,by simp⟩,?_⟩
 rintro ρ H ⟨k,hk,g2,g3,Z,Y,g8,E,O,hz⟩;simp only[go_sem,g3,g8];refine aA (fun J=>?_) (fun aa=>?_)
 ·have J:=aV J;obtain⟨v,hv⟩:=aK J;have b1:=inB J;have hi:=ah v (Xac hv);obtain⟨o,ho⟩:=aK (show v.order.toNat<x.orders.length by omega);have es:uP x t v=sK t.skills o.skills:=by unfold uP;rw[ho]
  simp only[go_sem];refine dK ?_;simp only[go_sem,g2,g3,g8,aC hv,aC ho,aC ht,b1,hi,ae];refine⟨_,(aiN t o.skills).q rfl,?_⟩;simp only[go_sem];apply aA <;> intro h3
  ·simp only[go_sem,Z];refine aI E (by simp) ?_;simp only[go_sem,Y];refine aI (oZ O T) (by simp) ?_;simp only[go_sem,Z,Y,aJ _ _ _ _ F];rw[if_pos (Xas.2 ⟨v,Xac hv,by rw[es];exact h3⟩)];exact IY
  ·simp only[go_sem,g8,aQ k];exact⟨⟨k+1,J,g2,g3,Z,Y,rfl,E,O,aO (p:=fun v=>uP x t v=true) hv (by rw[es];simpa using h3) hz⟩,msr J⟩
 have aa:=aW hk aa;subst aa;rw[Xad]at hz;have ag:(r.visits.any fun v=> !uP x t v)=false:=by rw[Xbf];intro v hv;rw[hz v hv];simp
 rw[if_neg (by rw[ag];simp)];simp only[go_sem,g2,g3];refine aH (ajZ x r hx.orders hr hx.apart hx.before) ?_;simp only[go_sem];apply aA <;> intro h4
 ·simp only[go_sem,Z];refine aI E (by simp) ?_;simp only[go_sem,Y];refine aI (oZ O T) (by simp) ?_;simp only[go_sem,Z,Y,aJ _ _ _ _ F];rw[if_pos h4];exact IY
 rw[if_neg (by rw[h4];simp)];simp only[go_sem,g2,g3];refine aH (afC x r hx.net hr) ?_;simp only[go_sem];refine aN fun I hj=>?_
 simp only[go_sem];refine aI (aB _ _ _) (by simp[bR]) ?_;have ad:=bE E hj;generalize hG:aM (aM H I _) I _=H2;have ab:H2 I=some (J6 (lX x r).1):=by rw[<-hG,aB];rfl
 have E:H2 X=some (dA zeroCells):=by rw[<-hG];exact rQ E hj
 have O:H2 j5=some (⟨259,4,[Km]⟩:Row):=by rw[<-hG];exact rQ O hj
 simp only[go_sem];apply aA <;> intro h5
 ·simp only[go_sem,Z];refine aI E (by simp) ?_;simp only[go_sem,Y];refine aI (oZ O T) (by simp) ?_;simp only[go_sem,Z,Y,aJ _ _ _ _ F];rw[if_pos h5];exact IY
 rw[if_neg (by rw[h5];simp)];simp only[go_sem];refine fV [I] [(0,true),(1,true),(2,true),(3,true),(4,true),(5,false),(6,false),(7,false)] (by simp[ab]) (by kernel_rfl) fun Hp Hr hp hq _ aj=>?_
 have Rp:=(hp I (by simp)).trans ab;have m4:X∉[I]:=by simpa using ad
 have m5:j5∉[I]:=by simpa using dQ O ab rfl
 have S4:=(hq X m4).trans E;have S5:=(hq j5 m5).trans O;simp only[go_sem,g2,g3,Rp];refine⟨_,(Z5 x r (lX x r).1 hr).q rfl,?_⟩;simp only[go_sem,Z];refine aI S4 (by simp[bR]) ?_;simp only[go_sem,Y];refine aI (oZ S5 T) (by simp[cE]) ?_;simp only[go_sem];refine gJ fun hd Hm ai ac=>?_
 have T4:Hm X=some (J6 (lX x r).1):=by rw[ac X m4,aJ _ _ _ _ F,aB]
 have T5:Hm j5=some (nR (mZ x r (lX x r).1)):=by rw[ac j5 m5,aB]
 simp only[go_sem,Z,Y,T4,T5];exact .refl _
def abH(x:Instance)(r:Route)(I:InsB x)(J:r.visits.length<=1048576):PC prog 243 [.agg (aD x),.agg (bT r)] (int (pQ x r).2.2):=by
 refine pcd func243 rfl rfl ?_;simp only[go_sem];refine aH (PX x r I J) ?_;simp only[go_sem];refine aN fun X O=>?_
 simp only[go_sem];refine aN fun T F=>?_
 simp only[go_sem];refine aI (eT (aB _ _ _) F) (by simp[bR]) ?_;simp only[go_sem];have E:=bE (aB _ _ _) F;refine aI (oZ (aB _ _ _) E.symm) (by simp[cE]) ?_;simp only[go_sem];exact .refl _
def DC{P:Program}{C:mN}{PC:FuncId->List AV->aG->AV->Prop}{mt:Nat->Bool}{ops:Array Oper}{K:Env->aG->Prop}{m:Nat}{ρ:Env}{H:aG}(J:Env->aG->Prop)(h1:∀ρ H,J ρ H->K ρ H)
 (E:∀K':Env->aG->Prop,(∀ρ H,J ρ H->K' ρ H)->vV P C PC mt ops K' m ρ H):vV P C PC mt ops K m ρ H:=E K h1
def rD{α:Type}{p:α->Bool}:∀(l:List α) (n:Int),0<=n->decide (pC p l n>=0)=l.any p
 | [],n,_=>rfl
 | a::r,n,hn=>by
  have ih:=rD (p:=p) r (n+1) (by omega);rw[Xar]at ih |-;simp only[decide_eq_true_eq]at ih |-;rw[List.any_cons,Xcm,<-ih];by_cases h:p a=true
  ·rw[show pC p (a::r) n=n from if_pos h];exact⟨fun _=>.inl h,fun _=>hn⟩
  ·rw[show pC p (a::r) n=pC p r (n+1)from if_neg h];exact⟨fun x=>.inr x,fun x=>x.resolve_left h⟩
def OJ(l:List Int):(fD l).length=1:=(rfl)
def Zt(l:List Int):(fD l).getD 0 .any=.sl (l.map bC):=(rfl)
attribute [go_sem] OJ Zt
def Eh{g:Nat}{cap:List AV}{p:Visit->Bool}(l:List (Visit))(hl:l.length<=1048576)(T:aE prog g=true)(hg:∀v∈l,PC prog g (.agg (aF v)::cap) (boo (p v))):
  PC prog 333 [.sl (l.map aF),.fn g cap] (int (pC p l 0)):=by
 refine pcd func333 rfl rfl ?_;simp only[go_sem];refine⟨fun ρ _=>∃k:Nat,k<=l.length/\ρ 0=.sl (l.map aF)/\ρ 1=.fn g cap/\ρ 7=int l.length/\ρ 8=int k/\∀u∈l.take k,p u=false,fun ρ _=>l.length-aR (ρ 8),⟨0,Xaa _,rfl,rfl,rfl,rfl,by simp⟩,?_⟩;rintro ρ H ⟨k,Z,h0,h1,X,O,I⟩;simp only[go_sem,X,O];refine aA (fun E=>?_) (fun F=>?_)
 ·have E:=aV E;obtain⟨u,J⟩:=aK E;have b1:=inB E;simp only[go_sem,h0,h1,O,aC J,b1,T];refine aH (hg u (Xac J)) ?_;simp only[go_sem,];apply aA <;> intro Y
  ·simp only[go_sem];exact bP (by rw[lR I J Y];omega)
  ·simp only[go_sem,h0,h1,X,O,aQ k];exact⟨⟨k+1,E,rfl,aO (p:=fun u=>p u=false) J Y I⟩,msr E⟩
 ·have F:=aW Z F;subst F;rw[Xad]at I;simp only[go_sem];exact bP (by rw[kP I])
def uF{g:Nat}{cap:List AV}{p:Visit->Bool}(l:List (Visit))(I:l.length<=1048576)(E:aE prog g=true)(F:∀v∈l,PC prog g (.agg (aF v)::cap) (boo (p v))):
  PC prog 294 [.sl (l.map aF),.fn g cap] (boo (l.any p)):=by
 refine pcd func294 rfl rfl ?_;simp only[go_sem];refine aH (Eh l I E F) ?_;simp only[go_sem];exact bS (rD l 0 (Xbq _))
def PD{g:Nat}{cap:List AV}{p:List Int->Bool}(l:List (List Int))(hl:l.length<=1048576)(T:aE prog g=true)(hg:∀v∈l,PC prog g (.sl (v.map bC)::cap) (boo (p v))):
  PC prog 342 [.sl (l.map fD),.fn g cap] (int (pC p l 0)):=by
 refine pcd func342 rfl rfl ?_;simp only[go_sem];refine⟨fun ρ _=>∃k:Nat,k<=l.length/\ρ 0=.sl (l.map fD)/\ρ 1=.fn g cap/\ρ 7=int l.length/\ρ 8=int k/\∀u∈l.take k,p u=false,fun ρ _=>l.length-aR (ρ 8),⟨0,Xaa _,rfl,rfl,rfl,rfl,by simp⟩,?_⟩;rintro ρ H ⟨k,Z,h0,h1,X,O,I⟩;simp only[go_sem,X,O];refine aA (fun E=>?_) (fun F=>?_)
 ·have E:=aV E;obtain⟨u,J⟩:=aK E;have b1:=inB E;simp only[go_sem,h0,h1,O,aC J,b1,T];refine aH (hg u (Xac J)) ?_;simp only[go_sem,];apply aA <;> intro Y
  ·simp only[go_sem];exact bP (by rw[lR I J Y];omega)
  ·simp only[go_sem,h0,h1,X,O,aQ k];exact⟨⟨k+1,E,rfl,aO (p:=fun u=>p u=false) J Y I⟩,msr E⟩
 ·have F:=aW Z F;subst F;rw[Xad]at I;simp only[go_sem];exact bP (by rw[kP I])
def HF{g:Nat}{cap:List AV}{p:List Int->Bool}(l:List (List Int))(I:l.length<=1048576)(E:aE prog g=true)(F:∀v∈l,PC prog g (.sl (v.map bC)::cap) (boo (p v))):
  PC prog 303 [.sl (l.map fD),.fn g cap] (boo (l.any p)):=by
 refine pcd func303 rfl rfl ?_;simp only[go_sem];refine aH (PD l I E F) ?_;simp only[go_sem];exact bS (rD l 0 (Xbq _))
def Xj(l:List Visit)(v:Visit)(hl:l.length<=1048576):PC prog 313 [.sl (l.map aF),.agg (aF v)] (int (bM l v)):=by
 refine pcd func313 rfl rfl ?_;simp only[go_sem];refine⟨fun ρ _=>∃k:Nat,k<=l.length/\ρ 0=.sl (l.map aF)/\ρ 3=.rp (aF v) 0/\ρ 7=int l.length/\ρ 8=int k/\∀u∈l.take k,pM v u=false,fun ρ _=>l.length-aR (ρ 8),⟨0,Xaa _,rfl,rfl,rfl,rfl,by simp⟩,?_⟩;rintro ρ H ⟨k,hk,h0,X,Y,O,J⟩;simp only[go_sem,Y,O];refine aA (fun E=>?_) (fun F=>?_)
 ·have E:=aV E;obtain⟨u,T⟩:=aK E;have b1:=inB E;have Z:(v.order == u.order&&(v.drop == u.drop&&true))=pM v u:=by unfold pM;rw[show(v.order == u.order)=(u.order == v.order)from Xar.2 (by simp only[Xav];exact eq_comm),show(v.drop == u.drop)=(u.drop == v.drop)from by cases v.drop <;> cases u.drop <;> rfl]
  simp only[go_sem,O];refine dK ?_;simp only[go_sem,h0,X,aC T,b1];apply aA <;> intro I
  ·have I:pM v u=true:=by rw[<-Z];exact I
   simp only[go_sem];exact bP (by rw[bM,lR J T I];omega)
  ·have I:pM v u=false:=by rw[<-Z];exact I
   simp only[go_sem,h0,X,Y,O,aQ k];exact⟨⟨k+1,E,rfl,aO (p:=fun u=>pM v u=false) T I J⟩,msr E⟩
 ·have F:=aW hk F;subst F;rw[Xad]at J;simp only[go_sem];exact bP (by rw[bM,kP J])
def inV(l:List Visit)(v:Visit):Bool:=decide (bM l v>=0)
def VS(l:List Visit)(v:Visit)(E:l.length<=1048576):PC prog 334 [.sl (l.map aF),.agg (aF v)] (boo (inV l v)):=by refine pcd func334 rfl rfl ?_;simp only[go_sem];refine aH (Xj l v E) ?_;simp only[go_sem];exact .refl _
def Es(l:List Visit)(v:Visit)(E:l.length<=1048576):PC prog 266 [.sl (l.map aF),.agg (aF v)] (int (bM l v)):=by refine pcd func266 rfl rfl ?_;simp only[go_sem];refine aH (Xj l v E) ?_;simp only[go_sem];exact .refl _
def iU(l:List Visit)(o:Int):Bool:=l.any fun v=>v.order == o
def auD(o:Int)(v:Visit):PC prog 335 [.agg (aF v),.rp [int o] 0] (boo (v.order == o)):=by refine pcd func335 rfl rfl ?_;simp only[go_sem];exact .refl _
def aaY(o:Int)(v:Visit):PC prog 336 [.agg (aF v),.rp [int o] 0] (boo (v.order == o)):=by refine pcd func336 rfl rfl ?_;simp only[go_sem];exact .refl _
def Hj(l:List Visit)(o:Int)(E:l.length<=1048576):PC prog 299 [.sl (l.map aF),int o] (boo (iU l o)):=by refine pcd func299 rfl rfl ?_;simp only[go_sem];refine aH (uF (p:=fun v=>v.order == o) l E (by kernel_rfl) (fun v _=>auD o v)) ?_;simp only[go_sem];exact .refl _
def XO(l:List Order)(k:Int):PC prog 172 [.sl (l.map bJ),int k] (boo (!cF k l.length)):=by refine pcd func172 rfl rfl ?_;simp only[go_sem];refine bS ?_;unfold cF;rw[Xar];simp
theorem AN{α:Type}{p:α->Bool}{l:List α}{k:Nat}{x:α}(F:l[k]?=some x)(E:p x=false):l.all p=false:=by rw[List.all_eq_false];exact⟨x,Xac F,by simp[E]⟩
def Ez{α:Type}{p:α->Bool}{l:List α}(h:∀x∈l.take l.length,p x=true):l.all p=true:=by rw[Xad]at h;rw[Xaj];exact h
def atT(x:Int):xR .and .i64 x 1=x%2:=by
 have h:((BitVec.ofInt 64 x &&& BitVec.ofInt 64 1).toNat:Int)=x%2:=by
  rw[BitVec.toNat_and,BitVec.toNat_ofInt,BitVec.toNat_ofInt];have:((1:Int)%((2^64:Nat):Int)).toNat=1:=by decide
  rw[this,Nat.and_one_is_mod];omega
 refine Eq.trans (congrArg IntKind.i64.wrap h) ?_;exact aU (by omega)
def Ji{a b:Nat}(F:a<2^63)(E:b<2^63):xR .or .i64 (a:Int) (b:Int)=((a ||| b:Nat):Int):=by
 have h:((BitVec.ofInt 64 (a:Int) ||| BitVec.ofInt 64 (b:Int)).toNat:Int)=((a ||| b:Nat):Int):=by
  rw[BitVec.toNat_or,BitVec.toNat_ofInt,BitVec.toNat_ofInt];have h1:((a:Int)%((2^64:Nat):Int)).toNat=a:=by omega
  have I:((b:Int)%((2^64:Nat):Int)).toNat=b:=by omega
  rw[h1,I]
 refine Eq.trans (congrArg IntKind.i64.wrap h) ?_;have:=Nat.or_lt_two_pow F E;exact aU (by omega)
def wD{x:Int}{i:Nat}(h:i<=62):shV .shr .i64 x (i:Int)=x/2^i:=by
 show x.fdiv (2^min ((i:Int)).toNat 64)=_;have:min ((i:Int)).toNat 64=i:=by omega
 rw[this,Int.fdiv_eq_ediv_of_nonneg _ (by exact Int.le_of_lt (Int.pow_pos (by decide)))]
def Iy{i:Nat}(h:i<=62):shV .shl .i64 1 (i:Int)=((2^i:Nat):Int):=by
 show IntKind.i64.wrap (1*2^min ((i:Int)).toNat 64)=_;have:min ((i:Int)).toNat 64=i:=by omega
 rw[this,Int.one_mul];have E:(2:Nat)^i<=2^62:=Xau (by decide) h;have F:((2:Int)^i)=((2^i:Nat):Int):=by norm_cast
 rw[F];generalize 2^i=m at E;exact aU (by omega)
def dO(set i:Int):Bool:=decide (i>=0)&&decide (i<=62)&&((set/2^i.toNat)%2 == 1)
def yE(set i:Int):PC prog 118 [int set,int i] (boo (dO set i)):=by
 refine pcd func118 rfl rfl ?_;simp only[go_sem];refine⟨fun h=>?_,?_⟩
 ·simp at h;omega
 ·refine bS ?_;unfold dO;rw[atT];by_cases h:0<=i/\i<=62
  ·obtain⟨h0,h1⟩:=h;have e:=wD (x:=set) (i:=i.toNat) (by omega);rw[Int.toNat_of_nonneg h0]at e;rw[e]
  ·have:(decide (i>=0)&&decide (i<=62))=false:=by simp;omega
   rw[this];rfl
def wP(l:List Visit):Nat:=l.foldl (fun s v=>s ||| 2^v.order.toNat) 0
def acU(l:List Visit)(v:Visit):wP (l++[v])=wP l ||| 2^v.order.toNat:=by simp[wP]
def aoO{m:Nat}(l:List Visit)(h:∀v∈l,v.order.toNat<m):wP l<2^m:=by
 suffices ∀(l:List Visit) (s:Nat),s<2^m->(∀v∈l,v.order.toNat<m)->l.foldl (fun s v=>s ||| 2^v.order.toNat) s<2^m from this l 0 (Nat.two_pow_pos m) h
 intro l;induction l with
 | nil=>intro s E _;exact E
 | cons v r ih=>intro s E h;rw[Xbv];exact ih _ (Nat.or_lt_two_pow E (Xda (by decide) (h v (by simp)))) fun v F=>h v (by simp[F])
theorem Je(l:List Visit)(i:Nat):(wP l).testBit i=l.any fun v=>v.order.toNat == i:=by
 suffices ∀(l:List Visit) (s:Nat),(l.foldl (fun s v=>s ||| 2^v.order.toNat) s).testBit i=(s.testBit i||l.any fun v=>v.order.toNat == i)from by have:=this l 0;simpa[wP]using this
 intro l;induction l with
 | nil=>intro s;simp
 | cons v r ih=>intro s;rw[Xbv,ih,Nat.testBit_or,Nat.testBit_two_pow,List.any_cons,Bool.or_assoc];rfl
def T0{s i:Nat}(h:s.testBit i=true):s ||| 2^i=s:=by
 apply Nat.eq_of_testBit_eq;intro j;rw[Nat.testBit_or,Nat.testBit_two_pow];by_cases e:i=j
 ·subst e;simp[h]
 ·simp[e]
def okV(v:Visit):Bool:= !(decide (v.order<0)||decide (v.order>62))
def uO(l:List Visit):Int×Int:=if l.all okV then(((wP l:Nat):Int),0)else(0,2)
def acK(r:Route)(hr:r.visits.length<=1048576):PC prog 337 [.agg (bT r)] (.tup [int (uO r.visits).1,int (uO r.visits).2]):=by
 refine pcd func337 rfl rfl ?_;simp only[go_sem];refine⟨fun ρ _=>∃k:Nat,k<=r.visits.length/\ρ 8=.sl (r.visits.map aF)/\ρ 9=int r.visits.length/\ρ 10=int k/\ρ 4=int (wP (r.visits.take k):Nat)/\∀v∈r.visits.take k,okV v=true,fun ρ _=>r.visits.length-aR (ρ 10),⟨0,Xaa _,rfl,rfl,rfl,rfl,by simp⟩,?_⟩;rintro ρ H ⟨k,hk,h8,h9,I,h4,Y⟩;simp only[go_sem,h9,I];refine aA (fun E=>?_) (fun F=>?_)
 ·have E:=aV E;obtain⟨v,O⟩:=aK E;have b1:=inB E;simp only[go_sem,h8,I,aC O,b1];refine aN fun j hj=>?_
  simp only[go_sem,];refine aI (aB _ _ _) (by simp[dG]) ?_;simp only[go_sem,];apply aA <;> intro hb
  ·simp only[go_sem];have:uO r.visits=(0,2):=by unfold uO;rw[AN O (by unfold okV;rw[hb];rfl)];rfl
   rw[this];exact .refl _
  ·have X:okV v=true:=by unfold okV;rw[hb];rfl
   have T:0<=v.order/\v.order<=62:=by simp[okV]at X;omega
   have J:wP (r.visits.take k)<2^63:=aoO _ fun v O=>by have:=Y v O;simp[okV]at this;omega
   have Z:=Iy (i:=v.order.toNat) (by omega);rw[Int.toNat_of_nonneg T.1]at Z;have e2:=Ji (a:=wP (r.visits.take k)) (b:=2^v.order.toNat) J (Xda (by decide) (by omega));simp only[go_sem,h8,h9,I,h4,Z,e2,aQ k];refine⟨T.1,⟨k+1,E,rfl,?_,aO (p:=fun v=>okV v=true) O X Y⟩,msr E⟩;rw[bA O,acU]
 ·have F:=aW hk F;subst F;simp only[go_sem,h4];have:uO r.visits=(((wP r.visits:Nat):Int),0):=by unfold uO;rw[Ez Y];rfl
  rw[this,Xad];exact .refl _
def aeH{s i:Nat}(F:s<2^63)(E:i<63)(h:s.testBit i=false):s ||| 2^i=s+2^i:=by
 have I:2^i<2^63:=Xda (by decide) E;have h0:BitVec.ofNat 64 s &&& BitVec.ofNat 64 (2^i)=0#64:=by
  apply BitVec.eq_of_toNat_eq;rw[BitVec.toNat_and,BitVec.toNat_ofNat,BitVec.toNat_ofNat,Xbk (by omega),Xbk (by omega)];apply Nat.eq_of_testBit_eq;intro j;rw[Nat.testBit_and,Nat.testBit_two_pow];by_cases e:i=j
  ·subst e;simp[h]
  ·simp[e]
 have h1:=congrArg BitVec.toNat (BitVec.add_eq_or_of_and_eq_zero (BitVec.ofNat 64 s) (BitVec.ofNat 64 (2^i)) h0);rw[BitVec.toNat_add,BitVec.toNat_or,BitVec.toNat_ofNat,BitVec.toNat_ofNat,Xbk (by omega:s<2^64),Xbk (by omega:2^i<2^64),Xbk (by omega)]at h1;exact h1.symm
def Fg{n:Int}(h:0<=n/\n<18446744073709551616):IntKind.u64.wrap n=n:=Mv.afG h
theorem jF{s:Nat}{i:Int}(h0:0<=i)(h1:i<=62):dO (s:Int) i=s.testBit i.toNat:=by
 rw[Xdb];unfold dO;have E:((2:Int)^i.toNat)=((2^i.toNat:Nat):Int):=by norm_cast
 have:((s:Int)/2^i.toNat)=((s/2^i.toNat:Nat):Int):=by rw[E];rfl
 rw[this];generalize s/2^i.toNat=m;rw[Xar];simp only[Xav,decide_eq_true_eq,Xak];omega
def Fz{s:Nat}{i:Int}(h0:0<=i)(h1:i<=62):rK (s:Int) i=s.testBit i.toNat:=by
 rw[<-jF h0 h1];unfold rK dO;rw[Fg (by omega)];obtain⟨n,rfl⟩:=Int.eq_ofNat_of_zero_le h0;rw[wD (by omega)];have E:((2:Int)^n)=((2^n:Nat):Int):=by norm_cast
 have e:((n:Int)).toNat=n:=Xao n;rw[e];have:((s:Int)/2^n)=((s/2^n:Nat):Int):=by rw[E];rfl
 rw[this];generalize s/2^n=m;rw[Xcs (by omega)];rw[Xar];simp only[Xav,decide_eq_true_eq,Xak];omega
def aiE{s:Nat}{n:Int}(J:s<2^63)(h0:0<=n)(h1:n<=62):WR (s:Int) n=((s ||| 2^n.toNat:Nat):Int):=by
 unfold WR;rw[Fz h0 h1];cases F:s.testBit n.toNat with
 | true=>rw[if_pos rfl,T0 F]
 | false=>rw[if_neg (by simp),Fg (by omega)];obtain⟨k,rfl⟩:=Int.eq_ofNat_of_zero_le h0;have e:((k:Int)).toNat=k:=Xao k;rw[e]at F |-;have O:2^k<2^63:=Xda (by decide) (by omega);have E:=aeH J (by omega) F;have I:=Nat.or_lt_two_pow J O;rw[E]at I |-;rw[Iy (by omega),aU (by omega)];omega
def CA{l:List Visit}(h:∀v∈l,AQ v=false):He l=(wP l:Nat):=by
 suffices ∀(l:List Visit) (s:Nat),s<2^63->(∀v∈l,AQ v=false)->l.foldl (fun s v=>WR s v.order) (s:Int)=((l.foldl (fun s v=>s ||| 2^v.order.toNat) s:Nat):Int)from this l 0 (by decide) h
 intro l;induction l with
 | nil=>intro s _ _;rfl
 | cons v r ih=>intro s F h;have E:=h v (by simp);unfold AQ at E;simp only[Xag,decide_eq_false_iff_not]at E;rw[Xbv,Xbv,aiE F (by omega) (by omega)];exact ih _ (Nat.or_lt_two_pow F (Xda (by decide) (by omega))) fun u I=>h u (by simp[I])
def W0(v:Visit):okV v= !AQ v:=rfl
def Kt(l:List Visit):uO l=cU l:=by
 unfold uO cU;by_cases h:l.any AQ=true
 ·rw[if_pos h,if_neg];rw[Xaj];intro J;obtain⟨v,E,F⟩:=Xas.1 h;have:=J v E;rw[W0,F]at this;cases this
 ·have I : ∀ v ∈ l, AQ v = false := fun v E => by
   cases F:AQ v with
   | false=>rfl
   | true=>exact absurd (Xas.2 ⟨v,E,F⟩) h
  rw[if_neg h,if_pos (Xaj.2 fun v E=>by rw[W0,I v E];rfl),CA I]
def IE(r:Route)(E:r.visits.length<=1048576):PC prog 337 [.agg (bT r)] (.tup [int (cU r.visits).1,int (cU r.visits).2]):=Kt r.visits▸acK r E
def Iw{l:List Visit}(h:∀v∈l,AQ v=false){i:Int}(h0:0<=i)(h1:i<=62):dO (cU l).1 i=iU l i:=by
 have e:(cU l).1=(wP l:Nat):=by unfold cU;rw[if_neg (by rw[rZ h];simp)];exact CA h
 rw[e,jF h0 h1,Je];unfold iU;refine Mv.rX fun v F=>?_
 have E:=h v F;unfold AQ at E;simp only[Xag,decide_eq_false_iff_not]at E;rw[Xar];simp only[Xav];omega
def uL{l:List Visit}(h:∀v∈l,AQ v=false){i:Int}(h0:0<=i)(h1:i<=62):rK (cU l).1 i=iU l i:=by
 rw[<-Iw h h0 h1];have e:(cU l).1=(wP l:Nat):=by unfold cU;rw[if_neg (by rw[rZ h];simp)];exact CA h
 rw[e,Fz h0 h1,jF h0 h1]
end Sq
end Go.Proofs.YtpagaknmdfgfkaaGreatDoor
