import Derived.Test.YtpagaknmdfgfkaaGreatDoorPb09
set_option linter.unusedSimpArgs false
set_option linter.unusedVariables false
set_option linter.defProp false
set_option maxRecDepth 100000
namespace Go.Proofs.YtpagaknmdfgfkaaGreatDoor
open Go.Aw Go.Aw.D Go.Proofs Ty
namespace Sq
open Go.Proofs.Tryz
open Mv (bO bR aO)
def rG(s i:Int):Bool:=decide (s>=0)&&decide (i>=0)&&decide (i<=62)&&((shV .shr .i64 s (IntKind.u64.wrap i)).tmod 2 == 1)
def CI(s i:Int):PC prog 281 [int s,int i] (boo (rG s i)):=by refine pcd func281 rfl rfl ?_;simp only[go_sem];refine⟨fun _=>by decide,?_⟩;exact .refl _
def Wl(s n:Int):Int:=if rG s n=true then s else IntKind.i64.wrap (s+shV .shl .i64 1 (IntKind.u64.wrap n))
def AA(v:Visit):Bool:=decide (v.order<0)||decide (v.order>62)
def Gi(l:List Visit):Int:=l.foldl (fun s v=>Wl s v.order) 0
def I4{l:List Visit}{k:Nat}{v:Visit}(h:l[k]?=some v):Gi (l.take (k+1))=Wl (Gi (l.take k)) v.order:=by unfold Gi;rw[bA h,Xbn];rfl
def cT(l:List Visit):Int×Int:=if l.any AA=true then(0,2)else(Gi l,0)
def I2(r:Route)(hr:r.visits.length<=1048576):PC prog 242 [.agg (bT r)] (.tup [int (cT r.visits).1,int (cT r.visits).2]):=by
 refine pcd func242 rfl rfl ?_;simp only[go_sem];refine⟨fun ρ _=>∃k:Nat,k<=r.visits.length/\ρ 1=.rp (bT r) 0/\ρ 5=int k/\ρ 4=int (Gi (r.visits.take k))/\∀v∈r.visits.take k,AA v=false,fun ρ _=>r.visits.length-aR (ρ 5),⟨0,Xaa _,rfl,rfl,rfl,by simp⟩,?_⟩;rintro ρ H ⟨k,hk,h1,O,F,Y⟩;simp only[go_sem,h1,O];refine aA (fun E=>?_) (fun I=>?_)
 ·have E:=aT E;obtain⟨v,V⟩:=aK E;have b1:=inB E;simp only[go_sem,h1,O,aD V,b1];apply aA <;> intro X
  ·simp only[go_sem];have:cT r.visits=(0,2):=by unfold cT;rw[if_pos (Xao.2 ⟨v,Xac V,X⟩)]
   rw[this];exact .refl _
  simp only[go_sem,F];refine aG (CI _ _) ?_;simp only[go_sem];refine gP (fun J _=>J 1=.rp (bT r) 0/\J 5=int k/\J 4=int (Gi (r.visits.take (k+1)))) ?_ fun K Z _ _=>aA (fun U=>?_) (fun U=>?_)
  ·clear h1 O F;rintro ρ H ⟨h1,O,F⟩;simp only[go_sem,h1,O,F,aQ k];exact⟨⟨k+1,E,rfl,rfl,aO (p:=fun v=>AA v=false) V X Y⟩,msr E⟩
  ·simp only[go_sem,F];refine Z _ _ ⟨h1,O,?_⟩;simp only[go_sem];rw[I4 V,Wl,if_neg (by simpa using U)]
  ·simp only[go_sem];refine Z _ _ ⟨h1,O,?_⟩;simp only[go_sem,F];rw[I4 V,Wl,if_pos (by simpa using U)]
 ·have I:=aV hk I;subst I;simp only[go_sem,F];rw[Xad]at Y F |-;have:cT r.visits=(Gi r.visits,0):=by unfold cT;rw[if_neg];intro h;obtain⟨v,V,X⟩:=Xao.1 h;rw[Y v V]at X;cases X
  rw[this];exact .refl _
def oT(v u:Visit):Bool:=u.order == v.order&&(u.drop == v.drop&&true)
def pM{α:Type}(p:α->Bool):List α->Int->Int
 | [],_=> -1
 | x::r,n=>if p x=true then n else pM p r (n+1)
def lW{α:Type}{p:α->Bool}{l:List α}{k:Nat}{x:α}(h:∀y∈l.take k,p y=false)(E:l[k]?=some x)(F:p x=true):∀n,pM p l n=n+k:=by
 induction l generalizing k with
 | nil=>simp at E
 | cons a r ih=>
  intro n;cases k with
  | zero=>simp at E;subst E;simp only[pM];rw[if_pos F];simp
  | succ k=>have h0:=h a (by simp);simp only[pM];rw[if_neg (by rw[h0];simp),ih (k:=k) (fun y I=>h y (by simp[I])) (by simpa using E)];omega
def kS{α:Type}{p:α->Bool}{l:List α}(h:∀y∈l,p y=false):∀n,pM p l n= -1:=by
 induction l with
 | nil=>intro n;rfl
 | cons a r ih=>intro n;simp only[pM];rw[if_neg (by rw[h a (by simp)];simp)];exact ih (fun y E=>h y (by simp[E])) _
def bJ(l:List Visit)(v:Visit):Int:=pM (oT v) l 0
def sM(l:List Visit)(v:Visit)(Z:l.length<=1048576):PC prog 284 [.sl (l.map aF),.agg (aF v)] (int (bJ l v)):=by
 refine pcd func284 rfl rfl ?_;simp only[go_sem];refine⟨fun ρ _=>∃k:Nat,k<=l.length/\ρ 0=.sl (l.map aF)/\ρ 3=.rp (aF v) 0/\ρ 5=int k/\∀u∈l.take k,oT v u=false,fun ρ _=>l.length-aR (ρ 5),⟨0,Xaa _,rfl,rfl,rfl,by simp⟩,?_⟩;rintro ρ H ⟨k,X,h0,V,I,J⟩;simp only[go_sem,h0,I];refine aA (fun E=>?_) (fun F=>?_)
 ·have E:=aT E;obtain⟨u,O⟩:=aK E;have Y:=inB E;simp only[go_sem];refine dR ?_;simp only[go_sem,h0,V,I,aD O,Y];apply aA <;> intro U
  ·simp only[go_sem,I];exact bO (by rw[bJ,lW J O U];omega)
  ·simp only[go_sem,h0,V,I,aQ k];exact⟨⟨k+1,E,rfl,aO (p:=fun u=>oT v u=false) O U J⟩,msr E⟩
 ·have F:=aV X F;subst F;rw[Xad]at J;simp only[go_sem];exact bO (by rw[bJ,kS J])
def gY(l s:List Visit):Bool:=s.all fun v=> !decide (bJ l v<0)
def ED(l s:List Visit)(Y:l.length<=1048576)(Z:s.length<=1048576):PC prog 324 [.sl (l.map aF),.sl (s.map aF)] (boo (gY l s)):=by
 refine pcd func324 rfl rfl ?_;simp only[go_sem];refine⟨fun ρ _=>∃k:Nat,k<=s.length/\ρ 0=.sl (l.map aF)/\ρ 1=.sl (s.map aF)/\ρ 5=int k/\∀u∈s.take k,decide (bJ l u<0)=false,fun ρ _=>s.length-aR (ρ 5),⟨0,Xaa _,rfl,rfl,rfl,by simp⟩,?_⟩;rintro ρ H ⟨k,V,h0,h1,J,O⟩;simp only[go_sem,h1,J];refine aA (fun E=>?_) (fun F=>?_)
 ·have E:=aT E;obtain⟨u,I⟩:=aK E;have X:=inB E;simp only[go_sem,h0,h1,J,aD I,X];refine aG (sM l u Y) ?_;simp only[go_sem];apply aA <;> intro U
  ·simp only[go_sem];refine bR ?_;unfold gY
   symm
   rw[List.all_eq_false];exact⟨u,Xac I,by rw[U];simp⟩
  ·simp only[go_sem,h0,h1,J,aQ k];exact⟨⟨k+1,E,rfl,aO (p:=fun u=>decide (bJ l u<0)=false) I U O⟩,msr E⟩
 ·have F:=aV V F;subst F;rw[Xad]at O;simp only[go_sem];refine bR ?_;unfold gY
  symm
  rw[Xaj];intro u I;rw[O u I];rfl
def cN(o:Order)(i:Int):List Visit:=(if(o.pick.place != -1)=true then[⟨i,false⟩]else[])++(if(o.drop.place != -1)=true then[⟨i,true⟩]else[])
def Oh(o:Order)(i:Int):(cN o i).length<=2:=by unfold cN;split <;> split <;> simp
def Jl(x:Instance)(i:Int)(o:Order)(hi:0<=i/\i<(x.orders.length:Int))(F:x.orders[i.toNat]?=some o):
  PC prog 283 [.agg (aC x),int i] (.sl ((cN o i).map aF)):=by
 have I:0<=i/\i<(x.orders.length:Int):=hi;refine pcb (fun t=>t == 5) func283 rfl rfl ?_;simp only[go_sem];refine aL fun j X=>?_
 simp only[go_sem,aD F,I];apply aA <;> intro h1
 ·simp only[go_sem];refine aZ (aB _ _ _) ⟨rfl,rfl⟩ ⟨rfl,trivial⟩ (by simp) (fun V O=>?_);simp only[go_sem,aD F,I];apply aA <;> intro E
  ·simp only[go_sem];refine aZ (aB _ _ _) ⟨rfl,rfl⟩ ⟨rfl,trivial⟩ (by simp) (fun U J=>?_);simp only[go_sem];have e:cN o i=[⟨i,false⟩,⟨i,true⟩]:=by unfold cN;rw[if_pos h1,if_pos E];rfl
   rw[e];exact .row _ _ _ (aB _ _ _) (ConvE.refl _)
  ·simp only[go_sem];have e:cN o i=[⟨i,false⟩]:=by unfold cN;rw[if_pos h1,if_neg (by rw[E];simp)];rfl
   rw[e];exact .row _ _ _ (aB _ _ _) (ConvE.refl _)
 ·simp only[go_sem,aD F,I];apply aA <;> intro E
  ·simp only[go_sem];refine aZ (aB _ _ _) ⟨rfl,rfl⟩ ⟨rfl,trivial⟩ (by simp) (fun U J=>?_);simp only[go_sem];have e:cN o i=[⟨i,true⟩]:=by unfold cN;rw[if_neg (by rw[h1];simp),if_pos E];rfl
   rw[e];exact .row _ _ _ (aB _ _ _) (ConvE.refl _)
  ·simp only[go_sem];have e:cN o i=[]:=by unfold cN;rw[if_neg (by rw[h1];simp),if_neg (by rw[E];simp)];rfl
   rw[e];exact .row _ _ _ (aB _ _ _) (ConvE.refl _)
def Cw(x:Instance)(s:Int):Bool:=x.apart.all fun q=> !(rG s q.a&&rG s q.b)
def abA(x:Instance)(s:Int)(hl:x.apart.length<=1048576):PC prog 357 [.agg (aC x),int s] (boo (Cw x s)):=by
 refine pcd func357 rfl rfl ?_;simp only[go_sem];refine⟨fun ρ _=>∃k:Nat,k<=x.apart.length/\ρ 1=int s/\ρ 2=.rp (aC x) 0/\ρ 5=int k/\∀q∈x.apart.take k,(rG s q.a&&rG s q.b)=false,fun ρ _=>x.apart.length-aR (ρ 5),⟨0,Xaa _,rfl,rfl,rfl,by simp⟩,?_⟩;rintro ρ H ⟨k,Z,h1,I,O,U⟩;simp only[go_sem,I,O];refine aA (fun E=>?_) (fun F=>?_)
 ·have E:=aT E;obtain⟨q,J⟩:=aK E;have V:=inB E;simp only[go_sem,h1,I,O,aD J,V];refine⟨by decide,PC.use (CI s q.a) ?_⟩;simp only[go_sem,h1,I,O,aD J,V];refine⟨fun _=>by decide,_,fun _=>(CI s q.b).q rfl,?_⟩;simp only[go_sem];apply aA <;> intro X
  ·simp only[go_sem];refine bR ?_;unfold Cw
   symm
   rw[List.all_eq_false];exact⟨q,Xac J,by rw[X];simp⟩
  ·simp only[go_sem,h1,I,O,aQ k];exact⟨⟨k+1,E,rfl,aO (p:=fun q:Pair=>(rG s q.a&&rG s q.b)=false) J X U⟩,msr E⟩
 ·have F:=aV Z F;subst F;rw[Xad]at U;simp only[go_sem];refine bR ?_;unfold Cw
  symm
  rw[Xaj];intro u Y;rw[U u Y];rfl
def oG(l vs:List Visit)(v:Visit):Bool:=decide (bJ vs v<0)|| !gY l vs||((vs.length:Int) == 2&&decide (bJ l (vs.getD 0 ⟨0,false⟩)>bJ l (vs.getD 1 ⟨0,false⟩)))
def CW(x:Instance)(i:Int):List Visit:=match x.orders[i.toNat]? with|some o=>cN o i|none=>[]
def zK(x:Instance)(l:List Visit):Bool:=l.all fun v=> !oG l (CW x v.order) v
def V5(x:Instance)(l:List Visit)(Y:l.length<=1048576)(hi:∀v∈l,0<=v.order/\v.order<(x.orders.length:Int)):PC prog 356 [.agg (aC x),.sl (l.map aF)] (boo (zK x l)):=by
 refine pcd func356 rfl rfl ?_;simp only[go_sem];refine⟨fun ρ _=>∃k:Nat,k<=l.length/\ρ 1=.sl (l.map aF)/\ρ 2=.rp (aC x) 0/\ρ 5=int k/\∀v∈l.take k,oG l (CW x v.order) v=false,fun ρ _=>l.length-aR (ρ 5),⟨0,Xaa _,rfl,rfl,rfl,by simp⟩,?_⟩;rintro ρ H ⟨k,hk,h1,h2,X,hz⟩;simp only[go_sem,h1,X];refine aA (fun E=>?_) (fun I=>?_)
 ·have E:=aT E;obtain⟨v,V⟩:=aK E;have b1:=inB E;have Z:=hi v (Xac V);obtain⟨o,ho⟩:=aK (show v.order.toNat<x.orders.length by omega);have ev:CW x v.order=cN o v.order:=by unfold CW;rw[ho]
  have O:=Oh o v.order;simp only[go_sem];refine lQ [(0,true),(1,true),(2,false),(3,false),(4,false),(5,false),(6,false),(7,false)] (by kernel_rfl) ?_;simp only[go_sem,h1,h2,X,aD V,b1];refine aG (Jl x v.order o Z ho) ?_;simp only[go_sem];rw[<-ev]at O |-;generalize U:CW x v.order=vs at O;refine lQ [(0,true),(1,true),(2,false),(3,false),(4,false),(5,false),(6,false),(7,false),(8,true),(9,false),(10,false),(11,false),(12,false),(13,false),(14,false),(15,false),(16,false),(17,false),(18,true),(19,true),(20,true),(21,true),(22,true),(23,true),(24,false),(25,false),(26,false),(27,false),(28,false),(29,false),(30,false)] (by kernel_rfl) ?_;simp only[go_sem,h1,X,aD V,b1];refine aG (sM vs v (by omega)) ?_;simp only[go_sem,h1,];refine⟨_,fun _=>(ED l vs Y (by omega)).q rfl,?_⟩;simp only[go_sem,h1,];have J:((vs.length:Int) == 2)=true->∃a b,vs=[a,b]:=fun h=>by
   have h:vs.length=2:=by simp at h;omega
   match vs,h with
   | [a,b],_=>exact⟨a,b,rfl⟩
  refine⟨fun F=>by obtain⟨a,b,rfl⟩:=J F.2;exact⟨by simp,rfl⟩,fun F=>by obtain⟨a,b,rfl⟩:=J F.2;exact Xaf _,int (bJ l (vs.getD 0 ⟨0,false⟩)),fun F=>by obtain⟨a,b,rfl⟩:=J F.2;exact(sM l a Y).q rfl,?_⟩;simp only[go_sem,h1,];refine⟨fun F=>by obtain⟨a,b,rfl⟩:=J F.2;exact⟨by simp,rfl⟩,fun F=>by obtain⟨a,b,rfl⟩:=J F.2;exact Xaf _,int (bJ l (vs.getD 1 ⟨0,false⟩)),fun F=>by obtain⟨a,b,rfl⟩:=J F.2;exact(sM l b Y).q rfl,?_⟩;simp only[go_sem];apply aA <;> intro hb
  ·simp only[go_sem];refine bR ?_;unfold zK
   symm
   rw[List.all_eq_false];refine⟨v,Xac V,?_⟩;rw[U,show oG l vs v=true from hb];simp
  ·simp only[go_sem,h1,h2,X,aQ k];exact⟨⟨k+1,E,rfl,aO (p:=fun v=>oG l (CW x v.order) v=false) V (by rw[U];exact hb) hz⟩,msr E⟩
 ·have I:=aV hk I;subst I;rw[Xad]at hz;simp only[go_sem];refine bR ?_;unfold zK
  symm
  rw[Xaj];intro u hu;rw[hz u hu];rfl
def dO(l:List Visit)(j:Nat):Int:=(l.getD j ⟨0,false⟩).order
def gO{l:List Visit}{j:Nat}{v:Visit}(h:l[j]?=some v):dO l j=v.order:=by simp[dO,List.getD,h]
def wR(l:List Visit)(a b:Int)(j k:Nat):Bool:=dO l j == a&&dO l k == b
def GN(l:List Visit)(a b:Int):Bool:=(List.range l.length).any fun j=>(List.range j).any fun k=>wR l a b j k
def A7(s:Int)(l:List Visit)(q:Pair):Bool:= !rG s q.b||(rG s q.a&& !GN l q.a q.b)
def vX(x:Instance)(s:Int)(l:List Visit):Bool:=x.before.all (A7 s l)
def EW{x:Instance}{s:Int}{l:List Visit}{q:Pair}(E:q∈x.before)(h:A7 s l q=false):vX x s l=false:=by unfold vX;rw[List.all_eq_false];exact⟨q,E,by rw[h];simp⟩
def TM(x:Instance)(s:Int)(l:List Visit)(hb:x.before.length<=1048576)(hl:l.length<=1048576):PC prog 358 [.agg (aC x),int s,.sl (l.map aF)] (boo (vX x s l)):=by
 refine pcd func358 rfl rfl ?_;simp only[go_sem];refine⟨fun ρ _=>∃i:Nat,i<=x.before.length/\ρ 1=int s/\ρ 2=.sl (l.map aF)/\ρ 3=.rp (aC x) 0/\ρ 7=int i/\∀q∈x.before.take i,A7 s l q=true,fun ρ _=>x.before.length-aR (ρ 7),⟨0,Xaa _,rfl,rfl,rfl,rfl,by simp⟩,?_⟩;rintro ρ H ⟨i,hi,h1,V,Y,X,hz⟩;simp only[go_sem,Y,X];refine aA (fun I=>?_) (fun Z=>?_)
 ·have I:=aT I;obtain⟨q,hq⟩:=aK I;have b1:=inB I;have ac:=Xac hq;simp only[go_sem,h1,Y,X,aD hq,b1];refine⟨by decide,?_⟩;refine⟨by decide,?_⟩;refine aG (CI s q.b) ?_;simp only[go_sem];apply aA <;> intro hn
  ·simp only[go_sem,h1,V,Y,X,aQ i];have ab:A7 s l q=true:=by unfold A7;rw[hn];rfl
   exact⟨⟨i+1,I,rfl,aO (p:=fun q=>A7 s l q=true) hq ab hz⟩,msr I⟩
  simp only[go_sem,h1,];refine aG (CI s q.a) ?_;simp only[go_sem];apply aA <;> intro hm
  ·simp only[go_sem];refine bR (EW ac ?_).symm;unfold A7;rw[hn,show rG s q.a=false by simpa using hm];rfl
  simp only[go_sem];refine⟨fun ρ _=>∃j:Nat,j<=l.length/\ρ 1=int s/\ρ 2=.sl (l.map aF)/\ρ 3=.rp (aC x) 0/\ρ 7=int i/\ρ 8=int q.a/\ρ 9=int q.b/\ρ 10=int j/\∀c∈(List.range l.length).take j,(List.range c).any (fun k=>wR l q.a q.b c k)=false,fun ρ _=>l.length-aR (ρ 10),⟨0,Xaa _,h1,V,Y,X,rfl,rfl,by simp only[go_sem];rfl,by simp⟩,?_⟩;rintro ρ H ⟨j,hj,h1,V,Y,X,h8,h9,J,hy⟩;simp only[go_sem,V,J];refine aA (fun E=>?_) (fun U=>?_)
  ·have E:=aT E;obtain⟨v,hv⟩:=aK E;have b2:=inB E;simp only[go_sem];refine⟨fun ρ _=>∃k:Nat,k<=j/\ρ 1=int s/\ρ 2=.sl (l.map aF)/\ρ 3=.rp (aC x) 0/\ρ 7=int i/\ρ 8=int q.a/\ρ 9=int q.b/\ρ 10=int j/\ρ 11=int k/\∀c∈(List.range j).take k,wR l q.a q.b j c=false,fun ρ _=>j-aR (ρ 11),⟨0,Xaa _,h1,V,Y,X,h8,h9,J,by simp only[go_sem];rfl,by simp⟩,?_⟩;rintro ρ H ⟨k,hk,h1,V,Y,X,h8,h9,J,aa,hw⟩;simp only[go_sem,J,aa];refine aA (fun F=>?_) (fun O=>?_)
   ·have F:k<j:=by simpa using F
    obtain⟨u,hu⟩:=aK (show k<l.length by omega);have b3:=inB (show k<l.length by omega);simp only[go_sem,V,h8,h9,J,aa,aD hv,aD hu,b2,b3];have hc:wR l q.a q.b j k=(v.order == q.a&&u.order == q.b):=by unfold wR;rw[gO hv,gO hu]
    rw[<-hc];apply aA <;> intro hb
    ·simp only[go_sem];refine bR (EW ac ?_).symm;have:GN l q.a q.b=true:=Xao.2 ⟨j,Xar.2 E,Xao.2 ⟨k,Xar.2 F,hb⟩⟩;unfold A7;rw[hn,this];simp
    ·simp only[go_sem,h1,V,Y,X,h8,h9,J,aa,aQ k];exact⟨⟨k+1,F,rfl,aO (p:=fun c=>wR l q.a q.b j c=false) (iA F) hb hw⟩,by simp only[aN];omega⟩
   ·have O:k=j:=by simp at O;omega
    subst O;simp only[go_sem,h1,V,Y,X,h8,h9,J,aQ k];refine⟨⟨k+1,E,rfl,aO (p:=fun c=>(List.range c).any (fun k=>wR l q.a q.b c k)=false) (iA E) ?_ hy⟩,by simp only[aN];omega⟩;rw[Xbb];intro c hc;rw[hw c (by rw[Xan (by simp)];exact hc)];simp
  ·have U:=aV hj U;subst U;simp only[go_sem,h1,V,Y,X,aQ i];have ad:GN l q.a q.b=false:=by unfold GN;rw[Xbb];intro c hc;rw[hy c (by rw[Xan (by simp)];exact hc)];simp
   have ab:A7 s l q=true:=by unfold A7;rw[ad,show rG s q.a=true by simpa using hm];simp
   exact⟨⟨i+1,I,rfl,aO (p:=fun q=>A7 s l q=true) hq ab hz⟩,msr I⟩
 ·have Z:=aV hi Z;subst Z;rw[Xad]at hz;simp only[go_sem];refine bR ?_;unfold vX
  symm
  rw[Xaj];exact hz
def wI(x:Instance)(i:Int):Bool:=match x.orders[i.toNat]? with|some o=>o.off|none=>false
def BS(l:List Visit)(i:Nat):Bool:=bJ l (l.getD i ⟨0,false⟩) != (i:Int)
def fK(x:Instance)(l:List Visit):Int:=
 if(l.any fun v=>cK v.order x.orders.length)=true then 2
 else if((cT l).2 != 0||(l.length:Int) == 0)=true then 2
 else if(l.any fun v=>wI x v.order)=true then 9
 else if((List.range l.length).any (BS l))=true then 6
 else if(!zK x l)=true then 19
 else if(!Cw x (cT l).1)=true then 20
 else if(!vX x (cT l).1 l)=true then 21 else 0
def qA{α:Type}{p:α->Bool}{l:List α}(h:∀x∈l,p x=false):l.any p=false:=by rw[Xbb];intro x E;rw[h x E];simp
def Lf(x:Instance)(r:Route)(hl:r.visits.length<=1048576)(ha:x.apart.length<=1048576)(U:x.before.length<=1048576):
  PC prog 325 [.agg (aC x),.agg (bT r)] (int (fK x r.visits)):=by
 refine pcd func325 rfl rfl ?_;simp only[go_sem];refine⟨fun ρ _=>∃k:Nat,k<=r.visits.length/\ρ 2=.rp (aC x) 0/\ρ 3=.rp (bT r) 0/\ρ 5=.sl (r.visits.map aF)/\ρ 6=int k/\∀v∈r.visits.take k,cK v.order x.orders.length=false,fun ρ _=>r.visits.length-aR (ρ 6),⟨0,Xaa _,rfl,rfl,rfl,rfl,by simp⟩,?_⟩;rintro ρ H ⟨k,hk,O,h3,I,h6,hz⟩;simp only[go_sem,I,h6];refine aA (fun E=>?_) (fun F=>?_)
 ·have E:=aT E;obtain⟨v,J⟩:=aK E;have b1:=inB E;simp only[go_sem];refine dR ?_;simp only[go_sem,O,I,h6,aD J,b1];apply aA <;> intro U
  ·simp only[go_sem];exact bO (by unfold fK;rw[if_pos (Xao.2 ⟨v,Xac J,U⟩)])
  ·simp only[go_sem,O,h3,I,h6,aQ k];exact⟨⟨k+1,E,rfl,aO (p:=fun v=>cK v.order x.orders.length=false) J (show cK v.order x.orders.length=false from U) hz⟩,msr E⟩
 have F:=aV hk F;subst F;rw[Xad]at hz;have Y:¬(r.visits.any fun v=>cK v.order x.orders.length)=true:=by rw[qA hz];simp
 have ab:∀v∈r.visits,0<=v.order/\v.order<(x.orders.length:Int):=fun v J=>by have:=hz v J;simp only[cK,Xag,decide_eq_false_iff_not]at this;omega
 simp only[go_sem,h3,AB];refine aG (I2 r hl) ?_;simp only[go_sem,I];apply aA <;> intro ae
 ·simp only[go_sem];exact bO (by unfold fK;rw[if_neg Y,if_pos ae])
 have c2:¬((cT r.visits).2 != 0||(r.visits.length:Int) == 0)=true:=by rw[ae];simp
 generalize hS:(cT r.visits).1=s;simp only[go_sem];refine⟨fun ρ _=>∃k:Nat,k<=r.visits.length/\ρ 2=.rp (aC x) 0/\ρ 5=.sl (r.visits.map aF)/\ρ 7=int s/\ρ 9=int k/\∀v∈r.visits.take k,wI x v.order=false,fun ρ _=>r.visits.length-aR (ρ 9),⟨0,Xaa _,O,I,rfl,by simp only[go_sem];rfl,by simp⟩,?_⟩;rintro ρ H ⟨k,hk,O,I,h7,h9,Z⟩;simp only[go_sem,I,h9];refine aA (fun E=>?_) (fun F=>?_)
 ·have E:=aT E;obtain⟨v,J⟩:=aK E;have b1:=inB E;have af:=ab v (Xac J);obtain⟨o,ho⟩:=aK (show v.order.toNat<x.orders.length by omega);have eo:wI x v.order=o.off:=by unfold wI;rw[ho]
  simp only[go_sem];refine dR ?_;simp only[go_sem,O,I,h9,aD J,b1,aD ho,af];apply aA <;> intro U
  ·simp only[go_sem];exact bO (by unfold fK;rw[if_neg Y,if_neg c2,if_pos (Xao.2 ⟨v,Xac J,eo.trans U⟩)])
  ·simp only[go_sem,O,I,h7,h9,aQ k];exact⟨⟨k+1,E,rfl,aO (p:=fun v=>wI x v.order=false) J (eo.trans U) Z⟩,msr E⟩
 have F:=aV hk F;subst F;rw[Xad]at Z;have c3:¬(r.visits.any fun v=>wI x v.order)=true:=by rw[qA Z];simp
 simp only[go_sem];refine⟨fun ρ _=>∃k:Nat,k<=r.visits.length/\ρ 2=.rp (aC x) 0/\ρ 5=.sl (r.visits.map aF)/\ρ 7=int s/\ρ 10=int k/\∀c∈(List.range r.visits.length).take k,BS r.visits c=false,fun ρ _=>r.visits.length-aR (ρ 10),⟨0,Xaa _,O,I,h7,by simp only[go_sem];rfl,by simp⟩,?_⟩;rintro ρ H ⟨k,hk,O,I,h7,X,ac⟩;simp only[go_sem,I,X];refine aA (fun E=>?_) (fun F=>?_)
 ·have E:=aT E;obtain⟨v,J⟩:=aK E;have b1:=inB E;have ed:BS r.visits k=(bJ r.visits v != (k:Int)):=by simp[BS,List.getD,J]
  simp only[go_sem,I,X,aD J,b1];refine aG (sM r.visits v hl) ?_;simp only[go_sem,X];apply aA <;> intro U
  ·simp only[go_sem];exact bO (by unfold fK;rw[if_neg Y,if_neg c2,if_neg c3,if_pos (Xao.2 ⟨k,Xar.2 E,ed.trans U⟩)])
  ·simp only[go_sem,O,I,h7,X,aQ k];exact⟨⟨k+1,E,rfl,aO (p:=fun c=>BS r.visits c=false) (iA E) (ed.trans U) ac⟩,msr E⟩
 have F:=aV hk F;subst F;have c4:¬((List.range r.visits.length).any (BS r.visits))=true:=by rw[qA fun c hc=>ac c (by rw[Xan (by simp)];exact hc)];simp
 simp only[go_sem,O,I];refine aG (V5 x r.visits hl ab) ?_;simp only[go_sem];apply aA <;> intro V
 ·simp only[go_sem];exact bO (by unfold fK;rw[if_neg Y,if_neg c2,if_neg c3,if_neg c4,if_pos V])
 simp only[go_sem,O,h7];refine aG (abA x s ha) ?_;simp only[go_sem];apply aA <;> intro aa
 ·simp only[go_sem];exact bO (by unfold fK;rw[if_neg Y,if_neg c2,if_neg c3,if_neg c4,if_neg (by rw[V];simp),if_pos (by rw[hS];exact aa)])
 simp only[go_sem,O,I,h7];refine aG (TM x s r.visits U hl) ?_;simp only[go_sem];apply aA <;> intro ad
 ·simp only[go_sem];exact bO (by unfold fK;rw[if_neg Y,if_neg c2,if_neg c3,if_neg c4,if_neg (by rw[V];simp),if_neg (by rw[hS,aa];simp),if_pos (by rw[hS];exact ad)])
 ·simp only[go_sem];exact bO (by unfold fK;rw[if_neg Y,if_neg c2,if_neg c3,if_neg c4,if_neg (by rw[V];simp),if_neg (by rw[hS,aa];simp),if_neg (by rw[hS,ad];simp)])
def iW(a c:List Int):Bool:=((a.length:Int) == (c.length:Int))&&(List.range a.length).all fun i=> !decide (a.getD i 0>c.getD i 0)
def aeZ(a c:List Int)(hl:a.length<=1048576):PC prog 360 [.sl (a.map bC),.sl (c.map bC)] (boo (iW a c)):=by
 refine pcd func360 rfl rfl ?_;simp only[go_sem];apply aA <;> intro I
 ·simp only[go_sem];refine bR ?_;have:((a.length:Int) == (c.length:Int))=false:=by simpa using I
  unfold iW;rw[this];rfl
 have he:a.length=c.length:=by simp at I;omega
 have hf:iW a c=(List.range a.length).all fun i=> !decide (a.getD i 0>c.getD i 0):=by unfold iW;rw[he];simp
 rw[hf];simp only[go_sem];refine⟨fun ρ _=>∃k:Nat,k<=a.length/\ρ 0=.sl (a.map bC)/\ρ 1=.sl (c.map bC)/\ρ 5=int k/\∀i∈(List.range a.length).take k,decide (a.getD i 0>c.getD i 0)=false,fun ρ _=>a.length-aR (ρ 5),⟨0,Xaa _,rfl,rfl,rfl,by simp⟩,?_⟩;rintro ρ H ⟨k,Y,h0,h1,J,V⟩;simp only[go_sem,h0,J];refine aA (fun E=>?_) (fun F=>?_)
 ·have E:=aT E;obtain⟨u,O⟩:=aK E;obtain⟨v,X⟩:=aK (show k<c.length by omega);have Z:=inB E;have b2:=inB (show k<c.length by omega);have U:decide (a.getD k 0>c.getD k 0)=decide (u>v):=by simp[List.getD,O,X]
  simp only[go_sem];refine dR ?_;simp only[go_sem,h0,h1,J,aD O,aD X,Z,b2];apply aA <;> intro I
  ·simp only[go_sem];refine bR ?_
   symm
   rw[List.all_eq_false];exact⟨k,Xar.2 E,by rw[U,I];simp⟩
  ·simp only[go_sem,h0,h1,J,aQ k];exact⟨⟨k+1,E,rfl,aO (p:=fun i=>decide (a.getD i 0>c.getD i 0)=false) (iA E) (U.trans I) V⟩,msr E⟩
 ·have F:=aV Y F;subst F;simp only[go_sem];refine bR ?_
  symm
  rw[Xaj];intro i hi;rw[V i (by rw[Xan (by simp)];exact hi)];rfl
def fT(x:Instance):Int:=match x.types[0]? with|some t=>t.cap.length|none=>0
def afY(x:Instance):PC prog 379 [.agg (aC x)] (int (fT x)):=by
 refine pcd func379 rfl rfl ?_;simp only[go_sem];apply aA <;> intro E
 ·simp only[go_sem];have:x.types=[]:=by cases h:x.types with|nil=>rfl|cons a l=>rw[h]at E;simp at E;omega
  exact bO (by unfold fT;rw[this];rfl)
 ·have F:0<x.types.length:=by simp at E;cases h:x.types with|nil=>exact absurd h E|cons a l=>simp
  obtain⟨t,I⟩:=aK F;simp only[go_sem,aD I];refine⟨⟨by decide,by omega⟩,?_⟩;exact bO (by unfold fT;rw[I])
def fJ(l:List Int):List AV:=[.sl (l.map bC)]
def jR(ll:List (List Int))(d:Int):Bool:= !(decide (d<0)||decide (d>3))&&ll.all fun l=> !((l.length:Int) != d)
def ID(ll:List (List Int))(d:Int)(V:ll.length<=1048576):PC prog 240 [.sl (ll.map fJ),int d] (boo (jR ll d)):=by
 refine pcd func240 rfl rfl ?_;simp only[go_sem];apply aA <;> intro I
 ·simp only[go_sem];exact bR (by unfold jR;rw[I];rfl)
 have Z:jR ll d=ll.all fun l=> !((l.length:Int) != d):=by unfold jR;rw[I];rfl
 rw[Z];simp only[go_sem];refine⟨fun ρ _=>∃k:Nat,k<=ll.length/\ρ 0=.sl (ll.map fJ)/\ρ 1=int d/\ρ 5=int k/\∀l∈ll.take k,((l.length:Int) != d)=false,fun ρ _=>ll.length-aR (ρ 5),⟨0,Xaa _,rfl,rfl,rfl,by simp⟩,?_⟩;rintro ρ H ⟨k,X,h0,h1,O,U⟩;simp only[go_sem,h0,O];refine aA (fun E=>?_) (fun F=>?_)
 ·have E:=aT E;obtain⟨u,J⟩:=aK E;have Y:=inB E;simp only[go_sem,h0,h1,O,aD J,Y,fJ];apply aA <;> intro I
  ·simp only[go_sem];refine bR ?_
   symm
   rw[List.all_eq_false];exact⟨u,Xac J,by rw[I];simp⟩
  ·simp only[go_sem,h0,h1,O,aQ k];exact⟨⟨k+1,E,rfl,aO (p:=fun l:List Int=>((l.length:Int) != d)=false) J I U⟩,msr E⟩
 ·have F:=aV X F;subst F;rw[Xad]at U;simp only[go_sem];refine bR ?_
  symm
  rw[Xaj];intro l V;rw[U l V];rfl
def lP(ll:List (List Int))(i:Nat):Int:=ll.foldl (fun s l=>IntKind.i64.wrap (s+l.getD i 0)) 0
def Aq{ll:List (List Int)}{k i:Nat}{l:List Int}(h:ll[k]?=some l):lP (ll.take (k+1)) i=IntKind.i64.wrap (lP (ll.take k) i+l.getD i 0):=by unfold lP;rw[bA h,Xbn];rfl
def wE(ll:List (List Int))(d:Int):List Int×Int:=if jR ll d=true then((List.range d.toNat).map (lP ll),0)else([],2)
def CE{ll:List (List Int)}{d:Int}(h:jR ll d=true):0<=d/\d<=3/\∀l∈ll,(l.length:Int)=d:=by simp only[jR,Xai,Xay,Xag,decide_eq_false_iff_not,Xaj]at h;refine⟨by omega,by omega,fun l E=>?_⟩;have:=h.2 l E;simpa using this
def apB(H0:aH)(K:AV->aH->Prop)(O:Nat)(ll:List (List Int))(d:Int)(hl:ll.length<=1048576)(V:H0 O=some (⟨89,1,ll.map fJ⟩:Row))
  (hK:jR ll d=false->K (.tup [.sl [],int 2]) H0)
  (ac:jR ll d=true->∀j H,H j=some (⟨3,1,((List.range d.toNat).map (lP ll)).map bC⟩:Row)->K (.tup [.os j,int 0]) H):
  bM prog 201 [.os O,int d] H0 K:=by
 refine bM.body (c:=f201.body.getD .skip) (fun t=>t == 6) mixed func201 rfl (by kernel_rfl) ?_;unfold f201;simp only[Xbo];simp only[go_sem];refine fB.use ⟨[.sl (ll.map fJ),int d],.cons _ _ _ _ (.row _ _ _ V (ConvE.refl _)) (ConvL.refl _),ID ll d hl,rfl⟩ ?_;simp only[go_sem];apply aA <;> intro hb
 ·simp only[go_sem];exact hK (by simpa using hb)
 have aa:jR ll d=true:=by simpa using hb
 obtain⟨d0,d3,hd⟩:=CE aa;simp only[go_sem];refine aL fun j X=>?_
 have I:O≠j:=bE V X;simp only[go_sem];refine⟨fun ρ H=>∃i:Nat,i<=d.toNat/\ρ 0=.os O/\ρ 1=int d/\ρ 7=int i/\H O=some (⟨89,1,ll.map fJ⟩:Row)/\∃j,O≠j/\ρ 6=.os j/\H j=some (⟨3,1,((List.range i).map (lP ll)).map bC⟩:Row),fun ρ _=>d.toNat-aR (ρ 7),⟨0,Xaa _,rfl,rfl,rfl,by rw[aJ _ _ _ _ I];exact V,j,I,rfl,aB _ _ _⟩,?_⟩;rintro ρ H ⟨i,hi,h0,h1,Y,R,j,I,Z,X⟩;simp only[go_sem,h1,Y];refine aA (fun J=>?_) (fun U=>?_)
 ·have J:i<d.toNat:=by simp at J;omega
  simp only[go_sem];refine⟨fun ρ H=>∃k:Nat,k<=ll.length/\ρ 0=.os O/\ρ 1=int d/\ρ 6=.os j/\ρ 7=int i/\ρ 8=int (lP (ll.take k) i)/\ρ 9=int k/\H O=some (⟨89,1,ll.map fJ⟩:Row)/\H j=some (⟨3,1,((List.range i).map (lP ll)).map bC⟩:Row),fun ρ _=>ll.length-aR (ρ 9),⟨0,Xaa _,h0,h1,Z,Y,by simp only[go_sem];rfl,by simp only[go_sem];rfl,R,X⟩,?_⟩;rintro ρ H ⟨k,hk,h0,h1,Z,Y,h8,h9,R,X⟩;simp only[go_sem,h0,h9,R];refine aA (fun E=>?_) (fun F=>?_)
  ·have E:k<ll.length:=by simpa using E
   obtain⟨u,hu⟩:=aK E;have b1:=inB E;have ae:=hd u (Xac hu);obtain⟨v,hv⟩:=aK (show i<u.length by omega);have b2:=inB (show i<u.length by omega);have ad:u.getD i 0=v:=by simp[List.getD,hv]
   simp only[go_sem,h0,h1,Z,Y,h8,h9,R,aD hu,b1,fJ,aD hv,b2,aQ k];refine⟨E,⟨k+1,E,by rw[Aq hu,ad],rfl,X⟩,by simp only[aN];omega⟩
  ·have F:k=ll.length:=by simp at F;omega
   subst F;rw[Xad]at h8;simp only[go_sem,Z,h8];refine aZ X ⟨rfl,rfl⟩ ⟨rfl,trivial⟩ (by simp;omega) (fun j' ab=>?_);simp only[go_sem,h0,h1,Y,aQ i];refine⟨⟨i+1,J,rfl,dK R I.symm ab,j',bE R ab,rfl,?_⟩,msr J⟩;rw[Xbi,Xal,Xal];exact aB _ _ _
 ·have U:i=d.toNat:=by simp at U;omega
  subst U;simp only[go_sem,Z];exact ac aa j H X
end Sq
namespace Sq
open Go.Proofs.Tryz
open Mv (bO bR aO)
open Mv (bO bR aO)
def onS(i n:Int)(s:Bool×Bool)(kv:Nat×Visit):Bool×Bool:=
 if(kv.2.order != i)=true then s else(if decide ((kv.1:Int)<n)=true then !kv.2.drop else s.1,true)
def asC(l:List Visit)(i n:Int)(b:Bool):Bool×Bool:=((List.range l.length).map fun k=>(k,l.getD k ⟨0,false⟩)).foldl (onS i n) (b,false)
def Dj(l:List Visit)(i n:Int)(b:Bool)(k:Nat):Bool×Bool:=((List.range k).map fun k=>(k,l.getD k ⟨0,false⟩)).foldl (onS i n) (b,false)
def Nk{l:List Visit}{i n:Int}{b:Bool}{k:Nat}{v:Visit}(h:l[k]?=some v):Dj l i n b (k+1)=onS i n (Dj l i n b k) (k,v):=by unfold Dj;rw[Xbi,Xal,Xbn];simp[List.getD,h]
def onB(l:List Visit)(n:Int)(i:Nat)(o:Order):Bool:=(asC l i n (decide (o.pick.place<0))).1&&(asC l i n (decide (o.pick.place<0))).2
def kK(os:List Order)(l:List Visit)(n:Int)(k:Nat):List (List Int):=(List.range k).flatMap fun i=>match os[i]? with|some o=>if onB l n i o=true then[o.load]else[]|none=>[]
def Ay{os:List Order}{l:List Visit}{n:Int}{k:Nat}{o:Order}(h:os[k]?=some o):kK os l n (k+1)=kK os l n k++(if onB l n k o=true then[o.load]else[]):=by unfold kK;rw[Xbi,Xcd];simp[h]
def Gb(os:List Order)(l:List Visit)(n:Int)(k:Nat):(kK os l n k).length<=k:=by
 induction k with
 | zero=>simp[kK]
 | succ k ih=>
  have:(kK os l n (k+1)).length<=(kK os l n k).length+1:=by
   unfold kK;rw[Xbi,Xcd,Xae];simp only[List.flatMap_cons,List.flatMap_nil,Xak];split
   ·split <;> simp
   ·simp
  omega
def nM(x:Instance)(l:List Visit)(n:Int):List Int×Int:=wE (kK x.orders l n x.orders.length) (fT x)
abbrev Lc(ll:List (List Int)):Row:=⟨89,1,ll.map fJ⟩
def Y3(x:Instance)(l:List Visit)(n:Int)(ho:x.orders.length<=1048576)(hl:l.length<=1048576):
  PC prog 376 [.agg (aC x),.sl (l.map aF),int n] (.tup [.sl ((nM x l n).1.map bC),int (nM x l n).2]):=by
 refine pcb (fun t=>t == 8) func376 rfl rfl ?_;simp only[go_sem];refine aL fun j U=>?_
 simp only[go_sem];refine⟨fun ρ H=>∃i:Nat,i<=x.orders.length/\ρ 1=.sl (l.map aF)/\ρ 2=int n/\ρ 3=.rp (aC x) 0/\ρ 9=int i/\∃j,ρ 8=.os j/\H j=some (Lc (kK x.orders l n i)),fun ρ _=>x.orders.length-aR (ρ 9),⟨0,Xaa _,rfl,rfl,rfl,rfl,j,rfl,aB _ _ _⟩,?_⟩;rintro ρ H ⟨i,hi,h1,X,J,O,j,Y,U⟩;simp only[go_sem,J,O];refine aA (fun aa=>?_) (fun ae=>?_)
 ·have aa:=aT aa;obtain⟨o,ad⟩:=aK aa;have b1:=inB aa;simp only[go_sem,J,O,aD ad,b1];refine⟨fun ρ H=>∃k:Nat,k<=l.length/\ρ 1=.sl (l.map aF)/\ρ 2=int n/\ρ 3=.rp (aC x) 0/\ρ 8=.os j/\ρ 9=int i/\ρ 10=boo (Dj l i n (decide (o.pick.place<0)) k).1/\ρ 11=boo (Dj l i n (decide (o.pick.place<0)) k).2/\ρ 12=int k/\H j=some (Lc (kK x.orders l n i)),fun ρ _=>l.length-aR (ρ 12),⟨0,Xaa _,h1,X,J,Y,O,by simp only[go_sem];rfl,by simp only[go_sem];rfl,by simp only[go_sem];rfl,U⟩,?_⟩;rintro ρ H ⟨k,hk,h1,X,J,Y,O,V,Z,F,U⟩;simp only[go_sem,h1,F];refine aA (fun I=>?_) (fun ab=>?_)
  ·have I:=aT I;obtain⟨v,hv⟩:=aK I;have b2:=inB I;have ac:=Nk (i:=i) (n:=n) (b:=decide (o.pick.place<0)) hv;simp only[go_sem,h1,O,F,aD hv,b2];apply aA <;> intro hb
   ·simp only[go_sem,h1,X,J,Y,O,V,Z,F,aQ k];have e:Dj l i n (decide (o.pick.place<0)) (k+1)=Dj l i n (decide (o.pick.place<0)) k:=by rw[ac];unfold onS;rw[if_pos hb]
    exact⟨⟨k+1,I,by rw[e],by rw[e],rfl,U⟩,by simp only[aN];omega⟩
   ·simp only[go_sem,X,F,];have e:Dj l i n (decide (o.pick.place<0)) (k+1)=(if decide ((k:Int)<n)=true then !v.drop else(Dj l i n (decide (o.pick.place<0)) k).1,true):=by rw[ac];unfold onS;rw[if_neg (by rw[hb];simp)]
    refine gP (fun E H'=>E 1=.sl (l.map aF)/\E 2=int n/\E 3=.rp (aC x) 0/\E 8=.os j/\E 9=int i/\E 10=boo (Dj l i n (decide (o.pick.place<0)) (k+1)).1/\E 11=boo (Dj l i n (decide (o.pick.place<0)) (k+1)).2/\E 12=int k/\H' j=some (Lc (kK x.orders l n i))) ?_ fun K hK _ _=>aA (fun af=>?_) (fun af=>?_)
    ·clear h1 X J Y O V Z F U;rintro ρ H ⟨h1,X,J,Y,O,V,Z,F,U⟩;simp only[go_sem,h1,X,J,Y,O,V,Z,F,aQ k];exact⟨⟨k+1,I,rfl,rfl,rfl,U⟩,by simp only[aN];omega⟩
    ·simp only[go_sem,h1,F,aD hv,b2];refine hK _ _ ⟨h1,X,J,Y,O,?_,?_,F,U⟩
     ·simp only[go_sem];rw[e,if_pos af]
     ·simp only[go_sem];rw[e]
    ·simp only[go_sem];refine hK _ _ ⟨h1,X,J,Y,O,?_,?_,F,U⟩
     ·simp only[go_sem,V];rw[e,if_neg (by rw[af];simp)]
     ·simp only[go_sem];rw[e]
  ·have ab:=aV hk ab;subst ab;have ai:onB l n i o=((Dj l i n (decide (o.pick.place<0)) l.length).1&&(Dj l i n (decide (o.pick.place<0)) l.length).2):=rfl;have ah:=Gb x.orders l n i;simp only[go_sem,V,Z];rw[<-ai];refine gP (fun E H'=>E 1=.sl (l.map aF)/\E 2=int n/\E 3=.rp (aC x) 0/\E 9=int i/\∃j,E 8=.os j/\H' j=some (Lc (kK x.orders l n (i+1)))) ?_ fun K hK _ _=>aA (fun hb=>?_) (fun hb=>?_)
   ·clear h1 X J Y O V Z U;rintro ρ H ⟨h1,X,J,O,j,Y,U⟩;simp only[go_sem,h1,X,J,O,Y,aQ i];exact⟨⟨i+1,aa,rfl,j,rfl,U⟩,msr aa⟩
   ·simp only[go_sem,J,Y,O,aD ad,b1];refine aZ U ⟨rfl,rfl⟩ ⟨rfl,trivial⟩ (by simp;omega) (fun j' ag=>?_);simp only[go_sem];refine hK _ _ ⟨h1,X,J,O,j',rfl,?_⟩;rw[Ay ad,if_pos hb,aB];simp[fJ]
   ·simp only[go_sem];refine hK _ _ ⟨h1,X,J,O,j,Y,?_⟩;rw[Ay ad,if_neg (by rw[hb];simp),Xak];exact U
 ·have ae:=aV hi ae;subst ae;have ah:=Gb x.orders l n x.orders.length;simp only[go_sem,J,Y];refine aG (afY x) ?_;simp only[go_sem];refine apB H _ j (kK x.orders l n x.orders.length) (fT x) (by omega) U (fun he=>?_) (fun he j' H' ag=>?_)
  ·simp only[go_sem];have:nM x l n=([],2):=by unfold nM wE;rw[if_neg (by rw[he];simp)]
   rw[this];exact .refl _
  ·simp only[go_sem];have:nM x l n=((List.range (fT x).toNat).map (lP (kK x.orders l n x.orders.length)),0):=by unfold nM wE;rw[if_pos he]
   rw[this];exact .tup _ _ (.cons _ _ _ _ (.row _ _ _ ag (ConvE.refl _)) (ConvL.refl _))
def Ac:List Int->Int
 | []=>0
 | e::r=>if(e != 0)=true then e else Ac r
def V4{l:List Int}{k:Nat}{e:Int}(h:∀e∈l.take k,(e != 0)=false)(E:l[k]?=some e)(I:(e != 0)=true):Ac l=e:=by
 induction l generalizing k with
 | nil=>simp at E
 | cons a r ih=>
  cases k with
  | zero=>simp at E;subst E;simp only[Ac];rw[if_pos I]
  | succ k=>have h0:=h a (by simp);simp only[Ac];rw[if_neg (by rw[h0];simp)];exact ih (k:=k) (fun e F=>h e (by simp[F])) (by simpa using E)
def F5{l:List Int}(h:∀e∈l,(e != 0)=false):Ac l=0:=by
 induction l with
 | nil=>rfl
 | cons a r ih=>simp only[Ac];rw[if_neg (by rw[h a (by simp)];simp)];exact ih fun e E=>h e (by simp[E])
def IP(x:Instance)(l:List Visit)(k:Nat):List (List Int):=(List.range k).map fun n:Nat=>(nM x l n).1
def OE(x:Instance)(l:List Visit):List Int:=(List.range (l.length+1)).map fun n:Nat=>(nM x l n).2
def Rg{x:Instance}{l:List Visit}{k:Nat}(h:k<=l.length):(OE x l)[k]?=some (nM x l k).2:=by
 have:k<l.length+1:=by omega
 simp[OE,this]
def kH(x:Instance)(l:List Visit):List (List Int)×Int:=
 if(fK x l != 0)=true then([],fK x l)else if(Ac (OE x l) != 0)=true then([],Ac (OE x l))else(IP x l (l.length+1),0)
def ZE(x:Instance)(r:Route)(ho:x.orders.length<=1048576)(hl:r.visits.length<=1048576)(ha:x.apart.length<=1048576)(hb:x.before.length<=1048576):
  PC prog 359 [.agg (aC x),.agg (bT r)] (.tup [.sl ((kH x r.visits).1.map fJ),int (kH x r.visits).2]):=by
 refine pcb (fun t=>t == 7) func359 rfl rfl ?_;simp only[go_sem];refine aG (Lf x r hl ha hb) ?_;simp only[go_sem];apply aA <;> intro U
 ·simp only[go_sem];have:kH x r.visits=([],fK x r.visits):=by unfold kH;rw[if_pos U]
  rw[this];exact .refl _
 simp only[go_sem];refine aL fun j J=>?_
 simp only[go_sem];refine⟨fun ρ H=>∃k:Nat,k<=r.visits.length+1/\ρ 2=.rp (aC x) 0/\ρ 3=.rp (bT r) 0/\ρ 8=int k/\(∀e∈(OE x r.visits).take k,(e != 0)=false)/\∃j,ρ 7=.os j/\H j=some (Lc (IP x r.visits k)),fun ρ _=>r.visits.length+1-aR (ρ 8),⟨0,Xaa _,rfl,rfl,rfl,by simp,j,rfl,aB _ _ _⟩,?_⟩;rintro ρ H ⟨k,hk,Y,X,V,I,j,Z,J⟩;simp only[go_sem,X,V];refine aA (fun E=>?_) (fun F=>?_)
 ·have E:k<=r.visits.length:=by simp at E;omega
  simp only[go_sem,Y,X,V];refine aG (Y3 x r.visits k ho hl) ?_;simp only[go_sem];apply aA <;> intro O
  ·simp only[go_sem];have e:=V4 I (Rg E) O;have:kH x r.visits=([],(nM x r.visits k).2):=by unfold kH;rw[if_neg (by rw[U];simp),e,if_pos O]
   rw[this];exact .refl _
  ·simp only[go_sem,Z];refine aZ J ⟨rfl,rfl⟩ ⟨rfl,trivial⟩ (by simp only[IP,Xab,Xbd,Xah,List.length_nil];omega) (fun j' aa=>?_);simp only[go_sem,Y,X,V,aQ k];refine⟨⟨k+1,by omega,rfl,?_,j',rfl,?_⟩,by simp only[aN];omega⟩
   ·exact aO (p:=fun e:Int=>(e != 0)=false) (Rg E) O I
   ·have:IP x r.visits (k+1)=IP x r.visits k++[(nM x r.visits k).1]:=by unfold IP;rw[Xbi,Xal];rfl
    rw[this];show _=some (⟨89,1,(IP x r.visits k++[(nM x r.visits k).1]).map fJ⟩:Row);rw[Xal];exact aB _ _ _
 ·have F:k=r.visits.length+1:=by simp at F;omega
  subst F;simp only[go_sem,Z];have e:=F5 (l:=OE x r.visits) (by rw[Xan (by simp[OE])]at I;exact I);have:kH x r.visits=(IP x r.visits (r.visits.length+1),0):=by unfold kH;rw[if_neg (by rw[U];simp),e];rfl
  rw[this];exact .tup _ _ (.cons _ _ _ _ (.row _ _ _ J (ConvE.refl _)) (ConvL.refl _))
def F9(x:Instance)(t:Int):List Int:=match x.types[t.toNat]? with|some t=>t.cap|none=>[]
def An(x:Instance)(r:Route):Int:=
 if cK r.type x.types.length=true then 2 else if((kH x r.visits).2 != 0)=true then(kH x r.visits).2
 else if((kH x r.visits).1.any fun l=> !iW l (F9 x r.type))=true then 17 else 0
def anV{ll:List (List Int)}{d:Int}:(wE ll d).1.length<=3:=by
 unfold wE;by_cases h:jR ll d=true
 ·rw[if_pos h];have:=CE h;simp;omega
 ·rw[if_neg h];simp
def Y8{x:Instance}{l:List Visit}:(kH x l).1.length<=l.length+1/\∀a∈(kH x l).1,a.length<=3:=by
 unfold kH;split
 ·simp
 ·split
  ·simp
  ·refine⟨by simp[IP],fun a E=>?_⟩;simp only[IP,Xbe,Xar]at E;obtain⟨n,_,rfl⟩:=E;exact anV
def aiE(x:Instance)(r:Route)(ho:x.orders.length<=1048576)(hl:r.visits.length<=1048576)(ha:x.apart.length<=1048576)(O:x.before.length<=1048576):
  PC prog 327 [.agg (aC x),.agg (bT r)] (int (An x r)):=by
 refine pcd func327 rfl rfl ?_;simp only[go_sem];apply aA <;> intro h1
 ·simp only[go_sem];exact bO (by unfold An;rw[if_pos (show cK r.type x.types.length=true from h1)])
 have V:0<=r.type/\r.type<(x.types.length:Int):=by simp only[Xag,decide_eq_false_iff_not]at h1;omega
 obtain⟨t,Z⟩:=aK (show r.type.toNat<x.types.length by omega);have ec:F9 x r.type=t.cap:=by unfold F9;rw[Z]
 simp only[go_sem];refine aG (ZE x r ho hl ha O) ?_;simp only[go_sem];apply aA <;> intro I
 ·simp only[go_sem];exact bO (by unfold An;rw[if_neg (by rw[show cK r.type x.types.length=false from h1];simp),if_pos I])
 have hf:An x r=if((kH x r.visits).1.any fun l=> !iW l t.cap)=true then 17 else 0:=by unfold An;rw[if_neg (by rw[show cK r.type x.types.length=false from h1];simp),if_neg (by rw[I];simp),ec]
 rw[hf];obtain⟨ln,la⟩:=Y8 (x:=x) (l:=r.visits);generalize (kH x r.visits).1=ll at ln la;simp only[go_sem];refine⟨fun ρ _=>∃k:Nat,k<=ll.length/\ρ 2=.rp (aC x) 0/\ρ 3=.rp (bT r) 0/\ρ 5=.sl (ll.map fJ)/\ρ 7=int k/\∀l∈ll.take k,(!iW l t.cap)=false,fun ρ _=>ll.length-aR (ρ 7),⟨0,Xaa _,rfl,rfl,rfl,rfl,by simp⟩,?_⟩;rintro ρ H ⟨k,hk,I,h3,X,U,Y⟩;simp only[go_sem,X,U];refine aA (fun E=>?_) (fun F=>?_)
 ·have E:=aT E;obtain⟨u,J⟩:=aK E;have b1:=inB E;have aa:=la u (Xac J);simp only[go_sem];refine dR ?_;simp only[go_sem,I,h3,X,U,aD J,b1,fJ,aD Z,V];refine⟨_,(aeZ u t.cap (by omega)).q rfl,?_⟩;simp only[go_sem];apply aA <;> intro O
  ·simp only[go_sem];exact bO (by rw[if_pos (Xao.2 ⟨u,Xac J,O⟩)])
  ·simp only[go_sem,I,h3,X,U,aQ k];exact⟨⟨k+1,E,rfl,aO (p:=fun l=>(!iW l t.cap)=false) J O Y⟩,msr E⟩
 ·have F:=aV hk F;subst F;rw[Xad]at Y;simp only[go_sem];exact bO (by rw[if_neg (by rw[qA Y];simp)])
def HC(n:Network)(i:Int):Bool:=decide (i>=0)&&decide (i<(n.places.length:Int))
def MU(n:Network)(i:Int):PC prog 384 [.agg (bD n),int i] (boo (HC n i)):=by refine pcd func384 rfl rfl ?_;simp only[go_sem];exact .refl _
def Ch:Arc:=⟨0,0,0,0,[],[]⟩
def Jb(p f t:Int)(a:Arc):Bool:=a.src == f&&a.dst == t&&a.profile == p
def pX(n:Network)(p f t:Int):Option Arc:=n.arcs.find? (Jb p f t)
def DQ{α:Type}{p:α->Bool}{l:List α}{k:Nat}{x:α}(h:∀y∈l.take k,p y=false)(E:l[k]?=some x)(F:p x=true):l.find? p=some x:=by
 induction l generalizing k with
 | nil=>simp at E
 | cons a r ih=>
  cases k with
  | zero=>simp at E;subst E;simp[List.find?,F]
  | succ k=>have h0:=h a (by simp);rw[List.find?_cons,h0];exact ih (k:=k) (fun y I=>h y (by simp[I])) (by simpa using E)
def Ce{α:Type}{p:α->Bool}{l:List α}(h:∀y∈l,p y=false):l.find? p=none:=List.find?_eq_none.2 fun y E=>by rw[h y E];simp
def acE(n:Network)(p f t:Int)(hl:n.arcs.length<=1048576):PC prog 385 [.agg (bD n),int p,int f,int t] (.tup [.agg (gD ((pX n p f t).getD Ch)),boo (pX n p f t).isSome]):=by
 refine pcd func385 rfl rfl ?_;simp only[go_sem];refine aL fun j X=>?_
 simp only[go_sem];refine⟨fun ρ H=>∃k:Nat,k<=n.arcs.length/\ρ 1=int p/\ρ 2=int f/\ρ 3=int t/\ρ 4=.rp (bD n) 0/\ρ 8=.op j 0 0/\ρ 10=int k/\H j=some ⟨88,6,[[int 0,int 0,int 0,int 0,.sl [],.sl []]]⟩/\∀a∈n.arcs.take k,Jb p f t a=false,fun ρ _=>n.arcs.length-aR (ρ 10),⟨0,Xaa _,rfl,rfl,rfl,rfl,rfl,rfl,aB _ _ _,by simp⟩,?_⟩;rintro ρ H ⟨k,hk,h1,h2,h3,Z,O,J,X,Y⟩;simp only[go_sem,Z,J];refine aA (fun E=>?_) (fun I=>?_)
 ·have E:=aT E;obtain⟨a,F⟩:=aK E;have b1:=inB E;simp only[go_sem,Z,J,aD F,b1];refine aL fun i hi=>?_
  have V:j≠i:=bE X hi;simp only[go_sem];refine aI (aB _ _ _) (by simp[jJ]) ?_;simp only[go_sem,h1,h2,h3,];generalize hG:aM (aM H i _) i _=HG;have U:HG j=some ⟨88,6,[[int 0,int 0,int 0,int 0,.sl [],.sl []]]⟩:=by rw[<-hG,aJ _ _ _ _ V,aJ _ _ _ _ V];exact X
  have aa:HG i=some ⟨88,6,[gD a]⟩:=by rw[<-hG,aB]
  apply aA <;> intro hb
  ·simp only[go_sem,O,aa];refine aI U (by simp[jJ]) ?_;simp only[go_sem,O,jJ];have:pX n p f t=some a:=DQ Y F hb;rw[this];exact .refl _
  ·simp only[go_sem,h1,h2,h3,Z,O,J,aQ k];exact⟨⟨k+1,E,rfl,U,aO (p:=fun a=>Jb p f t a=false) F hb Y⟩,msr E⟩
 ·have I:=aV hk I;subst I;rw[Xad]at Y;simp only[go_sem,O];refine aI X (by simp) ?_;simp only[go_sem,O];have:pX n p f t=none:=Ce Y;rw[this];exact .refl _
def W(n:Int):Int:=IntKind.i64.wrap n
def nK(l:List Point)(t:Int)(k:Nat):Bool:=decide ((eQ l k).t<=t)&&decide (t<(eQ l (k+1)).t)
def Kh(p q:Point)(t:Int):Int:=W (p.a+IntKind.i64.wrap (Int.tdiv (W (W (W (W (W (t-p.t)*W (q.a-p.a))+q.t)-p.t)-1)) (W (q.t-p.t))))
def AE(e:Point)(t:Int):Int:=W (W (t+e.a)-e.t)
def tV(l:List Point)(t:Int):Bool:=decide (((jT l).length:Int)>0)||decide (t<0)||decide (t>1073741824)
def gQ(l:List Point)(t:Int):Int:=
 if tV l t=true then 0 else match (List.range (l.length-1)).find? (nK l t)with
 | some k=>Kh (eQ l k) (eQ l (k+1)) t
 | none=>if decide (t>(eQ l 0).t)=true then AE (eQ l (l.length-1)) t else AE (eQ l 0) t
def anC(n:Int):Prop:= -9223372036854775808<=n/\n<=9223372036854775807
def Yb{n:Int}(h:0<n/\n<18446744073709551616):¬IntKind.i64.wrap n=0:=by
 show ¬(if(true&&decide (n%18446744073709551616>=9223372036854775808))=true then n%18446744073709551616-18446744073709551616 else n%18446744073709551616)=0;by_cases h1:n%18446744073709551616>=9223372036854775808
 ·rw[if_pos (by simpa using h1)];omega
 ·rw[if_neg (by simpa using h1)];omega
def UQ(l:List Point)(t:Int)(hl:l.length<=1048576)(hp:∀p∈l,anC p.t):PC prog 387 [.sl (l.map cC),int t] (int (gQ l t)):=by
 refine pcd func387 rfl rfl ?_;simp only[go_sem];refine aG (Na l hl) ?_;simp only[go_sem];apply aA <;> intro V
 ·simp only[go_sem];exact bO (by unfold gQ;rw[if_pos (show tV l t=true by simpa[tV]using V)])
 have I:tV l t=false:=by simpa[tV]using V
 have ae:0<l.length:=by
  simp only[tV,Xag,decide_eq_false_iff_not]at I;have h0:jT l=[]:=Xcz (by omega);simp only[jT,Xbr]at h0;have h1:=h0.1;cases Z:DB l.length 1 16 with
  | true=>rw[Z]at h1;simp[opt]at h1
  | false=>simp only[DB,Xag,decide_eq_false_iff_not]at Z;omega
 have ht:0<=t/\t<=1073741824:=by simp only[tV,Xag,decide_eq_false_iff_not]at I;omega
 have aa:gQ l t=match (List.range (l.length-1)).find? (nK l t)with
  | some k=>Kh (eQ l k) (eQ l (k+1)) t
  | none=>if decide (t>(eQ l 0).t)=true then AE (eQ l (l.length-1)) t else AE (eQ l 0) t:=by
  unfold gQ;rw[if_neg (by rw[I];simp)]
 rw[aa];simp only[go_sem];refine⟨fun ρ _=>∃k:Nat,k<=l.length-1/\ρ 0=.sl (l.map cC)/\ρ 1=int t/\ρ 5=int k/\∀c∈(List.range (l.length-1)).take k,nK l t c=false,fun ρ _=>l.length-1-aR (ρ 5),⟨0,Xaa _,rfl,rfl,rfl,by simp⟩,?_⟩;rintro ρ H ⟨k,hk,h0,h1,h5,hz⟩;simp only[go_sem,h0,h5,aQ k];refine aA (fun J=>?_) (fun U=>?_)
 ·have J:k<l.length-1:=by simp at J;omega
  obtain⟨p,E⟩:=aK (show k<l.length by omega);obtain⟨q,F⟩:=aK (show k+1<l.length by omega);have b1:=inB (show k<l.length by omega);have b2:=inB (show k+1<l.length by omega);have pb:=hp p (Xac E);have qb:=hp q (Xac F);have es:nK l t k=(decide (p.t<=t)&&decide (t<q.t)):=by unfold nK;rw[dX E,dX F]
  simp only[go_sem,h0,h5,aD E,b1];refine aL fun i1 af=>?_
  simp only[go_sem];refine aI (aB _ _ _) (by simp[fX]) ?_;simp only[go_sem,h0,h5,aD F,b2,aQ k];generalize X:aM (aM H i1 _) i1 _=H1;have O:H1 i1=some ⟨85,2,[cC p]⟩:=by rw[<-X,aB]
  refine aL fun i2 ad=>?_
  have ab:i1≠i2:=bE O ad;simp only[go_sem];refine aI (aB _ _ _) (by simp[fX]) ?_;generalize X:aM (aM H1 i2 _) i2 _=H2;have R2:H2 i2=some ⟨85,2,[cC q]⟩:=by rw[<-X,aB];rfl
  have O:H2 i1=some ⟨85,2,[cC p]⟩:=by rw[<-X,aJ _ _ _ _ ab,aJ _ _ _ _ ab];exact O
  simp only[go_sem,h1,O,R2];rw[<-es];apply aA <;> intro hs
  ·have Y:=hs;rw[es]at Y;simp only[Xai,decide_eq_true_eq]at Y;simp only[go_sem];refine dR ?_;simp only[go_sem,h1,O,R2];have hf:(List.range (l.length-1)).find? (nK l t)=some k:=DQ hz (iA J) hs;rw[hf];simp only;rw[dX E,dX F];unfold anC at pb qb;exact⟨Yb (by omega),.refl _⟩
  ·simp only[go_sem,h0,h1,h5,aQ k];exact⟨⟨k+1,by omega,rfl,aO (p:=fun c=>nK l t c=false) (iA J) hs hz⟩,msr J⟩
 ·have U:k=l.length-1:=by simp at U;omega
  subst U;have hf:(List.range (l.length-1)).find? (nK l t)=none:=Ce fun c hc=>hz c (by rw[Xan (by simp)];exact hc)
  rw[hf];obtain⟨p,E⟩:=aK ae;obtain⟨q,F⟩:=aK (show l.length-1<l.length by omega);have e0:=dX E;have e1:=dX F;have wl:IntKind.i64.wrap ((l.length:Int)-1)=((l.length-1:Nat):Int):=by rw[aW (by omega)];omega
  simp only[go_sem,h0,aD E];refine⟨⟨by decide,by omega⟩,?_⟩;refine aL fun i hi=>?_
  simp only[go_sem];refine aI (aB _ _ _) (by simp[fX]) ?_;generalize X:aM (aM H i _) i _=H1;have O:H1 i=some ⟨85,2,[cC p]⟩:=by rw[<-X,aB];rfl
  simp only[go_sem,h1,O];rw[e0];refine gP (fun ac H'=>ac 1=int t/\ac 8=.op i 0 0/\H' i=some ⟨85,2,[cC (if decide (t>p.t)=true then q else p)]⟩) ?_ fun K hK _ _=>aA (fun V=>?_) (fun V=>?_)
  ·clear h0 h1 h5 O;rintro ρ H ⟨h1,h8,R⟩;simp only[go_sem,h1,h8,R];rw[e1];refine bO ?_;cases decide (t>p.t) <;> rfl
  ·simp only[go_sem,h0,wl,aD F];refine⟨⟨by omega,by omega⟩,?_⟩;refine aI O (by simp[fX]) ?_;simp only[go_sem];refine hK _ _ ⟨h1,rfl,?_⟩;rw[aB,if_pos V];rfl
  ·simp only[go_sem];refine hK _ _ ⟨h1,rfl,?_⟩;rw[if_neg (by rw[V];simp)];exact O
end Sq
namespace Sq
open Go.Proofs.Tryz
open Mv (bO bR aO)
def pJ(t:Int)(s:Int)(p:Point):Int:=if decide (p.t<=t)=true then W (s+p.a)else s
def tS(a:Arc)(t:Int):Int:=a.slow.foldl (pJ t) (gQ a.travel t)
structure ArcB(a:Arc):Prop where
 travel:a.travel.length<=1048576
 slow:a.slow.length<=1048576
 time:∀p∈a.travel,anC p.t
def Vf(a:Arc)(t:Int)(V:ArcB a):PC prog 386 [.agg (gD a),int t] (int (tS a t)):=by
 have aa:=V.slow;refine pcd func386 rfl rfl ?_;simp only[go_sem];refine aG (UQ a.travel t V.travel V.time) ?_;simp only[go_sem];refine⟨fun ρ _=>∃k:Nat,k<=a.slow.length/\ρ 1=int t/\ρ 2=.rp (gD a) 0/\ρ 5=int ((a.slow.take k).foldl (pJ t) (gQ a.travel t))/\ρ 6=int k,fun ρ _=>a.slow.length-aR (ρ 6),⟨0,Xaa _,rfl,rfl,rfl,rfl⟩,?_⟩;rintro ρ H ⟨k,hk,h1,I,U,J⟩;simp only[go_sem,I,J];refine aA (fun E=>?_) (fun O=>?_)
 ·have E:=aT E;obtain⟨p,Y⟩:=aK E;have Z:=inB E;have hs:(a.slow.take (k+1)).foldl (pJ t) (gQ a.travel t)=pJ t ((a.slow.take k).foldl (pJ t) (gQ a.travel t)) p:=by rw[bA Y,Xbn];rfl
  simp only[go_sem,h1,I,J,aD Y,Z];refine gP (fun F _=>F 1=int t/\F 2=.rp (gD a) 0/\F 5=int ((a.slow.take (k+1)).foldl (pJ t) (gQ a.travel t))/\F 6=int k) ?_ fun K hK _ _=>aA (fun X=>?_) (fun X=>?_)
  ·clear h1 I U J;rintro ρ H ⟨h1,I,U,J⟩;simp only[go_sem,h1,I,U,J,aQ k];exact⟨⟨k+1,E,rfl,rfl⟩,msr E⟩
  ·simp only[go_sem,I,U,J,aD Y,Z];refine hK _ _ ⟨h1,I,?_,J⟩;simp only[go_sem];rw[hs,pJ,if_pos X];rfl
  ·simp only[go_sem];refine hK _ _ ⟨h1,I,?_,J⟩;simp only[go_sem,U];rw[hs,pJ,if_neg (by rw[X];simp)]
 ·have O:=aV hk O;subst O;simp only[go_sem,U];rw[Xad];exact .refl _
structure NetB(n:Network):Prop where
 arcs:n.arcs.length<=1048576
 arc:∀a∈n.arcs,ArcB a
def fP(n:Network)(p f t time:Int):Int×Int×Int:=
 if(!HC n f|| !HC n t)=true then(0,0,11)else if(f == t)=true then(time,0,0)
 else match pX n p f t with|some a=>(tS a time,a.miles,0)|none=>(0,0,12)
def atW(n:Network)(p f t time:Int)(I:NetB n):PC prog 383 [.agg (bD n),int p,int f,int t,int time] (.tup [int (fP n p f t time).1,int (fP n p f t time).2.1,int (fP n p f t time).2.2]):=by
 refine pcd func383 rfl rfl ?_;simp only[go_sem];refine aG (MU n f) ?_;simp only[go_sem];refine⟨_,fun _=>(MU n t).q rfl,?_⟩;simp only[go_sem];apply aA <;> intro h1
 ·simp only[go_sem];have:fP n p f t time=(0,0,11):=by unfold fP;rw[if_pos h1]
  rw[this];exact .refl _
 simp only[go_sem];apply aA <;> intro F
 ·simp only[go_sem];have:fP n p f t time=(time,0,0):=by unfold fP;rw[if_neg (by rw[h1];simp),if_pos F]
  rw[this];exact .refl _
 have J:fP n p f t time=match pX n p f t with|some a=>(tS a time,a.miles,0)|none=>(0,0,12):=by unfold fP;rw[if_neg (by rw[h1];simp),if_neg (by rw[F];simp)]
 rw[J];simp only[go_sem];refine aG (acE n p f t I.arcs) ?_;simp only[go_sem];refine aL fun j V=>?_
 simp only[go_sem];refine aI (aB _ _ _) (by simp[jJ]) ?_;simp only[go_sem,jJ];cases U:pX n p f t with
 | none=>refine aA (fun _=>?_) (fun E=>by simp at E);simp only[go_sem];exact .refl _
 | some a=>have O:ArcB a:=I.arc a (List.mem_of_find?_eq_some U);refine aA (fun E=>by simp at E) (fun _=>?_);simp only[go_sem,Xbo];refine dR ?_;simp only[go_sem];refine⟨_,(Vf a time O).q rfl,?_⟩;simp only[go_sem];exact .refl _
def apY(x:Instance)(p f t time:Int)(E:NetB x.net):PC prog 382 [.agg (aC x),int p,int f,int t,int time] (.tup [int (fP x.net p f t time).1,int (fP x.net p f t time).2.1,boo ((fP x.net p f t time).2.2 == 0)]):=by refine pcd func382 rfl rfl ?_;simp only[go_sem];refine aG (atW x.net p f t time E) ?_;simp only[go_sem];exact .refl _
structure Score where
 cost:Int
 moved:Int
 other:Int
 work:Int
def cH(s:Score):List AV:=[int s.cost,int s.moved,int s.other,int s.work]
def nU(l:List Visit)(n:Nat):Bool:=(List.range n).all fun i=> !(dO l i == dO l n)
def Vq(l:List Visit)(n:Nat)(hl:l.length<=1048576)(V:n<l.length):PC prog 364 [.sl (l.map aF),int n] (boo (nU l n)):=by
 obtain⟨u,J⟩:=aK V;have Z:=inB V;refine pcd func364 rfl rfl ?_;simp only[go_sem];refine⟨fun ρ _=>∃k:Nat,k<=n/\ρ 0=.sl (l.map aF)/\ρ 1=int n/\ρ 5=int k/\∀i∈(List.range n).take k,(dO l i == dO l n)=false,fun ρ _=>n-aR (ρ 5),⟨0,Xaa _,rfl,rfl,rfl,by simp⟩,?_⟩;rintro ρ H ⟨k,hk,h0,h1,I,U⟩;simp only[go_sem,h1,I];refine aA (fun E=>?_) (fun F=>?_)
 ·have E:k<n:=by simpa using E
  obtain⟨v,X⟩:=aK (show k<l.length by omega);have Y:=inB (show k<l.length by omega);have e:(dO l k == dO l n)=(v.order == u.order):=by rw[gO X,gO J]
  simp only[go_sem];refine dR ?_;simp only[go_sem,h0,h1,I,aD X,aD J,Y,Z];rw[<-e];apply aA <;> intro O
  ·simp only[go_sem];refine bR ?_
   symm
   unfold nU;rw[List.all_eq_false];exact⟨k,Xar.2 E,by rw[O];simp⟩
  ·simp only[go_sem,h0,h1,I,aQ k];exact⟨⟨k+1,E,rfl,aO (p:=fun i=>(dO l i == dO l n)=false) (iA E) O U⟩,msr E⟩
 ·have F:k=n:=by simp at F;omega
  subst F;simp only[go_sem];refine bR ?_
  symm
  unfold nU;rw[Xaj];intro i hi;rw[U i (by rw[Xan (by simp)];exact hi)];rfl
def Ae(c s:Int)(i:Nat):Bool:=(IntKind.i64.wrap (Int.tdiv s (2^i:Nat))).tmod 2 == 1&&(IntKind.i64.wrap (Int.tdiv c (2^i:Nat))).tmod 2 == 0
def rZ(c s:Int):Bool:= !(decide (c<0)||decide (s<0))&&(List.range 63).all fun i=> !Ae c s i
def ajK(t:VType)(s:Int):PC prog 326 [.agg (bF t),int s] (boo (rZ t.skills s)):=by
 refine pcd func326 rfl rfl ?_;simp only[go_sem];apply aA <;> intro h1
 ·simp only[go_sem];exact bR (by unfold rZ;rw[h1];rfl)
 have ha:rZ t.skills s=(List.range 63).all fun i=> !Ae t.skills s i:=by unfold rZ;rw[h1];rfl
 rw[ha];simp only[go_sem];refine⟨fun ρ _=>∃k:Nat,k<=63/\ρ 1=int s/\ρ 2=.rp (bF t) 0/\ρ 5=int (IntKind.i64.wrap (2^k:Nat))/\∀i∈(List.range 63).take k,Ae t.skills s i=false,fun ρ _=>if aR (ρ 5)=0 then 0 else 9223372036854775809-aR (ρ 5),⟨0,Xaa _,rfl,rfl,rfl,by simp⟩,?_⟩;rintro ρ H ⟨k,hk,h1,h2,F,hz⟩;by_cases O:k=63
 ·subst O;have Y:IntKind.i64.wrap ((2^63:Nat):Int)= -9223372036854775808:=by decide +kernel
  rw[Y]at F;simp only[go_sem,F];refine aA (fun E=>by simp at E) (fun _=>?_);simp only[go_sem];refine bR ?_
  symm
  rw[Xaj];intro i hi;rw[hz i (by rw[Xan (by simp)];exact hi)];rfl
 ·have U:k<63:=by omega
  have hp:2^k<=2^62:=Xau (by decide) (by omega);have aa:0<2^k:=Nat.two_pow_pos k;have Y:IntKind.i64.wrap ((2^k:Nat):Int)=((2^k:Nat):Int):=aW (by omega);have ab:((2^k:Nat):Int)*2=((2^(k+1):Nat):Int):=by rw[Xbk];push_cast;rfl
  rw[Y]at F;simp only[go_sem,F];have J:decide (((2^k:Nat):Int)>0)=true:=decide_eq_true (by exact_mod_cast aa);have I:¬(((2^k:Nat):Int)=0):=fun h=>absurd (by exact_mod_cast h:2^k=0) (by omega)
  refine aA (fun _=>?_) (fun E=>by rw[J]at E;cases E);simp only[go_sem,h1,h2,F];refine⟨I,by decide,fun _=>I,fun _=>by decide,?_⟩;apply aA <;> intro E
  ·simp only[go_sem];refine bR ?_
   symm
   rw[List.all_eq_false];exact⟨k,Xar.2 U,by rw[show Ae t.skills s k=true from E];simp⟩
  ·simp only[go_sem,h1,h2,F,ab];refine⟨⟨k+1,by omega,rfl,aO (p:=fun i=>Ae t.skills s i=false) (iA U) E hz⟩,?_⟩;have Z:aR (int ((2^k:Nat):Int))=2^k:=aN.trans (Xaq _);have V:(if aR (int ((2^k:Nat):Int))=0 then 0 else 9223372036854775809-aR (int ((2^k:Nat):Int)))=9223372036854775809-2^k:=by rw[Z,if_neg (by omega)]
   rw[V];by_cases e:k=62
   ·subst e;have:aR (AV.v (Value.int IntKind.i64 (IntKind.i64.wrap ((2^(62+1):Nat):Int))))=0:=by decide +kernel
    rw[this];simp
   ·have ac:2^(k+1)<=2^62:=Xau (by decide) (by omega);have X:IntKind.i64.wrap ((2^(k+1):Nat):Int)=((2^(k+1):Nat):Int):=aW (by omega);have ad:aR (int ((2^(k+1):Nat):Int))=2^(k+1):=aN.trans (Xaq _);rw[X,ad];rw[if_neg (by have:=Nat.two_pow_pos (k+1);omega),Xbk];rw[Xbk]at ac;omega
def cQ:Score:=⟨0,0,0,0⟩
def kZ:Stop:=⟨0,0,0,0⟩
def oQ(o:Order)(v:Visit):Stop:=if v.drop=true then o.drop else o.pick
def bI(x:Instance)(v:Visit):Stop×Bool:=if cK v.order x.orders.length=true then(kZ,false)else
 match x.orders[v.order.toNat]? with
 | some o=>(oQ o v,decide ((oQ o v).place>=0))
 | none=>(kZ,false)
def QL(x:Instance)(v:Visit):PC prog 377 [.agg (aC x),.agg (aF v)] (.tup [.agg (eN (bI x v).1),boo (bI x v).2]):=by
 refine pcd func377 rfl rfl ?_;simp only[go_sem];refine aL fun j hj=>?_
 have R:=aB bQ j (some (⟨91,4,[[int 0,int 0,int 0,int 0]]⟩:Row));generalize aM bQ j _=H0 at R |-;simp only[go_sem];apply aA <;> intro h1
 ·have e:bI x v=(kZ,false):=if_pos h1;rw[e];simp only[go_sem];refine aI R (by simp) ?_;simp only[go_sem];exact .refl _
 have I:0<=v.order/\v.order<(x.orders.length:Int):=by simp only[Xag,decide_eq_false_iff_not]at h1;omega
 obtain⟨o,U⟩:=aK (show v.order.toNat<x.orders.length by omega);have e:bI x v=(oQ o v,decide ((oQ o v).place>=0)):=by unfold bI;rw[if_neg (by rw[show cK v.order x.orders.length=false from h1];simp),U]
 rw[e];simp only[go_sem,aD U,I];refine aL fun i hi=>?_
 have E:j≠i:=bE R hi;simp only[go_sem];refine aI (aB _ _ _) (by simp[iB]) ?_;generalize V:aM (aM H0 i _) i _=H1;have F:H1 i=some ⟨91,4,[eN o.pick]⟩:=by rw[<-V,aB];rfl
 have R:H1 j=some ⟨91,4,[[int 0,int 0,int 0,int 0]]⟩:=by rw[<-V,aJ _ _ _ _ E,aJ _ _ _ _ E];exact R
 simp only[go_sem];refine bK (fun J H'=>J 4=.op j 0 0/\J 6=.op i 0 0/\H' j=some ⟨91,4,[[int 0,int 0,int 0,int 0]]⟩/\H' i=some ⟨91,4,[eN (oQ o v)]⟩) ?_ fun K Y=>aA (fun O=>?_) (fun O=>?_)
 ·clear R F;rintro ρ H ⟨X,h6,R,F⟩;simp only[go_sem];refine gU [i] [(0,true),(1,true),(2,true),(3,true),(4,false),(5,false)] (by simp[F]) (by kernel_rfl) fun Hp Z hp hr _ _=>?_
  have Rp:Hp i=some ⟨91,4,[eN (oQ o v)]⟩:=by rw[hp i (by simp)];exact F
  have Rr:Z j=some ⟨91,4,[[int 0,int 0,int 0,int 0]]⟩:=by rw[hr j (by simpa using E)];exact R
  simp only[go_sem,X,h6,Rp];refine aI Rr (by simp[iB]) ?_;simp only[go_sem];refine jK fun _ Hm _ hm=>?_
  have Rm:Hm j=some ⟨91,4,[eN (oQ o v)]⟩:=by rw[hm j (by simpa using E),aB]
  simp only[go_sem,X,Rm];exact .refl _
 ·simp only[go_sem,aD U,I];refine aI F (by simp[iB]) ?_;simp only[go_sem];refine Y _ _ ⟨rfl,rfl,by rw[aJ _ _ _ _ E];exact R,?_⟩;rw[aB,oQ,if_pos O];rfl
 ·simp only[go_sem];refine Y _ _ ⟨rfl,rfl,R,?_⟩;rw[oQ,if_neg (by rw[O];simp)];exact F
def bW(x:Instance)(r:Route):Bool:=
 !(cK r.type x.types.length||decide (r.start<0)||decide (r.start>4096)||decide ((r.visits.length:Int)>20))&&r.visits.all fun v=>(bI x v).2
def Ee(x:Instance)(r:Route)(hr:r.visits.length<=1048576):PC prog 361 [.agg (aC x),.agg (bT r)] (boo (bW x r)):=by
 refine pcd func361 rfl rfl ?_;simp only[go_sem];apply aA <;> intro h1
 ·simp only[go_sem];refine bR ?_;unfold bW;rw[show(cK r.type x.types.length||decide (r.start<0)||decide (r.start>4096)||decide ((r.visits.length:Int)>20))=true from h1];rfl
 have ha:bW x r=r.visits.all fun v=>(bI x v).2:=by unfold bW;rw[show(cK r.type x.types.length||decide (r.start<0)||decide (r.start>4096)||decide ((r.visits.length:Int)>20))=false from h1];rfl
 rw[ha];simp only[go_sem];refine⟨fun ρ _=>∃k:Nat,k<=r.visits.length/\ρ 2=.rp (aC x) 0/\ρ 3=.rp (bT r) 0/\ρ 5=int k/\∀v∈r.visits.take k,(bI x v).2=true,fun ρ _=>r.visits.length-aR (ρ 5),⟨0,Xaa _,rfl,rfl,rfl,by simp⟩,?_⟩;rintro ρ H ⟨k,Y,U,O,J,X⟩;simp only[go_sem,O,J];refine aA (fun E=>?_) (fun F=>?_)
 ·have E:=aT E;obtain⟨v,I⟩:=aK E;have Z:=inB E;simp only[go_sem];refine lQ [(0,true),(1,true),(2,true),(3,true),(4,true),(5,true),(6,true),(7,true),(8,true),(9,true),(10,false),(11,false),(12,false)] (by kernel_rfl) ?_;simp only[go_sem,U,O,J,aD I,Z,dJ];refine⟨_,(QL x v).q rfl,?_⟩;simp only[go_sem];refine aL fun j hj=>?_
  simp only[go_sem];refine aI (aB _ _ _) (by simp[iB]) ?_;simp only[go_sem];apply aA <;> intro V
  ·simp only[go_sem];refine bR ?_
   symm
   rw[List.all_eq_false];exact⟨v,Xac I,by simpa using V⟩
  ·simp only[go_sem,U,O,J,aQ k];exact⟨⟨k+1,E,rfl,aO (p:=fun v=>(bI x v).2=true) I (by simpa using V) X⟩,msr E⟩
 ·have F:=aV Y F;subst F;simp only[go_sem];refine bR ?_
  symm
  rw[Xaj];intro v I;exact X v (by rw[Xad];exact I)
structure St8 where
 place:Int
 time:Int
 driven:Int
 miles:Int
def lZ(s:St8):List AV:=[int s.place,int s.time,int s.driven,int s.miles]
def Ut(s:St8):(lZ s).length=4:=(rfl)
def ahN(s:St8):(lZ s).getD 0 .any=int s.place:=(rfl)
def acZ(s:St8):(lZ s).getD 1 .any=int s.time:=(rfl)
def akP(s:St8):(lZ s).getD 2 .any=int s.driven:=(rfl)
def ajS(s:St8):(lZ s).getD 3 .any=int s.miles:=(rfl)
def Vg(s:St8):(lZ s).take 4=lZ s:=(rfl)
attribute [go_sem] ahN acZ akP ajS Vg
def lF(t:VType)(s:St8)(yes:Bool):St8:=if yes=true then⟨s.place,W (s.time+t.rest),0,s.miles⟩else s
def Rk(t:VType)(s:St8)(yes:Bool):PC prog 380 [.agg (bF t),.agg (lZ s),boo yes] (.agg (lZ (lF t s yes))):=by
 simp only[lZ];refine pcb (fun t=>t == 4) func380 rfl rfl ?_;simp only[go_sem];refine aL fun j X=>?_
 have R:=aB bQ j (some (⟨389,4,[[int s.place,int s.time,int s.driven,int s.miles]]⟩:Row));generalize aM bQ j _=H0 at R |-;simp only[go_sem];refine aL fun i hi=>?_
 have E:j≠i:=bE R hi;have F:=aB H0 i (some (⟨389,4,[[int 0,int 0,int 0,int 0]]⟩:Row));have R:aM H0 i (some (⟨389,4,[[int 0,int 0,int 0,int 0]]⟩:Row)) j=_:=(aJ _ _ _ _ E).trans R;generalize Y:aM H0 i _=H1 at R F |-;simp only[go_sem];refine bK (fun I H'=>I 4=.op j 0 0/\I 6=.op i 0 0/\H' j=some ⟨389,4,[lZ (lF t s yes)]⟩/\H' i=some ⟨389,4,[[int 0,int 0,int 0,int 0]]⟩) ?_ fun K U=>aA (fun J=>?_) (fun J=>?_)
 ·clear R F;rintro ρ H ⟨V,O,R,F⟩;simp only[go_sem,V,O,R];refine aI F (by simp[lZ]) ?_;simp only[go_sem,O];exact .refl _
 ·simp only[go_sem,R];refine dS so3 R ⟨by simp,rfl,by simp⟩ ?_;simp only[go_sem];refine dS so3 (aB _ _ _) ⟨by simp,rfl,by simp⟩ ?_;simp only[go_sem];refine U _ _ ⟨rfl,rfl,?_,by rw[aJ _ _ _ _ E.symm,aJ _ _ _ _ E.symm];exact F⟩;rw[aB,lF,if_pos J];rfl
 ·simp only[go_sem];refine U _ _ ⟨rfl,rfl,?_,F⟩;rw[lF,if_neg (by rw[J];simp)];exact R
def gL(x:Instance)(t:VType)(s:St8)(to close late:Int):St8×Int:=
 if(!((fP x.net t.profile s.place to s.time).2.2 == 0))=true then(s,12)
 else if(fP x.net t.profile s.place to s.time).1>close then(s,late)
 else if W (W (s.driven+(fP x.net t.profile s.place to s.time).1)-s.time)>t.drive then(s,16)
 else(⟨to,(fP x.net t.profile s.place to s.time).1,W (W (s.driven+(fP x.net t.profile s.place to s.time).1)-s.time),W (s.miles+(fP x.net t.profile s.place to s.time).2.1)⟩,0)
def PA(x:Instance)(t:VType)(s:St8)(to close E:Int)(X:NetB x.net):PC prog 381 [.agg (aC x),.agg (bF t),.agg (lZ s),int to,int close,int E] (.tup [.agg (lZ (gL x t s to close E).1),int (gL x t s to close E).2]):=by
 simp only[lZ];refine pcd func381 rfl rfl ?_;simp only[go_sem];refine aL fun j Y=>?_
 have R:=aB bQ j (some (⟨389,4,[[int 0,int 0,int 0,int 0]]⟩:Row));generalize aM bQ j _=H0 at R |-;simp only[go_sem];refine aG (apY x t.profile s.place to s.time X) ?_;simp only[go_sem];generalize I:fP x.net t.profile s.place to s.time=g;apply aA <;> intro h1
 ·simp only[go_sem];refine aI R (by simp) ?_;simp only[go_sem];rw[show gL x t s to close E=(s,12)by unfold gL;rw[I,if_pos h1]];exact .refl _
 simp only[go_sem];apply aA <;> intro J
 ·simp only[go_sem];refine aI R (by simp) ?_;simp only[go_sem];rw[show gL x t s to close E=(s,E)by unfold gL;rw[I,if_neg (by rw[h1];simp),if_pos (of_decide_eq_true J)]];exact .refl _
 simp only[go_sem];refine aL fun i hi=>?_
 have F:j≠i:=bE R hi;simp only[go_sem];refine aI (aB _ _ _) (by simp) ?_;generalize U:aM (aM H0 i _) i _=H1;have O:H1 i=some ⟨389,4,[[int to,int g.1,int (W (W (s.driven+g.1)-s.time)),int (W (s.miles+g.2.1))]]⟩:=by rw[<-U,aB];rfl
 have R:H1 j=some ⟨389,4,[[int 0,int 0,int 0,int 0]]⟩:=by rw[<-U,aJ _ _ _ _ F,aJ _ _ _ _ F];exact R
 simp only[go_sem,O];apply aA <;> intro V
 ·simp only[go_sem];refine aI R (by simp) ?_;simp only[go_sem];rw[show gL x t s to close E=(s,16)by unfold gL;rw[I,if_neg (by rw[h1];simp),if_neg (of_decide_eq_false J),if_pos (of_decide_eq_true V)]];exact .refl _
 ·simp only[go_sem,O];refine aI R (by simp) ?_;simp only[go_sem];rw[show gL x t s to close E=(⟨to,g.1,W (W (s.driven+g.1)-s.time),W (s.miles+g.2.1)⟩,0)by unfold gL;rw[I,if_neg (by rw[h1];simp),if_neg (of_decide_eq_false J),if_neg (of_decide_eq_false V)]];exact .refl _
structure Tm where
 arrive:Int
 begin_:Int
 depart:Int
 rest:Bool
def rT(t:Tm):List AV:=[int t.arrive,int t.begin_,int t.depart,boo t.rest]
def Zc(s:Tm):(rT s).length=4:=(rfl)
def aaO(s:Tm):(rT s).take 4=rT s:=(rfl)
attribute [go_sem] Zc aaO
structure Sheet where
 rest:Bool
 depart:Int
 times:List Tm
 end_:Int
 miles:Int
def bP(s:Sheet):List AV:=[boo s.rest,int s.depart,.sl (s.times.map rT),int s.end_,int s.miles]
def aX:Sheet:=⟨false,0,[],0,0⟩
abbrev VJ:=St8×List Int×List Tm
def jV(x:Instance)(t:VType)(a:VJ)(v:Visit):St8×Int:=gL x t a.1 (bI x v).1.place (bI x v).1.close 14
def D5(s:Stop)(n:St8):St8:=⟨n.place,W (eV n.time s.start+s.service),n.driven,n.miles⟩
def mF(x:Instance)(t:VType)(a:VJ)(p:Visit×Bool):VJ:=
 (lF t (D5 (bI x p.1).1 (jV x t a p.1).1) p.2,a.2.1++[(jV x t a p.1).1.driven],
   a.2.2++[⟨(jV x t a p.1).1.time,eV (jV x t a p.1).1.time (bI x p.1).1.start,(lF t (D5 (bI x p.1).1 (jV x t a p.1).1) p.2).time,p.2⟩])
def kX(x:Instance)(t:VType)(a:VJ)(p:Visit×Bool):Except Int VJ:=
 if((jV x t a p.1).2 != 0)=true then .error (jV x t a p.1).2 else .ok (mF x t a p)
def oJ(r:Route)(t:VType)(b:Bool):St8:=lF t ⟨t.src,eV t.start r.start,0,0⟩ b
def qB(x:Instance)(t:VType)(b:Bool)(s0:St8)(a:VJ):Sheet×List Int×Int:=
 if((gL x t a.1 t.dst t.close 15).2 != 0)=true then(aX,[],(gL x t a.1 t.dst t.close 15).2)
 else(⟨b,s0.time,a.2.2,(gL x t a.1 t.dst t.close 15).1.time,(gL x t a.1 t.dst t.close 15).1.miles⟩,a.2.1++[(gL x t a.1 t.dst t.close 15).1.driven],0)
def NZ(x:Instance)(r:Route)(rests:List Bool)(t:VType)(b:Bool):Sheet×List Int×Int:=
 match (r.visits.zip rests.tail).foldlM (kX x t) (oJ r t b,[],[])with
 | .error e=>(aX,[],e)
 | .ok a=>qB x t b (oJ r t b) a
def fF(x:Instance)(r:Route)(rests:List Bool):Sheet×List Int×Int:=
 if(!bW x r||((rests.length:Int) != ((r.visits.length+1:Nat):Int)))=true then(aX,[],2)
 else match x.types[r.type.toNat]? with
 | some t=>NZ x r rests t (rests.getD 0 false)
 | none=>(aX,[],2)
def sX{x:Instance}{r:Route}(h:bW x r=true):0<=r.type/\r.type<(x.types.length:Int):=by unfold bW at h;simp only[Xai,Xay,Xag,cK,decide_eq_false_iff_not]at h;omega
def QQ{α E:Type}{f:E->α->Except Int E}{l:List α}{k:Nat}{x:α}{s b:E}(F:l[k]?=some x)(h:(l.take k).foldlM f s=.ok b):(l.take (k+1)).foldlM f s=f b x:=by rw[bA F,List.foldlM_append,h];show(do let s' <-(Except.ok b:Except Int E);[x].foldlM f s')=_;simp only[List.foldlM_cons,List.foldlM_nil];show(f b x >>= fun s'=>pure s')=_;cases f b x <;> rfl
def Ug{α E:Type}{f:E->α->Except Int E}{l:List α}{k:Nat}{s:E}{e:Int}(h:(l.take k).foldlM f s=.error e):l.foldlM f s=.error e:=by
 conv=>lhs;rw[<-Xcs k l]
 rw[List.foldlM_append,h];rfl
def rR{H:aH}{i j:Nat}{r:Row}{a b:Option Row}(hi:H i=some r)(E:H j=none):aM (aM H j a) j b i=some r:=by have h1:=bE hi E;rw[aJ _ _ _ _ h1,aJ _ _ _ _ h1,hi]
def pO{H:aH}{i j:Nat}{r:Row}{b:Option Row}(hi:H i=some r)(h1:i≠j):aM H j b i=some r:=by rw[aJ _ _ _ _ h1,hi]
def dQ{H:aH}{i j:Nat}{r r':Row}(hi:H i=some r)(E:H j=some r')(h:(r.e == r'.e)=false):i≠j:=fun e=>by subst e;rw[hi]at E;injection E with E;rw[E]at h;simp at h
def apG{H:aH}{i j k:Nat}{r a:Row}{b c:Option Row}(hi:H i=some r)(E:H j=none)(F:aM H j (some a) k=none):aM (aM (aM H j (some a)) k b) j c i=some r:=by have h1:=bE hi E;have I:=bE (eY (r':=a) hi E) F;rw[aJ _ _ _ _ h1,aJ _ _ _ _ I,aJ _ _ _ _ h1,hi]
def NX{l:List Nat}{H J H' E:aH}(U:∀k,k∉l->J k=H k)(I:∀k,k∈l->E k=H k)(F:∀k,k∉l->E k=H' k)(O:∀k row,J k=some row->H' k=some row):∀k row,H k=some row->E k=some row:=fun k row h=>by
 by_cases e:k∈l
 ·rw[I k e];exact h
 ·rw[F k e];exact O k row ((U k e).trans h)
def Hq{l:List Nat}{H':aH}{j:Nat}{r:Row}(F:∀k,k∈l->H' k=none)(h:H' j=some r):j∉l:=fun E=>by rw[F j E]at h;cases h
abbrev M2(s:St8):Row:=⟨389,4,[lZ s]⟩
abbrev Au(s:Stop):Row:=⟨91,4,[eN s]⟩
abbrev yX(l:List Tm):Row:=⟨375,4,l.map rT⟩
abbrev pA(l:List Int):Row:=⟨3,1,l.map bC⟩
def alE{α E:Type}:∀{l:List α} {m:List E} {k:Nat} {a:α} {b:E},l[k]?=some a->m[k]?=some b->(l.zip m)[k]?=some (a,b):=by intro l m k a b h1 F;rw[List.getElem?_zip_eq_some];exact⟨h1,F⟩
def apV{H:aH}{b:Bool}{d e m c:Int}{F I:Nat}{E:List Tm}{dr:List Int}(J:H F=some (yX E))(Rd:H I=some (pA dr)):
  Conv H (.tup [.agg [boo b,int d,.os F,int e,int m],.os I,int c]) (.tup [.agg (bP ⟨b,d,E,e,m⟩),.sl (dr.map bC),int c]):=
 .tup _ _ (.cons _ _ _ _ (.agg _ _ (.cons _ _ _ _ (.refl _) (.cons _ _ _ _ (.refl _) (.cons _ _ _ _ (.row _ _ _ J (ConvE.refl _)) (ConvL.refl _)))))
  (.cons _ _ _ _ (.row _ _ _ Rd (ConvE.refl _)) (ConvL.refl _)))
def IQ{H:aH}{c:Int}{E:Nat}(Rd:H E=some ⟨3,1,[]⟩):
  Conv H (.tup [.agg [boo false,int 0,.sl [],int 0,int 0],.os E,int c]) (.tup [.agg (bP aX),.sl [],int c]):=
 .tup _ _ (.cons _ _ _ _ (.refl _) (.cons _ _ _ _ (.row _ _ _ Rd .nil) (ConvL.refl _)))
abbrev dE(cs:List AV):Row:=⟨257,5,[cs]⟩
abbrev zeroCells:List AV:=[boo false,int 0,.sl [],int 0,int 0]
def apU(x:Instance)(r:Route)(rests:List Bool)(hn:NetB x.net)(hr:r.visits.length<=1048576):PC prog 378 [.agg (aC x),.agg (bT r),.sl (rests.map dI)] (.tup [.agg (bP (fF x r rests).1),.sl ((fF x r rests).2.1.map bC),int (fF x r rests).2.2]):=by
 refine pcb (fun t=>t == 7||t == 12||t == 59) func378 rfl rfl ?_;simp only[go_sem];refine aL fun j6 X=>?_
 have J:=aB bQ j6 (some (dE zeroCells));generalize aM bQ j6 _=H0 at J |-;simp only[go_sem];refine aL fun j7 X=>?_
 have R7:=aB H0 j7 (some (⟨3,1,[]⟩:Row));have J:=eY (r':=(⟨3,1,[]⟩:Row)) J X;generalize aM H0 j7 _=H1 at J R7 |-;simp only[go_sem];refine aG (Ee x r hr) ?_;simp only[go_sem,mS (show r.visits.length<=4611686018427387904 by omega)];apply aA <;> intro h1
 . simp only[go_sem];refine aI J (by simp) ?_;simp only[go_sem];refine aL fun j7 X=>?_
   simp only[go_sem];rw[show fF x r rests=(aX,[],2)by unfold fF;rw[if_pos h1]];have n1:=bE (aB _ _ _) X;simp only[aJ _ _ _ _ n1];simp only[go_sem];exact IQ (aB _ _ _)
 have hp:bW x r=true:=by simp only[Xag,Xbq]at h1;exact h1.1
 have ba:rests.length=r.visits.length+1:=by simp only[Xag,bne_eq_false_iff_eq]at h1;have:=h1.2;omega
 have be:=sX hp;obtain⟨t,ht⟩:=aK (show r.type.toNat<x.types.length by omega);obtain⟨b,hb⟩:=aK (show 0<rests.length by omega);have b0:0<=(0:Int)/\(0:Int)<(rests.length:Int):=by omega
 have eR:fF x r rests=NZ x r rests t b:=by unfold fF;rw[if_neg (by rw[h1];simp),ht];show NZ x r rests t (rests.getD 0 false)=_;rw[show rests.getD 0 false=b by rw[List.getD_eq_getElem?_getD,hb];rfl]
 rw[eR];simp only[go_sem,aD ht,be];refine aL fun j9 X=>?_
 simp only[go_sem];refine aI (aB _ _ _) (by simp[iP]) ?_;generalize Y:aM (aM H1 j9 _) j9 _=H2;have U:H2 j9=some (lB t):=by rw[<-Y,aB];rfl
 have J:H2 j6=some (dE zeroCells):=by rw[<-Y];exact rR J X
 have R7:H2 j7=some ⟨3,1,[]⟩:=by rw[<-Y];exact rR R7 X
 simp only[go_sem];refine gU [j9] [(0,true),(1,true),(2,true),(3,true),(4,true),(5,true),(6,true),(7,true),(8,true),(9,true),(10,true),(11,true),(12,true),(13,false),(14,false)] (by simp[U]) (by kernel_rfl) fun Hp Hr hp hr _ a5=>?_
 have Rp:Hp j9=_:=(hp j9 (by simp)).trans U;simp only[go_sem,Rp,aD hb,b0];refine⟨_,(Rk t ⟨t.src,eV t.start r.start,0,0⟩ b).q rfl,?_⟩;simp only[go_sem];refine aL fun ae X=>?_
 simp only[go_sem];refine aI (aB _ _ _) (by simp[lZ]) ?_;simp only[go_sem];refine jK fun hd Hm ag ad=>?_
 have E:=NX hr ag ad fun k row h=>rR h X
 have F:=(ad ae (Hq hd (aB _ _ _))).trans (aB _ _ _);have F:Hm ae=some (M2 (oJ r t b)):=F;have J:=E _ _ J;have R7:=E _ _ R7;have U:=E _ _ U;simp only[go_sem];refine gU [ae] [(0,true),(1,true),(2,true),(3,true),(4,true),(5,true),(6,false),(7,false)] (by simp[F]) (by kernel_rfl) fun Hp Hr hp hr _ a5=>?_
 have Rp:Hp ae=_:=(hp ae (by simp)).trans F;simp only[go_sem,Rp,aD hb,b0];refine aL fun Z X=>?_
 simp only[go_sem];refine Nf 2 375 4 ⟨rfl,by decide⟩ (aB _ _ _) (by simp) fun jt av=>?_
 simp only[go_sem];refine jK fun hd Hm ag ad=>?_
 have aq:∀c,aM (aM (aM Hr Z (some (dE zeroCells))) jt (some (⟨375,4,[]⟩:Row))) Z c jt=some (⟨375,4,[]⟩:Row):=fun c=>by rw[aJ _ _ _ _ (bE (aB _ _ _) av).symm,aB]
 have E:=NX hr ag ad fun k row h=>apG h X av
 have I:Hm Z=some (dE [boo b,int (oJ r t b).time,.os jt,int 0,int 0]):=(ad Z (Hq hd (aB _ _ _))).trans (aB _ _ _);have O:Hm jt=some (yX []):=(ad jt (Hq hd (aq _))).trans (aq _);have bf:=E _ _ J;have ax:j6≠Z:=by have:Hr j6=some (dE zeroCells):=(hr j6 (by simpa using dQ J F rfl)).trans J;exact bE this X
 have J:=bf;have R7:=E _ _ R7;have U:=E _ _ U;have F:=E _ _ F;simp only[go_sem];refine aL fun jd X=>?_
 have Rd:=aB Hm jd (some (⟨3,1,[]⟩:Row));have J:=eY (r':=(⟨3,1,[]⟩:Row)) J X;have R7:=eY (r':=(⟨3,1,[]⟩:Row)) R7 X;have U:=eY (r':=(⟨3,1,[]⟩:Row)) U X;have F:=eY (r':=(⟨3,1,[]⟩:Row)) F X;have I:=eY (r':=(⟨3,1,[]⟩:Row)) I X;have O:=eY (r':=(⟨3,1,[]⟩:Row)) O X;generalize aM Hm jd _=Hl at J R7 U F I O Rd |-;simp only[go_sem];refine ⟨fun ρ H => ∃ (k : Nat) (a : VJ) (jt jd : Nat), k <= r.visits.length /\ ((r.visits.zip rests.tail).take k).foldlM (kX x t) (oJ r t b, [], []) = .ok a /\ a.2.1.length = k /\ a.2.2.length = k /\
     ρ 2=.sl (rests.map dI)/\ρ 3=.rp (aC x) 0/\ρ 4=.rp (bT r) 0/\ρ 6=.op j6 0 0/\ρ 9=.op j9 0 0/\ρ 10=.op ae 0 0/\ρ 11=.op Z 0 0/\ρ 12=.os jd/\ρ 13=int k /\
     H j6=some (dE zeroCells)/\H j9=some (lB t)/\H ae=some (M2 a.1)/\H Z=some (dE [boo b,int (oJ r t b).time,.os jt,int 0,int 0])/\H jt=some (yX a.2.2)/\H jd=some (pA a.2.1),
   fun ρ _=>r.visits.length-aR (ρ 13),⟨0,(oJ r t b,[],[]),jt,jd,Xaa _,rfl,rfl,rfl,rfl,rfl,rfl,rfl,rfl,rfl,rfl,rfl,rfl,J,U,F,I,O,Rd⟩,?_⟩
 rintro ρ H ⟨k,a,jt,jd,hk,hf,bh,bg,h2,h3,h4,h6,h9,al,ah,bb,ap,J,U,F,I,O,Rd⟩;simp only[go_sem,h4,ap];refine aA (fun aj=>?_) (fun az=>?_)
 . have aj:=aT aj;obtain⟨v,hv⟩:=aK aj;obtain⟨c,hc⟩:=aK (show k+1<rests.length by omega);have b1:=inB aj;have b2:=inB (show k+1<rests.length by omega);have hz:(r.visits.zip rests.tail)[k]?=some (v,c):=alE hv (by rw[List.getElem?_tail];exact hc);have au:=QQ hz hf;simp only[go_sem];refine lQ [(0,true),(1,true),(2,true),(3,true),(4,true),(5,true),(6,true),(7,true),(8,true),(9,true),(10,false),(11,false),(12,false)] (by kernel_rfl) ?_;simp only[go_sem,h3,h4,ap,aD hv,b1,dJ];refine⟨_,(QL x v).q rfl,?_⟩;simp only[go_sem];refine aL fun ao X=>?_
   simp only[go_sem];refine aI (aB _ _ _) (by simp[iB]) ?_;generalize Y:aM (aM H ao _) ao _=H3;have ab:H3 ao=some (Au (bI x v).1):=by rw[<-Y,aB];rfl
   have E:∀i row,H i=some row->H3 i=some row:=fun i row h=>by rw[<-Y];exact rR h X
   have J:=E _ _ J;have U:=E _ _ U;have F:=E _ _ F;have I:=E _ _ I;have O:=E _ _ O;have Rd:=E _ _ Rd;simp only[go_sem,h3,h9,al,U,F,ab];refine aG (PA x t a.1 (bI x v).1.place (bI x v).1.close 14 hn) ?_;simp only[go_sem];refine aL fun ac X=>?_
   simp only[go_sem];refine aI (aB _ _ _) (by simp[lZ]) ?_;generalize Y:aM (aM H3 ac _) ac _=H4;have am:=bE F X;have V:H4 ac=some (M2 (jV x t a v).1):=by rw[<-Y,aB];rfl
   have E:∀i row,H3 i=some row->H4 i=some row:=fun i row h=>by rw[<-Y];exact rR h X
   have J:=E _ _ J;have U:=E _ _ U;have F:=E _ _ F;have I:=E _ _ I;have O:=E _ _ O;have Rd:=E _ _ Rd;have ab:=E _ _ ab;simp only[go_sem];apply aA <;> intro he
   . simp only[go_sem,h6];refine aI J (by simp) ?_;simp only[go_sem];refine aL fun j7 X=>?_
     simp only[go_sem];have n1:=bE (aB _ _ _) X;have e:NZ x r rests t b=(aX,[],(jV x t a v).2):=by unfold NZ;rw[Ug (au.trans (if_pos he))]
     rw[e];simp only[go_sem,h6,aJ _ _ _ _ n1];exact IQ (aB _ _ _)
   have au:((r.visits.zip rests.tail).take (k+1)).foldlM (kX x t) (oJ r t b,[],[])=.ok (mF x t a (v,c)):=au.trans (if_neg (by rw[show((jV x t a v).2 != 0)=false from he];simp));simp only[go_sem,bb,V];refine aZ Rd ⟨rfl,rfl⟩ (by simp[dL]) (by simp;omega) fun ai ay=>?_
   generalize Y:aM (aM H4 jd none) ai _=H5;have aw:H5 ai=some (pA (mF x t a (v,c)).2.1):=by rw[<-Y,aB];simp[mF,bC]
   have E:∀i row,i≠jd->H4 i=some row->H5 i=some row:=fun i row hi h=>by rw[<-Y];exact dK h hi.symm ay
   have J:=E _ _ (dQ J Rd rfl) J;have U:=E _ _ (dQ U Rd rfl) U;have F:=E _ _ (dQ F Rd rfl) F;have I:=E _ _ (dQ I Rd rfl) I;have O:=E _ _ (dQ O Rd rfl) O;have ab:=E _ _ (dQ ab Rd rfl) ab;have V:=E _ _ (dQ V Rd rfl) V;simp only[go_sem];refine gU [ac,ao] [(0,true),(1,true),(2,true),(3,true),(4,true),(5,true),(6,true),(7,true),(8,true),(9,true),(10,true),(11,true),(12,true),(13,false),(14,false)] (by simp[V,ab]) (by kernel_rfl) fun Hp Hr hp hr _ a5=>?_
   have Rp:=(hp ac (by simp)).trans V;have Rq:=(hp ao (by simp)).trans ab;simp only[go_sem,h2,ap,Rp,Rq,aQ k,aD hc,b2];refine aL fun ak X=>?_
   simp only[go_sem];refine aI (aB _ _ _) (by simp) ?_;simp only[go_sem];refine jK fun hd Hm ag ad=>?_
   have E:=NX hr ag ad fun k row h=>rR h X
   have aa:Hm ak=some ⟨375,4,[[int (jV x t a v).1.time,int (eV (jV x t a v).1.time (bI x v).1.start),int 0,boo c]]⟩:=(ad ak (Hq hd (aB _ _ _))).trans (aB _ _ _);have a7:jt≠ak:=by have:Hr jt=some (yX a.2.2):=(hr jt (by simp[dQ O V rfl,dQ O ab rfl])).trans O;exact bE this X
   have J:=E _ _ J;have U:=E _ _ U;have F:=E _ _ F;have I:=E _ _ I;have O:=E _ _ O;have Rd:=E _ _ aw;have ab:=E _ _ ab;have V:=E _ _ V;simp only[go_sem,aa,ab];refine dS so3 V ⟨by simp,rfl,by simp⟩ ?_;generalize Y:aM Hm ac _=H6;have bd:H6 ac=some (M2 (D5 (bI x v).1 (jV x t a v).1)):=by rw[<-Y,aB];rfl
   have E:∀i row,i≠ac->Hm i=some row->H6 i=some row:=fun i row hi h=>by rw[<-Y];exact pO h hi
   have J:=E _ _ (dQ J V rfl) J;have U:=E _ _ (dQ U V rfl) U;have F:=E _ _ am F;have I:=E _ _ (dQ I V rfl) I;have O:=E _ _ (dQ O V rfl) O;have Rd:=E _ _ (dQ Rd V rfl) Rd;have aa:=E _ _ (dQ aa V rfl) aa;have V:=bd;simp only[go_sem];refine gU [j9,ac] [(0,true),(1,true),(2,true),(3,true),(4,true),(5,true),(6,true),(7,true),(8,false)] (by simp[V,U]) (by kernel_rfl) fun Hp Hr hp hr _ a5=>?_
   have Rp:=(hp j9 (by simp)).trans U;have Rq:=(hp ac (by simp)).trans V;have a6:ae∉[j9,ac]:=by simp[am,dQ F U rfl]
   simp only[go_sem,h2,h9,ap,Rp,Rq,aQ k,aD hc,b2];refine⟨_,(Rk t (D5 (bI x v).1 (jV x t a v).1) c).q rfl,?_⟩;simp only[go_sem,al];refine aI ((hr _ a6).trans F) (by simp[lZ]) ?_;simp only[go_sem];refine jK fun hd Hn ag ad=>?_
   have a8:Hn ae=some (M2 (mF x t a (v,c)).1):=(ad ae a6).trans (aB _ _ _);have E:∀i row,i≠ae->H6 i=some row->Hn i=some row:=fun i row hi h=>by
     by_cases e:i∈[j9,ac]
     . rw[ag i e];exact h
     . rw[ad i e];exact pO ((hr i e).trans h) hi
   have J:=E _ _ (dQ J F rfl) J;have U:=E _ _ (dQ U F rfl) U;have I:=E _ _ (dQ I F rfl) I;have O:=E _ _ (dQ O F rfl) O;have Rd:=E _ _ (dQ Rd F rfl) Rd;have aa:=E _ _ (dQ aa F rfl) aa;have F:=a8;simp only[go_sem,al,F];refine dS so3 aa ⟨by simp,rfl,by simp⟩ ?_;generalize Y:aM Hn ak _=H7;have bc:H7 ak=some ⟨375,4,[rT ⟨(jV x t a v).1.time,eV (jV x t a v).1.time (bI x v).1.start,(mF x t a (v,c)).1.time,c⟩]⟩:=by rw[<-Y,aB];rfl
   have E:∀i row,i≠ak->Hn i=some row->H7 i=some row:=fun i row hi h=>by rw[<-Y];exact pO h hi
   have J:=E _ _ (dQ J aa rfl) J;have U:=E _ _ (dQ U aa rfl) U;have F:=E _ _ (dQ F aa rfl) F;have I:=E _ _ (dQ I aa rfl) I;have O:=E _ _ a7 O;have Rd:=E _ _ (dQ Rd aa rfl) Rd;simp only[go_sem,ah,I,bc];refine aZ O ⟨rfl,rfl⟩ (by simp[dL,rT]) (by simp;omega) fun ar av=>?_
   generalize Y:aM (aM H7 jt none) ar _=H8;have a9:H8 ar=some (yX (mF x t a (v,c)).2.2):=by rw[<-Y,aB];simp[mF,rT]
   have E:∀i row,i≠jt->H7 i=some row->H8 i=some row:=fun i row hi h=>by rw[<-Y];exact dK h hi.symm av
   have J:=E _ _ (dQ J O rfl) J;have U:=E _ _ (dQ U O rfl) U;have F:=E _ _ (dQ F O rfl) F;have I:=E _ _ (dQ I O rfl) I;have Rd:=E _ _ (dQ Rd O rfl) Rd;simp only[go_sem,ah];refine dS WQ I ⟨by simp,rfl,by simp⟩ ?_;generalize Y:aM H8 Z _=H9;have an:H9 Z=some (dE [boo b,int (oJ r t b).time,.os ar,int 0,int 0]):=by rw[<-Y,aB];rfl
   have E:∀i row,i≠Z->H8 i=some row->H9 i=some row:=fun i row hi h=>by rw[<-Y];exact pO h hi
   have J:=E _ _ ax J;have U:=E _ _ (dQ U I rfl) U;have F:=E _ _ (dQ F I rfl) F;have O:=E _ _ (dQ a9 I rfl) a9;have Rd:=E _ _ (dQ Rd I rfl) Rd;simp only[go_sem,ap,aQ k];refine⟨⟨k+1,mF x t a (v,c),ar,ai,aj,au,by simp[mF,bh],by simp[mF,bg],h2,h3,h4,h6,h9,al,ah,rfl,rfl,J,U,F,an,O,Rd⟩,msr aj⟩
 . have az:=aV hk az;subst az;have hf:(r.visits.zip rests.tail).foldlM (kX x t) (oJ r t b,[],[])=.ok a:=by rw[Xan (by simp[ba])]at hf;exact hf
   have eO:NZ x r rests t b=qB x t b (oJ r t b) a:=by unfold NZ;rw[hf]
   rw[eO];simp only[go_sem,h3,h9,al,U,F];refine aG (PA x t a.1 t.dst t.close 15 hn) ?_;simp only[go_sem];refine aL fun a0 X=>?_
   simp only[go_sem];refine aI (aB _ _ _) (by simp[lZ]) ?_;generalize Y:aM (aM H a0 _) a0 _=H3;have af:H3 a0=some (M2 (gL x t a.1 t.dst t.close 15).1):=by rw[<-Y,aB];rfl
   have E:∀i row,H i=some row->H3 i=some row:=fun i row h=>by rw[<-Y];exact rR h X
   have J:=E _ _ J;have I:=E _ _ I;have O:=E _ _ O;have Rd:=E _ _ Rd;simp only[go_sem];apply aA <;> intro he
   . simp only[go_sem,h6];refine aI J (by simp) ?_;simp only[go_sem];refine aL fun j7 X=>?_
     simp only[go_sem];have n1:=bE (aB _ _ _) X;rw[show qB x t b (oJ r t b) a=(aX,[],(gL x t a.1 t.dst t.close 15).2)from if_pos he];simp only[go_sem,h6,aJ _ _ _ _ n1];exact IQ (aB _ _ _)
   rw[show qB x t b (oJ r t b) a=_ from if_neg (by rw[he];simp)];simp only[go_sem,bb,af];refine aZ Rd ⟨rfl,rfl⟩ (by simp[dL]) (by simp;omega) fun ai ay=>?_
   generalize Y:aM (aM H3 jd none) ai _=H5;have aw:H5 ai=some (pA (a.2.1++[(gL x t a.1 t.dst t.close 15).1.driven])):=by rw[<-Y,aB];simp[bC]
   have E:∀i row,i≠jd->H3 i=some row->H5 i=some row:=fun i row hi h=>by rw[<-Y];exact dK h hi.symm ay
   have J:=E _ _ (dQ J Rd rfl) J;have I:=E _ _ (dQ I Rd rfl) I;have O:=E _ _ (dQ O Rd rfl) O;have af:=E _ _ (dQ af Rd rfl) af;simp only[go_sem,ah,af];refine dS so3 I ⟨by simp,rfl,by simp⟩ ?_;have a4:=dQ af I rfl;simp only[go_sem,af,ah,aJ _ _ _ _ a4];refine dS so3 (aB _ _ _) ⟨by simp,rfl,by simp⟩ ?_;generalize Y:aM (aM H5 Z _) Z _=H6;have an:H6 Z=some (dE [boo b,int (oJ r t b).time,.os jt,int (gL x t a.1 t.dst t.close 15).1.time,int (gL x t a.1 t.dst t.close 15).1.miles]):=by rw[<-Y,aB];rfl
   have E:∀i row,i≠Z->H5 i=some row->H6 i=some row:=fun i row hi h=>by rw[<-Y];exact pO (pO h hi) hi
   have J:=E _ _ ax J;have O:=E _ _ (dQ O I rfl) O;have Rd:=E _ _ (dQ aw I rfl) aw;simp only[go_sem,h6,ah,an];refine aI J (by simp) ?_;simp only[go_sem,h6];exact apV (pO O (dQ O J rfl)) (pO Rd (dQ Rd J rfl))
def X0(x:Instance)(r:Route)(rests:List Bool)(J:NetB x.net)(O:r.visits.length<=1048576):PC prog 362 [.agg (aC x),.agg (bT r),.sl (rests.map dI)] (.tup [.agg (bP (fF x r rests).1),int (fF x r rests).2.2]):=by
 refine pcd func362 rfl rfl ?_;simp only[go_sem];refine aL fun E F=>?_
 have I:=aB bQ E (some (dE zeroCells));generalize aM bQ E _=H0 at I |-;simp only[go_sem];refine aG (apU x r rests J O) ?_;simp only[go_sem];refine aL fun U F=>?_
 simp only[go_sem];refine aI (aB _ _ _) (by simp[bP]) ?_;simp only[go_sem];refine aI (rR I F) (by simp[bP]) ?_;simp only[go_sem];exact .refl _
def pC(n:Nat):Nat->List Bool->List Bool×Bool
 | 0,_=>([],false)
 | k+1,l=>if n<=k then(if l.getD k false=true then pC n k (l.set k false)else(l.set k true,true))else([],false)
def jS(l:List Bool)(n:Nat):List Bool×Bool:=pC n l.length l
def Ey:List Bool->Nat
 | []=>0
 | b::r=>(if b=true then 2^r.length else 0)+Ey r
def XW:∀l,Ey l<2^l.length
 | []=>by simp[Ey]
 | b::r=>by have:=XW r;simp only[Ey,Xah,Xbk];split <;> omega
def Qd:∀(l:List Bool) (k:Nat) (b:Bool),l[k]?=some b->Ey (l.set k (!b))+(if b=true then 2^(l.length-1-k)else 0)=Ey l+(if b=true then 0 else 2^(l.length-1-k))
 | [],k,b,h=>by simp at h
 | a::r,0,b,h=>by
  have e:a=b:=by simpa using h
  subst e;cases a <;> simp[Ey] <;> omega
 | a::r,k+1,b,h=>by have:=Qd r k b (by simpa using h);simp only[List.set_cons_succ,Ey,List.length_set,Xah];rw[show r.length+1-1-(k+1)=r.length-1-k by omega];cases b <;> simp at this |- <;> omega
def Br(n:Nat):∀(k:Nat) (l:List Bool),k<=l.length->(pC n k l).2=true->(pC n k l).1.length=l.length/\Ey (pC n k l).1=Ey l+2^(l.length-k)
 | 0,l,_,h=>by simp[pC]at h
 | k+1,l,hk,h=>by
  obtain⟨b,I⟩:=aK (show k<l.length by omega);have F:=Qd l k b I;have O:l.getD k false=b:=by rw[List.getD_eq_getElem?_getD,I];rfl
  have E:2^(l.length-k)=2*2^(l.length-(k+1)):=by rw[show l.length-k=(l.length-(k+1))+1 by omega,Xbk];omega
  have U:l.length-1-k=l.length-(k+1):=by omega
  rw[U]at F;unfold pC at h |-;rw[O]at h |-;by_cases J:n<=k
  ·rw[if_pos J]at h |-;cases b
   ·simp only[Xaz,if_false]at h |- F;refine⟨by simp,?_⟩;simpa using F
   ·simp only[if_true]at h |- F;have ih:=Br n k (l.set k false) (by simp;omega) h;simp only[List.length_set]at ih;refine⟨ih.1,?_⟩;rw[ih.2,E];simp only[Xcb]at F;omega
  ·rw[if_neg J]at h;simp at h
def afX:AV->Nat
 | .v (.int _ n)=>(n+1).toNat
 | _=>0
def VX{k n}:afX (.v (.int k n))=(n+1).toNat:=(rfl)
def E9:∀l:List Bool,dL 1 (l.map dI)
 | []=>trivial
 | _::r=>⟨rfl,E9 r⟩
abbrev CA(l:List Bool):Row:=⟨4,1,l.map dI⟩
def QT(l0:List Bool)(n:Nat)(hl:l0.length<=1048577):PC prog 363 [.sl (l0.map dI),int n] (.tup [.sl ((jS l0 n).1.map dI),boo (jS l0 n).2]):=by
 refine pcb (fun t=>t == 4||t == 6) func363 rfl rfl ?_;simp only[go_sem];refine aL fun j4 ab=>?_
 simp only[go_sem];refine aL fun j6 aa=>?_
 simp only[go_sem];refine aZ (aB _ _ _) ⟨rfl,rfl⟩ (E9 _) (by simp;omega) fun j hj=>?_
 generalize hG:aM (aM (aM (aM bQ j4 _) j6 _) j6 none) j _=H0;have R:H0 j=some (CA l0):=by rw[<-hG,aB];rfl
 have w1:IntKind.i64.wrap ((l0.length:Int)-1)=(l0.length:Int)-1:=aW (by omega);simp only[go_sem,R,w1];refine⟨fun ρ H=>∃(k:Nat) (l:List Bool),k<=l.length/\l.length=l0.length/\pC n k l=jS l0 n/\ρ 1=int n/\ρ 6=.os j/\ρ 7=int ((k:Int)-1)/\H j=some (CA l),fun ρ _=>afX (ρ 7),⟨l0.length,l0,Xaf _,rfl,rfl,rfl,rfl,rfl,R⟩,?_⟩;rintro ρ H ⟨k,l,hk,V,E,h1,U,F,R⟩;cases k with
 | zero=>
  simp only[go_sem,h1,F];refine aA (fun O=>by simp at O;omega) (fun _=>?_);simp only[go_sem];refine aL fun j' Y=>?_
  simp only[go_sem];rw[<-E];exact .tup _ _ (.cons _ _ _ _ (.row _ _ _ (aB _ _ _) .nil) (ConvL.refl _))
 | succ k=>
  rw[show((k+1:Nat):Int)-1=(k:Int)by omega]at F;simp only[go_sem,h1,F];obtain⟨b,O⟩:=aK (show k<l.length by omega);have Z:l.getD k false=b:=by rw[List.getD_eq_getElem?_getD,O];rfl
  have X:=inB (show k<l.length by omega);refine aA (fun I=>?_) (fun J=>?_)
  ·have I:n<=k:=by simpa using I
   unfold pC at E;rw[if_pos I,Z]at E;simp only[go_sem,U,F,R,aD O,X,show k<l.length from by omega];apply aA <;> intro hc
   ·simp only[go_sem,U,F,R,X];refine dS so4 R ⟨by simp;omega,rfl,by simp⟩ ?_;simp only[go_sem,U];rw[if_neg (by simpa using hc)]at E;rw[<-E];refine .tup _ _ (.cons _ _ _ _ (.row _ _ _ (aB _ _ _) ?_) (ConvL.refl _));have:((CA l).es.set k (oV ((CA l).es.getD k []) 0 [boo true]))=(l.set k true).map dI:=by show(l.map dI).set k (oV ((l.map dI).getD k []) 0 [boo true])=_;rw[aD O,List.map_set];rfl
    first|(rw[this];exact ConvE.refl _)|exact this▸ConvE.refl _
   ·simp only[go_sem,U,F,R,X];refine dS so4 R ⟨by simp;omega,rfl,by simp⟩ ?_;rw[if_pos (by simpa using hc)]at E;have w2:IntKind.i64.wrap ((k:Int)-1)=(k:Int)-1:=aW (by omega);simp only[go_sem,F,w2];refine⟨⟨k,l.set k false,by simp;omega,by simpa using V,E,h1,U,rfl,?_⟩,by simp only[VX];omega⟩;show some (⟨4,1,(l.map dI).set k (oV ((l.map dI).getD k []) 0 [boo false])⟩:Row)=some (⟨4,1,(l.set k false).map dI⟩:Row);rw[aD O,List.map_set];rfl
  ·have J:¬n<=k:=by simpa using J
   unfold pC at E;rw[if_neg J]at E;simp only[go_sem];refine aL fun j' Y=>?_
   simp only[go_sem];rw[<-E];exact .tup _ _ (.cons _ _ _ _ (.row _ _ _ (aB _ _ _) .nil) (ConvL.refl _))
def iI(x:Instance)(r:Route)(c:List Bool)(b:Sheet×Bool):Sheet×Bool:=
 if((fF x r c).2.2 == 0&&(!b.2||decide ((fF x r c).1.end_<b.1.end_)))=true then((fF x r c).1,true)else b
def qX(x:Instance)(r:Route)(m:Nat):Nat->List Bool×Bool->Sheet×Bool->Sheet×Bool
 | 0,_,b=>b
 | f+1,c,b=>if c.2=true then qX x r m f (jS c.1 m) (iI x r c.1 b)else b
def zC(c:List Bool×Bool):Nat:=if c.2=true then 2^c.1.length-Ey c.1 else 0
def cY(r:Route):List Bool:=r.rests++List.replicate (r.visits.length+1-r.rests.length) false
def DF(b:Sheet×Bool)(first:Int):Sheet×Int:=if b.2=true then(b.1,0)else(aX,first)
def lX(x:Instance)(r:Route):Sheet×Int:=
 if(!bW x r||decide ((r.rests.length:Int)>((r.visits.length+1:Nat):Int)))=true then(aX,2)
 else DF (qX x r r.rests.length (zC (jS (cY r) r.rests.length)) (jS (cY r) r.rests.length) ((fF x r (cY r)).1,(fF x r (cY r)).2.2 == 0)) (fF x r (cY r)).2.2
def xD{x:Instance}{r:Route}{m:Nat}{c:List Bool×Bool}{b:Sheet×Bool}(h:c.2=false):∀f,qX x r m f c b=b
 | 0=>rfl
 | f+1=>by unfold qX;rw[if_neg (by rw[h];simp)]
def B9{x:Instance}{r:Route}{m:Nat}{c:List Bool×Bool}{b:Sheet×Bool}(h:c.2=true):qX x r m (zC c) c b=qX x r m (zC (jS c.1 m)) (jS c.1 m) (iI x r c.1 b)/\zC (jS c.1 m)<zC c/\((jS c.1 m).2=true->(jS c.1 m).1.length=c.1.length):=by
 have O:=XW c.1;have e:zC c=(2^c.1.length-Ey c.1-1)+1:=by unfold zC;rw[if_pos h];omega
 have I:qX x r m (zC c) c b=qX x r m (2^c.1.length-Ey c.1-1) (jS c.1 m) (iI x r c.1 b):=by
  rw[e];conv=>lhs;unfold qX
  rw[if_pos h]
 cases E:(jS c.1 m).2 with
 | false=>
  refine⟨by rw[I,xD E,xD E],?_,fun h=>by cases h⟩;have:zC (jS c.1 m)=0:=by unfold zC;rw[E];rfl
  omega
 | true=>
  have F:=Br m c.1.length c.1 (Xaf _) E;rw[Nat.sub_self]at F;have J:zC (jS c.1 m)=2^c.1.length-Ey c.1-1:=by unfold zC;rw[E,if_pos rfl];unfold jS;rw[F.1,F.2];omega
  exact⟨by rw[I,J],by omega,fun _=>F.1⟩
def Ph:AV->Bool
 | .v (.bool b)=>b
 | _=>false
def Hk:AV->List Bool
 | .sl es=>es.map fun c=>Ph (c.getD 0 .any)
 | _=>[]
def Be(l:List Bool):Hk (.sl (l.map dI))=l:=by simp[Hk,dI,Ph,Function.comp_def]
abbrev JE(s:Sheet):Row:=⟨257,5,[bP s]⟩
def iQ(s:Sheet):(bP s).length=5:=(rfl)
def Du(s:Sheet):(bP s).getD 3 .any=int s.end_:=(rfl)
def De(s:Sheet):(bP s).getD 4 .any=int s.miles:=(rfl)
def zY(s:Sheet):(bP s).take 5=bP s:=(rfl)
attribute [go_sem] Du De zY
def I6{a:List Bool}{n:Nat}(h:a.length<=n):((List.replicate n [boo false]).take 0++(a.map dI).take (min (a.map dI).length (List.replicate n [boo false]).length))++(List.replicate n [boo false]).drop (0+min (a.map dI).length (List.replicate n [boo false]).length)=(a++List.replicate (n-a.length) false).map dI:=by
 have e:min (a.map dI).length (List.replicate n [boo false]).length=a.length:=by simp;omega
 rw[e,List.take_zero,Xcj,Xce,Xan (by simp),List.drop_replicate,Xal,List.map_replicate];rfl
def ajX(x:Instance)(r:Route)(hn:NetB x.net)(hr:r.visits.length<=1048576):PC prog 328 [.agg (aC x),.agg (bT r)] (.tup [.agg (bP (lX x r).1),int (lX x r).2]):=by
 refine pcb (fun t=>t == 39) func328 rfl rfl ?_;simp only[go_sem];refine aL fun U O=>?_
 have E:=aB bQ U (some (dE zeroCells));generalize aM bQ U _=H0 at E |-;simp only[go_sem,mS (show r.visits.length<=4611686018427387904 by omega)];refine aG (Ee x r hr) ?_;simp only[go_sem];apply aA <;> intro h1
 . simp only[go_sem];refine aI E (by simp) ?_;simp only[go_sem];rw[show lX x r=(aX,2)from if_pos h1];exact .refl _
 have hm:r.rests.length<=r.visits.length+1:=by simp only[Xag,decide_eq_false_iff_not]at h1;omega
 rw[show lX x r=_ from if_neg (by rw[h1];simp)];simp only[go_sem];refine⟨by omega,?_⟩;refine aL fun j7 O=>?_
 simp only[go_sem];refine Ye arU (aB _ _ _) (.inl ⟨rfl,rfl,rfl⟩) (.inl rfl) rfl (E9 _) ?_;generalize V:aM (aM H0 j7 _) j7 _=H1;have ai:=bE E O;have R7:H1 j7=some (CA (cY r)):=by rw[<-V,aB];exact congrArg (fun es=>some (⟨4,1,es⟩:Row)) (I6 hm)
 have E:H1 U=some (dE zeroCells):=by rw[<-V];exact rR E O
 simp only[go_sem];refine Cf rfl R7 fun H2 _ hH=>?_
 have E:=(hH U ai).trans E;simp only[go_sem];refine aG (X0 x r (cY r) hn hr) ?_;simp only[go_sem];refine aL fun Z O=>?_
 simp only[go_sem];refine aI (aB _ _ _) (by simp[bP]) ?_;have ak:=bE E O;generalize V:aM (aM H2 Z _) Z _=H3;have J:H3 Z=some (JE (fF x r (cY r)).1):=by rw[<-V,aB];rfl
 have E:H3 U=some (dE zeroCells):=by rw[<-V];exact rR E O
 simp only[go_sem];have aj:(cY r).length=r.visits.length+1:=by simp[cY];omega
 refine aG (QT (cY r) r.rests.length (by omega)) ?_;simp only[go_sem];generalize ah:(fF x r (cY r)).2.2=first
 generalize af:((fF x r (cY r)).1,first == 0)=b0;generalize al:jS (cY r) r.rests.length=c0;have ag:c0.2=true->c0.1.length=r.visits.length+1:=fun h=>by rw[<-al]at h |-;rw[<-aj];exact(Br r.rests.length (cY r).length (cY r) (Xaf _) h).1
 have e1:(fF x r (cY r)).1=b0.1:=by rw[<-af]
 have e2:(first == 0)=b0.2:=by rw[<-af]
 rw[e1]at J;rw[e2];refine ⟨fun ρ H => ∃ (c : List Bool × Bool) (b : Sheet × Bool), qX x r r.rests.length (zC c) c b = qX x r r.rests.length (zC c0) c0 b0 /\ (c.2 = true -> c.1.length = r.visits.length + 1) /\
     ρ 2=.rp (aC x) 0/\ρ 3=.rp (bT r) 0/\ρ 4=.op U 0 0/\ρ 7=.sl (c.1.map dI)/\ρ 8=.op Z 0 0/\ρ 9=int first/\ρ 10=boo b.2/\ρ 11=boo c.2/\H U=some (dE zeroCells)/\H Z=some (JE b.1),
   fun ρ _=>zC (Hk (ρ 7),Ph (ρ 11)),⟨c0,b0,rfl,ag,rfl,rfl,rfl,rfl,rfl,rfl,rfl,rfl,E,J⟩,?_⟩
 rintro ρ H ⟨c,b,hg,ae,h2,h3,X,h7,Y,h9,I,ac,E,J⟩;have an:zC (Hk (ρ 7),Ph (ρ 11))=zC c:=by rw[h7,ac,Be];rfl
 simp only[go_sem,ac];apply aA <;> intro hc
 . obtain⟨s1,s2,s3⟩:=B9 (x:=x) (r:=r) (m:=r.rests.length) (b:=b) hc;simp only[go_sem,h2,h3,h7];refine aG (X0 x r c.1 hn hr) ?_;simp only[go_sem];refine aL fun aa O=>?_
   simp only[go_sem];refine aI (aB _ _ _) (by simp[bP]) ?_;generalize V:aM (aM H aa _) aa _=H4;have ab:H4 aa=some (JE (fF x r c.1).1):=by rw[<-V,aB];rfl
   have E:H4 U=some (dE zeroCells):=by rw[<-V];exact rR E O
   have am:=(bE J O).symm;have J:H4 Z=some (JE b.1):=by rw[<-V];exact rR J O
   simp only[go_sem,Y,I,J,ab];refine bK (fun F H'=>F 2=.rp (aC x) 0/\F 3=.rp (bT r) 0/\F 4=.op U 0 0/\F 7=.sl (c.1.map dI)/\F 8=.op Z 0 0/\F 9=int first/\F 10=boo (iI x r c.1 b).2/\H' U=some (dE zeroCells)/\H' Z=some (JE (iI x r c.1 b).1)) ?_ fun K hK=>aA (fun hb=>?_) (fun hb=>?_)
   . clear E J ab h2 h3 X h7 Y h9 I ac;rintro ρ H ⟨h2,h3,X,h7,Y,h9,I,E,J⟩;simp only[go_sem,h3,h7];refine aG (QT c.1 r.rests.length (by have:=ae hc;omega)) ?_;simp only[go_sem];refine⟨⟨jS c.1 r.rests.length,iI x r c.1 b,by rw[<-s1];exact hg,fun h=>(s3 h).trans (ae hc),h2,h3,X,rfl,Y,h9,I,rfl,E,J⟩,?_⟩;rw[Be,Be];exact s2
   . simp only[go_sem,Y,ab];refine aI J (by simp[bP]) ?_;simp only[go_sem];have e:iI x r c.1 b=((fF x r c.1).1,true):=if_pos hb;rw[e]at hK;refine hK _ _ ⟨h2,h3,X,h7,Y,h9,rfl,?_,?_⟩
     . exact pO E ak
     . rw[aB];rfl
   . simp only[go_sem];have e:iI x r c.1 b=b:=if_neg (by rw[show((fF x r c.1).2.2 == 0&&(!b.2||decide ((fF x r c.1).1.end_<b.1.end_)))=false from hb];simp);rw[e]at hK;exact hK _ _ ⟨h2,h3,X,h7,Y,h9,I,E,J⟩
 . have ad:qX x r r.rests.length (zC c) c b=b:=xD hc _;rw[<-hg,ad];simp only[go_sem,I];apply aA <;> intro hb
   . simp only[go_sem,X,h9];refine aI E (by simp) ?_;simp only[go_sem,X];rw[show DF b first=(aX,first)from if_neg (by simpa using hb)];exact .refl _
   . simp only[go_sem,X,Y,J];refine aI E (by simp[bP]) ?_;simp only[go_sem,X];rw[show DF b first=(b.1,0)from if_pos (by simpa using hb)];exact .refl _
def kU(s:Score):(cH s).length=4:=(rfl)
def Ah(s:Score):(cH s).getD 0 .any=int s.cost:=(rfl)
def Av(s:Score):(cH s).getD 1 .any=int s.moved:=(rfl)
def AQ(s:Score):(cH s).getD 2 .any=int s.other:=(rfl)
def AG(s:Score):(cH s).getD 3 .any=int s.work:=(rfl)
def uS(s:Score):(cH s).take 4=cH s:=(rfl)
attribute [go_sem] iQ Ut kU Ah Av AQ AG uS
abbrev oB(s:Score):Row:=⟨259,4,[cH s]⟩
def Jh(o:Order)(t:Int):Bool:=o.now != -1&&o.now != t
def Ji(o:Order)(t:Int):Bool:=o.last != -1&&o.last != t
def A3(o:Order)(t:Int)(a:Score):Score:=if Jh o t=true then⟨a.cost,W (a.moved+1),a.other,a.work⟩else a
def AP(o:Order)(t:Int)(a:Score):Score:=if Ji o t=true then⟨a.cost,a.moved,W (a.other+1),a.work⟩else a
def fZ(x:Instance)(r:Route)(a:Score)(i:Nat):Score:=
 if(cK (dO r.visits i) x.orders.length|| !nU r.visits i)=true then a
 else match x.orders[(dO r.visits i).toNat]? with
 | some o=>AP o r.type (A3 o r.type a)
 | none=>a
def vS(t:VType)(s:Sheet):Score:=
 ⟨W (W (t.fixed+W (t.perMile*s.miles))+W (t.perTick*W (s.end_-t.start))),0,0,
   W (W (Int.tdiv (W (s.end_-t.start)) 64)*W (Int.tdiv (W (s.end_-t.start)) 64))⟩
def T1(x:Instance)(r:Route)(s:Sheet)(t:VType):Score:=(List.range r.visits.length).foldl (fZ x r) (vS t s)
def mJ(x:Instance)(r:Route)(s:Sheet):Score:=
 if cK r.type x.types.length=true then cQ else match x.types[r.type.toNat]? with
 | some t=>T1 x r s t
 | none=>cQ
def ZQ(x:Instance)(r:Route)(s:Sheet)(hr:r.visits.length<=1048576):PC prog 329 [.agg (aC x),.agg (bT r),.agg (bP s)] (.agg (cH (mJ x r s))):=by
 refine pcd func329 rfl rfl ?_;simp only[go_sem];refine aL fun Z hj=>?_
 have J:=aB bQ Z (some (⟨259,4,[[int 0,int 0,int 0,int 0]]⟩:Row));generalize aM bQ Z _=H0 at J |-;simp only[go_sem];apply aA <;> intro h1
 . simp only[go_sem];refine aI J (by simp) ?_;simp only[go_sem];rw[show mJ x r s=cQ from if_pos h1];exact .refl _
 have ae:0<=r.type/\r.type<(x.types.length:Int):=by simp only[Xag,decide_eq_false_iff_not]at h1;omega
 obtain⟨t,ht⟩:=aK (show r.type.toNat<x.types.length by omega);rw[show mJ x r s=T1 x r s t by unfold mJ;rw[if_neg (by rw[show cK r.type x.types.length=false from h1];simp),ht]];simp only[go_sem,aD ht,ae];refine aL fun j7 hj=>?_
 simp only[go_sem];refine aI (aB _ _ _) (by simp[iP]) ?_;generalize hG:aM (aM H0 j7 _) j7 _=H1;have R7:H1 j7=some (lB t):=by rw[<-hG,aB];rfl
 have J:H1 Z=some (⟨259,4,[[int 0,int 0,int 0,int 0]]⟩:Row):=by rw[<-hG];exact rR J hj
 simp only[go_sem,R7];refine⟨by decide,by decide,?_⟩;refine aL fun j9 hj=>?_
 simp only[go_sem];refine aI (aB _ _ _) (by simp) ?_;have ab:=bE J hj;generalize hG:aM (aM H1 j9 _) j9 _=H2;have O:H2 j9=some (oB (vS t s)):=by rw[<-hG,aB];rfl
 have J:H2 Z=some (⟨259,4,[[int 0,int 0,int 0,int 0]]⟩:Row):=by rw[<-hG];exact rR J hj
 simp only[go_sem];refine ⟨fun ρ H => ∃ k : Nat, k <= r.visits.length /\ ρ 3 = .rp (aC x) 0 /\ ρ 4 = .rp (bT r) 0 /\ ρ 6 = .op Z 0 0 /\ ρ 9 = .op j9 0 0 /\ ρ 10 = int k /\ H Z = some (⟨259, 4, [[int 0, int 0, int 0, int 0]]⟩ : Row) /\
     H j9=some (oB (((List.range r.visits.length).take k).foldl (fZ x r) (vS t s))),fun ρ _=>r.visits.length-aR (ρ 10),⟨0,Xaa _,rfl,rfl,rfl,rfl,rfl,J,O⟩,?_⟩
 rintro ρ H ⟨k,hk,V,U,Y,X,E,J,O⟩;simp only[go_sem,U,E];refine aA (fun I=>?_) (fun aa=>?_)
 . have I:=aT I;obtain⟨v,hv⟩:=aK I;have b1:=inB I;have hs:((List.range r.visits.length).take (k+1)).foldl (fZ x r) (vS t s)=fZ x r (((List.range r.visits.length).take k).foldl (fZ x r) (vS t s)) k:=by rw[bA (iA I),Xbn];rfl
   generalize hA:((List.range r.visits.length).take k).foldl (fZ x r) (vS t s)=A at O hs;have ev:dO r.visits k=v.order:=gO hv;simp only[go_sem,V,U,E,aD hv,b1];refine⟨_,fun _=>(Vq r.visits k hr I).q rfl,?_⟩;simp only[go_sem];apply aA <;> intro h2
   . have e:fZ x r A k=A:=by unfold fZ;rw[ev,if_pos (show(cK v.order x.orders.length|| !nU r.visits k)=true from h2)]
     simp only[go_sem,E,aQ k];exact⟨⟨k+1,I,V,U,Y,X,rfl,J,by rw[hs,e];exact O⟩,msr I⟩
   have af:cK v.order x.orders.length=false:=(Xag.1 h2).1;have ad:0<=v.order/\v.order<(x.orders.length:Int):=by have:=af;simp only[cK,Xag,decide_eq_false_iff_not]at this;omega
   obtain⟨o,ho⟩:=aK (show v.order.toNat<x.orders.length by omega);have e:fZ x r A k=AP o r.type (A3 o r.type A):=by unfold fZ;rw[ev,if_neg (by rw[show(cK v.order x.orders.length|| !nU r.visits k)=false from h2];simp),ho]
   rw[e]at hs;simp only[go_sem];refine dR ?_;simp only[go_sem,V,U,aD ho,ad];refine bK (fun F H'=>F 3=.rp (aC x) 0/\F 4=.rp (bT r) 0/\F 6=.op Z 0 0/\F 9=.op j9 0 0/\F 10=int k/\F 11=int v.order/\H' Z=some (⟨259,4,[[int 0,int 0,int 0,int 0]]⟩:Row)/\H' j9=some (oB (A3 o r.type A))) ?_ fun K hK=>aA (fun hb=>?_) (fun hb=>?_)
   . clear J O V U Y X E;rintro ρ H ⟨V,U,Y,X,E,ac,J,O⟩;simp only[go_sem];refine dR ?_;simp only[go_sem,V,U,ac,aD ho,ad];refine gP (fun F H'=>F 3=.rp (aC x) 0/\F 4=.rp (bT r) 0/\F 6=.op Z 0 0/\F 9=.op j9 0 0/\F 10=int k/\H' Z=some (⟨259,4,[[int 0,int 0,int 0,int 0]]⟩:Row)/\H' j9=some (oB (AP o r.type (A3 o r.type A)))) ?_ fun K hK _ _=>aA (fun hb=>?_) (fun hb=>?_)
     . clear J O V U Y X E ac;rintro ρ H ⟨V,U,Y,X,E,J,O⟩;simp only[go_sem,E,aQ k];exact⟨⟨k+1,I,V,U,Y,X,rfl,J,by rw[hs];exact O⟩,msr I⟩
     . simp only[go_sem,X,O];refine dS so3 O ⟨by simp,rfl,by simp⟩ ?_;simp only[go_sem];refine hK _ _ ⟨V,U,Y,X,E,pO J ab,?_⟩;rw[aB,AP,if_pos (show Ji o r.type=true from hb)];rfl
     . simp only[go_sem];refine hK _ _ ⟨V,U,Y,X,E,J,?_⟩;rw[AP,if_neg (by rw[show Ji o r.type=false from hb];simp)];exact O
   . simp only[go_sem,X,O];refine dS so3 O ⟨by simp,rfl,by simp⟩ ?_;simp only[go_sem];refine hK _ _ ⟨V,U,Y,X,E,rfl,pO J ab,?_⟩;rw[aB,A3,if_pos (show Jh o r.type=true from hb)];rfl
   . simp only[go_sem];refine hK _ _ ⟨V,U,Y,X,E,rfl,J,?_⟩;rw[A3,if_neg (by rw[show Jh o r.type=false from hb];simp)];exact O
 . have aa:=aV hk aa;subst aa;simp only[go_sem,Y,X,O];refine aI J (by simp[cH]) ?_;simp only[go_sem,Y];rw[Xan (by simp)];exact .refl _
structure InsB(x:Instance):Prop where
 net:NetB x.net
 types:x.types.length<=1048576
 orders:x.orders.length<=1048576
 apart:x.apart.length<=1048576
 before:x.before.length<=1048576
def Eb{x:Instance}{l:List Visit}(h:fK x l=0):∀v∈l,0<=v.order/\v.order<(x.orders.length:Int):=by
 intro v F;by_cases E:(l.any fun v=>cK v.order x.orders.length)=true
 ·unfold fK at h;rw[if_pos E]at h;cases h
 ·have E : cK v.order x.orders.length = false := by have:=Xbb.1 (Xdb.2 E) v F;simpa using this
  simp only[cK,Xag,decide_eq_false_iff_not]at E;omega
def uL(x:Instance)(t:VType)(v:Visit):Bool:=match x.orders[v.order.toNat]? with|some o=>rZ t.skills o.skills|none=>false
def M9(x:Instance)(r:Route)(t:VType):Sheet×Score×Int:=
 if(fK x r.visits != 0)=true then(aX,cQ,fK x r.visits)
 else if(r.visits.any fun v=> !uL x t v)=true then(aX,cQ,18)
 else if(An x r != 0)=true then(aX,cQ,An x r)
 else if((lX x r).2 != 0)=true then(aX,cQ,(lX x r).2)
 else((lX x r).1,mJ x r (lX x r).1,0)
def pU(x:Instance)(r:Route):Sheet×Score×Int:=
 if cK r.type x.types.length=true then(aX,cQ,2)else match x.types[r.type.toNat]? with
 | some t=>M9 x r t
 | none=>(aX,cQ,2)
abbrev IT:List AV:=[int 0,int 0,int 0,int 0]
def Kd{H:aH}{c:Int}:Conv H (.tup [.agg zeroCells,.agg IT,int c]) (.tup [.agg (bP aX),.agg (cH cQ),int c]):=.refl _
def Pn(x:Instance)(r:Route)(hx:InsB x)(hr:r.visits.length<=1048576):PC prog 285 [.agg (aC x),.agg (bT r)] (.tup [.agg (bP (pU x r).1),.agg (cH (pU x r).2.1),int (pU x r).2.2]):=by
 refine pcd func285 rfl rfl ?_;simp only[go_sem];refine aL fun X hj=>?_
 have E:=aB bQ X (some (dE zeroCells));generalize aM bQ X _=H0 at E |-;simp only[go_sem];refine aL fun Y hj=>?_
 have J:=aB H0 Y (some (⟨259,4,[IT]⟩:Row));have F:=bE E hj;have E:=eY (r':=(⟨259,4,[IT]⟩:Row)) E hj;generalize aM H0 Y _=H1 at E J |-;have O:=Ne.symm F;simp only[go_sem];apply aA <;> intro h1
 ·simp only[go_sem];refine aI E (by simp) ?_;simp only[go_sem];refine aI (pO J O) (by simp) ?_;simp only[go_sem,aJ _ _ _ _ F];rw[show pU x r=(aX,cQ,2)from if_pos h1];exact Kd
 have ae:0<=r.type/\r.type<(x.types.length:Int):=by simp only[Xag,decide_eq_false_iff_not]at h1;omega
 obtain⟨t,ht⟩:=aK (show r.type.toNat<x.types.length by omega);rw[show pU x r=M9 x r t by unfold pU;rw[if_neg (by rw[show cK r.type x.types.length=false from h1];simp),ht]];simp only[go_sem];refine aG (Lf x r hr hx.apart hx.before) ?_;simp only[go_sem];apply aA <;> intro h2
 ·simp only[go_sem];refine aI E (by simp) ?_;simp only[go_sem];refine aI (pO J O) (by simp) ?_;simp only[go_sem,aJ _ _ _ _ F];rw[show M9 x r t=(aX,cQ,fK x r.visits)from if_pos h2];exact Kd
 have ag:fK x r.visits=0:=by simpa using h2
 have ah:=Eb ag;rw[show M9 x r t=_ from if_neg (by rw[h2];simp)];simp only[go_sem];refine⟨fun ρ H=>∃k:Nat,k<=r.visits.length/\ρ 2=.rp (aC x) 0/\ρ 3=.rp (bT r) 0/\ρ 4=.op X 0 0/\ρ 5=.op Y 0 0/\ρ 8=int k/\H X=some (dE zeroCells)/\H Y=some (⟨259,4,[IT]⟩:Row)/\∀v∈r.visits.take k,uL x t v=true,
  fun ρ _=>r.visits.length-aR (ρ 8),⟨0,Xaa _,rfl,rfl,rfl,rfl,rfl,E,J,by simp⟩,?_⟩
 rintro ρ H ⟨k,hk,g2,g3,Z,V,g8,E,J,hz⟩;simp only[go_sem,g3,g8];refine aA (fun U=>?_) (fun aa=>?_)
 ·have U:=aT U;obtain⟨v,hv⟩:=aK U;have b1:=inB U;have hi:=ah v (Xac hv);obtain⟨o,ho⟩:=aK (show v.order.toNat<x.orders.length by omega);have es:uL x t v=rZ t.skills o.skills:=by unfold uL;rw[ho]
  simp only[go_sem];refine dR ?_;simp only[go_sem,g2,g3,g8,aD hv,aD ho,aD ht,b1,hi,ae];refine⟨_,(ajK t o.skills).q rfl,?_⟩;simp only[go_sem];apply aA <;> intro h3
  ·simp only[go_sem,Z];refine aI E (by simp) ?_;simp only[go_sem,V];refine aI (pO J O) (by simp) ?_;simp only[go_sem,Z,V,aJ _ _ _ _ F];rw[if_pos (Xao.2 ⟨v,Xac hv,by rw[es];exact h3⟩)];exact Kd
  ·simp only[go_sem,g8,aQ k];exact⟨⟨k+1,U,g2,g3,Z,V,rfl,E,J,aO (p:=fun v=>uL x t v=true) hv (by rw[es];simpa using h3) hz⟩,msr U⟩
 have aa:=aV hk aa;subst aa;rw[Xad]at hz;have af:(r.visits.any fun v=> !uL x t v)=false:=by rw[Xbb];intro v hv;rw[hz v hv];simp
 rw[if_neg (by rw[af];simp)];simp only[go_sem,g2,g3];refine aG (aiE x r hx.orders hr hx.apart hx.before) ?_;simp only[go_sem];apply aA <;> intro h4
 ·simp only[go_sem,Z];refine aI E (by simp) ?_;simp only[go_sem,V];refine aI (pO J O) (by simp) ?_;simp only[go_sem,Z,V,aJ _ _ _ _ F];rw[if_pos h4];exact Kd
 rw[if_neg (by rw[h4];simp)];simp only[go_sem,g2,g3];refine aG (ajX x r hx.net hr) ?_;simp only[go_sem];refine aL fun I hj=>?_
 simp only[go_sem];refine aI (aB _ _ _) (by simp[bP]) ?_;have ac:=bE E hj;generalize hG:aM (aM H I _) I _=H2;have ab:H2 I=some (JE (lX x r).1):=by rw[<-hG,aB];rfl
 have E:H2 X=some (dE zeroCells):=by rw[<-hG];exact rR E hj
 have J:H2 Y=some (⟨259,4,[IT]⟩:Row):=by rw[<-hG];exact rR J hj
 simp only[go_sem];apply aA <;> intro h5
 ·simp only[go_sem,Z];refine aI E (by simp) ?_;simp only[go_sem,V];refine aI (pO J O) (by simp) ?_;simp only[go_sem,Z,V,aJ _ _ _ _ F];rw[if_pos h5];exact Kd
 rw[if_neg (by rw[h5];simp)];simp only[go_sem];refine gU [I] [(0,true),(1,true),(2,true),(3,true),(4,true),(5,false),(6,false),(7,false)] (by simp[ab]) (by kernel_rfl) fun Hp Hr hp hq _ ai=>?_
 have Rp:=(hp I (by simp)).trans ab;have m4:X∉[I]:=by simpa using ac
 have m5:Y∉[I]:=by simpa using dQ J ab rfl
 have S4:=(hq X m4).trans E;have S5:=(hq Y m5).trans J;simp only[go_sem,g2,g3,Rp];refine⟨_,(ZQ x r (lX x r).1 hr).q rfl,?_⟩;simp only[go_sem,Z];refine aI S4 (by simp[bP]) ?_;simp only[go_sem,V];refine aI (pO S5 O) (by simp[cH]) ?_;simp only[go_sem];refine jK fun hd Hm aj ad=>?_
 have T4:Hm X=some (JE (lX x r).1):=by rw[ad X m4,aJ _ _ _ _ F,aB]
 have T5:Hm Y=some (oB (mJ x r (lX x r).1)):=by rw[ad Y m5,aB]
 simp only[go_sem,Z,V,T4,T5];exact .refl _
def Z0(x:Instance)(r:Route)(I:InsB x)(J:r.visits.length<=1048576):PC prog 243 [.agg (aC x),.agg (bT r)] (int (pU x r).2.2):=by
 refine pcd func243 rfl rfl ?_;simp only[go_sem];refine aG (Pn x r I J) ?_;simp only[go_sem];refine aL fun O V=>?_
 simp only[go_sem];refine aL fun U F=>?_
 simp only[go_sem];refine aI (eY (aB _ _ _) F) (by simp[bP]) ?_;simp only[go_sem];have E:=bE (aB _ _ _) F;refine aI (pO (aB _ _ _) E.symm) (by simp[cH]) ?_;simp only[go_sem];exact .refl _
structure PlanB(p:Plan):Prop where
 routes:p.routes.length<=1048576
 visits:∀r∈p.routes,r.visits.length<=1048576
 unserved:p.unserved.length<=1048576
def Dq{P:Program}{C:mL}{PC:FuncId->List AV->aH->AV->Prop}{mt:Nat->Bool}{ops:Array Oper}{K:Env->aH->Prop}{m:Nat}{ρ:Env}{H:aH}(J:Env->aH->Prop)(h1:∀ρ H,J ρ H->K ρ H)
 (E:∀K':Env->aH->Prop,(∀ρ H,J ρ H->K' ρ H)->wA P C PC mt ops K' m ρ H):wA P C PC mt ops K m ρ H:=E K h1
def rK{α:Type}{p:α->Bool}:∀(l:List α) (n:Int),0<=n->decide (pM p l n>=0)=l.any p
 | [],n,_=>rfl
 | a::r,n,hn=>by
  have ih:=rK (p:=p) r (n+1) (by omega);rw[Xap]at ih |-;simp only[decide_eq_true_eq]at ih |-;rw[List.any_cons,Xbu,<-ih];by_cases h:p a=true
  ·rw[show pM p (a::r) n=n from if_pos h];exact⟨fun _=>.inl h,fun _=>hn⟩
  ·rw[show pM p (a::r) n=pM p r (n+1)from if_neg h];exact⟨fun x=>.inr x,fun x=>x.resolve_left h⟩
def O7(l:List Int):(fJ l).length=1:=(rfl)
def ZP(l:List Int):(fJ l).getD 0 .any=.sl (l.map bC):=(rfl)
attribute [go_sem] O7 ZP
def DO{g:Nat}{cap:List AV}{p:Visit->Bool}(l:List (Visit))(hl:l.length<=1048576)(O:aE prog g=true)(hg:∀v∈l,PC prog g (.agg (aF v)::cap) (boo (p v))):
  PC prog 333 [.sl (l.map aF),.fn g cap] (int (pM p l 0)):=by
 refine pcd func333 rfl rfl ?_;simp only[go_sem];refine⟨fun ρ _=>∃k:Nat,k<=l.length/\ρ 0=.sl (l.map aF)/\ρ 1=.fn g cap/\ρ 7=int l.length/\ρ 8=int k/\∀u∈l.take k,p u=false,fun ρ _=>l.length-aR (ρ 8),⟨0,Xaa _,rfl,rfl,rfl,rfl,by simp⟩,?_⟩;rintro ρ H ⟨k,Y,h0,h1,V,U,J⟩;simp only[go_sem,V,U];refine aA (fun E=>?_) (fun F=>?_)
 ·have E:=aT E;obtain⟨u,I⟩:=aK E;have Z:=inB E;simp only[go_sem,h0,h1,U,aD I,Z,O];refine aG (hg u (Xac I)) ?_;simp only[go_sem,];apply aA <;> intro X
  ·simp only[go_sem];exact bO (by rw[lW J I X];omega)
  ·simp only[go_sem,h0,h1,V,U,aQ k];exact⟨⟨k+1,E,rfl,aO (p:=fun u=>p u=false) I X J⟩,msr E⟩
 ·have F:=aV Y F;subst F;rw[Xad]at J;simp only[go_sem];exact bO (by rw[kS J])
def uA{g:Nat}{cap:List AV}{p:Visit->Bool}(l:List (Visit))(I:l.length<=1048576)(E:aE prog g=true)(F:∀v∈l,PC prog g (.agg (aF v)::cap) (boo (p v))):
  PC prog 294 [.sl (l.map aF),.fn g cap] (boo (l.any p)):=by
 refine pcd func294 rfl rfl ?_;simp only[go_sem];refine aG (DO l I E F) ?_;simp only[go_sem];exact bR (rK l 0 (Xbp _))
def O1{g:Nat}{cap:List AV}{p:List Int->Bool}(l:List (List Int))(hl:l.length<=1048576)(O:aE prog g=true)(hg:∀v∈l,PC prog g (.sl (v.map bC)::cap) (boo (p v))):
  PC prog 342 [.sl (l.map fJ),.fn g cap] (int (pM p l 0)):=by
 refine pcd func342 rfl rfl ?_;simp only[go_sem];refine⟨fun ρ _=>∃k:Nat,k<=l.length/\ρ 0=.sl (l.map fJ)/\ρ 1=.fn g cap/\ρ 7=int l.length/\ρ 8=int k/\∀u∈l.take k,p u=false,fun ρ _=>l.length-aR (ρ 8),⟨0,Xaa _,rfl,rfl,rfl,rfl,by simp⟩,?_⟩;rintro ρ H ⟨k,Y,h0,h1,V,U,J⟩;simp only[go_sem,V,U];refine aA (fun E=>?_) (fun F=>?_)
 ·have E:=aT E;obtain⟨u,I⟩:=aK E;have Z:=inB E;simp only[go_sem,h0,h1,U,aD I,Z,O];refine aG (hg u (Xac I)) ?_;simp only[go_sem,];apply aA <;> intro X
  ·simp only[go_sem];exact bO (by rw[lW J I X];omega)
  ·simp only[go_sem,h0,h1,V,U,aQ k];exact⟨⟨k+1,E,rfl,aO (p:=fun u=>p u=false) I X J⟩,msr E⟩
 ·have F:=aV Y F;subst F;rw[Xad]at J;simp only[go_sem];exact bO (by rw[kS J])
def Hg{g:Nat}{cap:List AV}{p:List Int->Bool}(l:List (List Int))(I:l.length<=1048576)(E:aE prog g=true)(F:∀v∈l,PC prog g (.sl (v.map bC)::cap) (boo (p v))):
  PC prog 303 [.sl (l.map fJ),.fn g cap] (boo (l.any p)):=by
 refine pcd func303 rfl rfl ?_;simp only[go_sem];refine aG (O1 l I E F) ?_;simp only[go_sem];exact bR (rK l 0 (Xbp _))
def Yk(l:List Visit)(v:Visit)(hl:l.length<=1048576):PC prog 313 [.sl (l.map aF),.agg (aF v)] (int (bJ l v)):=by
 refine pcd func313 rfl rfl ?_;simp only[go_sem];refine⟨fun ρ _=>∃k:Nat,k<=l.length/\ρ 0=.sl (l.map aF)/\ρ 3=.rp (aF v) 0/\ρ 7=int l.length/\ρ 8=int k/\∀u∈l.take k,oT v u=false,fun ρ _=>l.length-aR (ρ 8),⟨0,Xaa _,rfl,rfl,rfl,rfl,by simp⟩,?_⟩;rintro ρ H ⟨k,Z,h0,Y,V,U,J⟩;simp only[go_sem,V,U];refine aA (fun E=>?_) (fun F=>?_)
 ·have E:=aT E;obtain⟨u,O⟩:=aK E;have b1:=inB E;have X:(v.order == u.order&&(v.drop == u.drop&&true))=oT v u:=by unfold oT;rw[show(v.order == u.order)=(u.order == v.order)from Xap.2 (by simp only[Xat];exact eq_comm),show(v.drop == u.drop)=(u.drop == v.drop)from by cases v.drop <;> cases u.drop <;> rfl]
  simp only[go_sem,U];refine dR ?_;simp only[go_sem,h0,Y,aD O,b1];apply aA <;> intro I
  ·have I:oT v u=true:=by rw[<-X];exact I
   simp only[go_sem];exact bO (by rw[bJ,lW J O I];omega)
  ·have I:oT v u=false:=by rw[<-X];exact I
   simp only[go_sem,h0,Y,V,U,aQ k];exact⟨⟨k+1,E,rfl,aO (p:=fun u=>oT v u=false) O I J⟩,msr E⟩
 ·have F:=aV Z F;subst F;rw[Xad]at J;simp only[go_sem];exact bO (by rw[bJ,kS J])
def inV(l:List Visit)(v:Visit):Bool:=decide (bJ l v>=0)
def VL(l:List Visit)(v:Visit)(E:l.length<=1048576):PC prog 334 [.sl (l.map aF),.agg (aF v)] (boo (inV l v)):=by refine pcd func334 rfl rfl ?_;simp only[go_sem];refine aG (Yk l v E) ?_;simp only[go_sem];exact .refl _
def Em(l:List Visit)(v:Visit)(E:l.length<=1048576):PC prog 266 [.sl (l.map aF),.agg (aF v)] (int (bJ l v)):=by refine pcd func266 rfl rfl ?_;simp only[go_sem];refine aG (Yk l v E) ?_;simp only[go_sem];exact .refl _
def iY(l:List Visit)(o:Int):Bool:=l.any fun v=>v.order == o
def atJ(o:Int)(v:Visit):PC prog 335 [.agg (aF v),.rp [int o] 0] (boo (v.order == o)):=by refine pcd func335 rfl rfl ?_;simp only[go_sem];exact .refl _
def ZI(o:Int)(v:Visit):PC prog 336 [.agg (aF v),.rp [int o] 0] (boo (v.order == o)):=by refine pcd func336 rfl rfl ?_;simp only[go_sem];exact .refl _
def Gt(l:List Visit)(o:Int)(E:l.length<=1048576):PC prog 299 [.sl (l.map aF),int o] (boo (iY l o)):=by refine pcd func299 rfl rfl ?_;simp only[go_sem];refine aG (uA (p:=fun v=>v.order == o) l E (by kernel_rfl) (fun v _=>atJ o v)) ?_;simp only[go_sem];exact .refl _
def XL(l:List Order)(k:Int):PC prog 172 [.sl (l.map bH),int k] (boo (!cK k l.length)):=by refine pcd func172 rfl rfl ?_;simp only[go_sem];refine bR ?_;unfold cK;rw[Xap];simp
def xB{α:Type}{p:α->Bool}{l:List α}{k:Nat}{x:α}(F:l[k]?=some x)(E:p x=false):l.all p=false:=by rw[List.all_eq_false];exact⟨x,Xac F,by simp[E]⟩
def Bq{α:Type}{p:α->Bool}{l:List α}(h:∀x∈l.take l.length,p x=true):l.all p=true:=by rw[Xad]at h;rw[Xaj];exact h
def arS(x:Int):xR .and .i64 x 1=x%2:=by
 have h:((BitVec.ofInt 64 x &&& BitVec.ofInt 64 1).toNat:Int)=x%2:=by
  rw[BitVec.toNat_and,BitVec.toNat_ofInt,BitVec.toNat_ofInt];have:((1:Int)%((2^64:Nat):Int)).toNat=1:=by decide
  rw[this,Nat.and_one_is_mod];omega
 refine Eq.trans (congrArg IntKind.i64.wrap h) ?_;exact aW (by omega)
def Jw{a b:Nat}(E:a<2^63)(I:b<2^63):xR .or .i64 (a:Int) (b:Int)=((a ||| b:Nat):Int):=by
 have h:((BitVec.ofInt 64 (a:Int) ||| BitVec.ofInt 64 (b:Int)).toNat:Int)=((a ||| b:Nat):Int):=by
  rw[BitVec.toNat_or,BitVec.toNat_ofInt,BitVec.toNat_ofInt];have h1:((a:Int)%((2^64:Nat):Int)).toNat=a:=by omega
  have F:((b:Int)%((2^64:Nat):Int)).toNat=b:=by omega
  rw[h1,F]
 refine Eq.trans (congrArg IntKind.i64.wrap h) ?_;have:=Nat.or_lt_two_pow E I;exact aW (by omega)
def wH{x:Int}{i:Nat}(h:i<=62):shV .shr .i64 x (i:Int)=x/2^i:=by
 show x.fdiv (2^min ((i:Int)).toNat 64)=_;have:min ((i:Int)).toNat 64=i:=by omega
 rw[this,Int.fdiv_eq_ediv_of_nonneg _ (by exact Int.le_of_lt (Int.pow_pos (by decide)))]
def JP{i:Nat}(h:i<=62):shV .shl .i64 1 (i:Int)=((2^i:Nat):Int):=by
 show IntKind.i64.wrap (1*2^min ((i:Int)).toNat 64)=_;have:min ((i:Int)).toNat 64=i:=by omega
 rw[this,Int.one_mul];have E:(2:Nat)^i<=2^62:=Xau (by decide) h;have F:((2:Int)^i)=((2^i:Nat):Int):=by norm_cast
 rw[F];generalize 2^i=m at E;exact aW (by omega)
def dN(set i:Int):Bool:=decide (i>=0)&&decide (i<=62)&&((set/2^i.toNat)%2 == 1)
def yJ(set i:Int):PC prog 118 [int set,int i] (boo (dN set i)):=by
 refine pcd func118 rfl rfl ?_;simp only[go_sem];refine⟨fun h=>?_,?_⟩
 ·simp at h;omega
 ·refine bR ?_;unfold dN;rw[arS];by_cases h:0<=i/\i<=62
  ·obtain⟨h0,h1⟩:=h;have e:=wH (x:=set) (i:=i.toNat) (by omega);rw[Int.toNat_of_nonneg h0]at e;rw[e]
  ·have:(decide (i>=0)&&decide (i<=62))=false:=by simp;omega
   rw[this];rfl
def wN(l:List Visit):Nat:=l.foldl (fun s v=>s ||| 2^v.order.toNat) 0
def adM(l:List Visit)(v:Visit):wN (l++[v])=wN l ||| 2^v.order.toNat:=by simp[wN]
def alB{m:Nat}(l:List Visit)(h:∀v∈l,v.order.toNat<m):wN l<2^m:=by
 suffices ∀(l:List Visit) (s:Nat),s<2^m->(∀v∈l,v.order.toNat<m)->l.foldl (fun s v=>s ||| 2^v.order.toNat) s<2^m from this l 0 (Nat.two_pow_pos m) h
 intro l;induction l with
 | nil=>intro s E _;exact E
 | cons v r ih=>intro s E h;rw[List.foldl_cons];exact ih _ (Nat.or_lt_two_pow E (Xdc (by decide) (h v (by simp)))) fun v F=>h v (by simp[F])
def Jq(l:List Visit)(i:Nat):(wN l).testBit i=l.any fun v=>v.order.toNat == i:=by
 suffices ∀(l:List Visit) (s:Nat),(l.foldl (fun s v=>s ||| 2^v.order.toNat) s).testBit i=(s.testBit i||l.any fun v=>v.order.toNat == i)from by have:=this l 0;simpa[wN]using this
 intro l;induction l with
 | nil=>intro s;simp
 | cons v r ih=>intro s;rw[List.foldl_cons,ih,Nat.testBit_or,Nat.testBit_two_pow,List.any_cons,Bool.or_assoc];rfl
def RB{s i:Nat}(h:s.testBit i=true):s ||| 2^i=s:=by
 apply Nat.eq_of_testBit_eq;intro j;rw[Nat.testBit_or,Nat.testBit_two_pow];by_cases e:i=j
 ·subst e;simp[h]
 ·simp[e]
def okV(v:Visit):Bool:= !(decide (v.order<0)||decide (v.order>62))
def uH(l:List Visit):Int×Int:=if l.all okV then(((wN l:Nat):Int),0)else(0,2)
def Z4(r:Route)(hr:r.visits.length<=1048576):PC prog 337 [.agg (bT r)] (.tup [int (uH r.visits).1,int (uH r.visits).2]):=by
 refine pcd func337 rfl rfl ?_;simp only[go_sem];refine⟨fun ρ _=>∃k:Nat,k<=r.visits.length/\ρ 8=.sl (r.visits.map aF)/\ρ 9=int r.visits.length/\ρ 10=int k/\ρ 4=int (wN (r.visits.take k):Nat)/\∀v∈r.visits.take k,okV v=true,fun ρ _=>r.visits.length-aR (ρ 10),⟨0,Xaa _,rfl,rfl,rfl,rfl,by simp⟩,?_⟩;rintro ρ H ⟨k,hk,h8,h9,J,h4,X⟩;simp only[go_sem,h9,J];refine aA (fun E=>?_) (fun I=>?_)
 ·have E:=aT E;obtain⟨v,O⟩:=aK E;have b1:=inB E;simp only[go_sem,h8,J,aD O,b1];refine aL fun j hj=>?_
  simp only[go_sem,];refine aI (aB _ _ _) (by simp[dJ]) ?_;simp only[go_sem,];apply aA <;> intro Z
  ·simp only[go_sem];have:uH r.visits=(0,2):=by unfold uH;rw[xB O (by unfold okV;rw[Z];rfl)];rfl
   rw[this];exact .refl _
  ·have U:okV v=true:=by unfold okV;rw[Z];rfl
   have V:0<=v.order/\v.order<=62:=by simp[okV]at U;omega
   have F:wN (r.visits.take k)<2^63:=alB _ fun v O=>by have:=X v O;simp[okV]at this;omega
   have Y:=JP (i:=v.order.toNat) (by omega);rw[Int.toNat_of_nonneg V.1]at Y;have e2:=Jw (a:=wN (r.visits.take k)) (b:=2^v.order.toNat) F (Xdc (by decide) (by omega));simp only[go_sem,h8,h9,J,h4,Y,e2,aQ k];refine⟨V.1,⟨k+1,E,rfl,?_,aO (p:=fun v=>okV v=true) O U X⟩,msr E⟩;rw[bA O,adM]
 ·have I:=aV hk I;subst I;simp only[go_sem,h4];have:uH r.visits=(((wN r.visits:Nat):Int),0):=by unfold uH;rw[Bq X];rfl
  rw[this,Xad];exact .refl _
def aiV{s i:Nat}(F:s<2^63)(hi:i<63)(h:s.testBit i=false):s ||| 2^i=s+2^i:=by
 have E:2^i<2^63:=Xdc (by decide) hi;have h0:BitVec.ofNat 64 s &&& BitVec.ofNat 64 (2^i)=0#64:=by
  apply BitVec.eq_of_toNat_eq;rw[BitVec.toNat_and,BitVec.toNat_ofNat,BitVec.toNat_ofNat,Xbl (by omega),Xbl (by omega)];apply Nat.eq_of_testBit_eq;intro j;rw[Nat.testBit_and,Nat.testBit_two_pow];by_cases e:i=j
  ·subst e;simp[h]
  ·simp[e]
 have h1:=congrArg BitVec.toNat (BitVec.add_eq_or_of_and_eq_zero (BitVec.ofNat 64 s) (BitVec.ofNat 64 (2^i)) h0);rw[BitVec.toNat_add,BitVec.toNat_or,BitVec.toNat_ofNat,BitVec.toNat_ofNat,Xbl (by omega:s<2^64),Xbl (by omega:2^i<2^64),Xbl (by omega)]at h1;exact h1.symm
def FE{n:Int}(h:0<=n/\n<18446744073709551616):IntKind.u64.wrap n=n:=Mv.aiT h
def jL{s:Nat}{i:Int}(h0:0<=i)(h1:i<=62):dN (s:Int) i=s.testBit i.toNat:=by
 rw[Xdd];unfold dN;have E:((2:Int)^i.toNat)=((2^i.toNat:Nat):Int):=by norm_cast
 have:((s:Int)/2^i.toNat)=((s/2^i.toNat:Nat):Int):=by rw[E];rfl
 rw[this];generalize s/2^i.toNat=m;rw[Xap];simp only[Xat,decide_eq_true_eq,Xai];omega
def Fg{s:Nat}{i:Int}(h0:0<=i)(h1:i<=62):rG (s:Int) i=s.testBit i.toNat:=by
 rw[<-jL h0 h1];unfold rG dN;rw[FE (by omega)];obtain⟨n,rfl⟩:=Int.eq_ofNat_of_zero_le h0;rw[wH (by omega)];have E:((2:Int)^n)=((2^n:Nat):Int):=by norm_cast
 have e:((n:Int)).toNat=n:=Xaq n;rw[e];have:((s:Int)/2^n)=((s/2^n:Nat):Int):=by rw[E];rfl
 rw[this];generalize s/2^n=m;rw[Xck (by omega)];rw[Xap];simp only[Xat,decide_eq_true_eq,Xai];omega
def afS{s:Nat}{n:Int}(J:s<2^63)(h0:0<=n)(h1:n<=62):Wl (s:Int) n=((s ||| 2^n.toNat:Nat):Int):=by
 unfold Wl;rw[Fg h0 h1];cases F:s.testBit n.toNat with
 | true=>rw[if_pos rfl,RB F]
 | false=>rw[if_neg (by simp),FE (by omega)];obtain⟨k,rfl⟩:=Int.eq_ofNat_of_zero_le h0;have e:((k:Int)).toNat=k:=Xaq k;rw[e]at F |-;have O:2^k<2^63:=Xdc (by decide) (by omega);have E:=aiV J (by omega) F;have I:=Nat.or_lt_two_pow J O;rw[E]at I |-;rw[JP (by omega),aW (by omega)];omega
def Ca{l:List Visit}(h:∀v∈l,AA v=false):Gi l=(wN l:Nat):=by
 suffices ∀(l:List Visit) (s:Nat),s<2^63->(∀v∈l,AA v=false)->l.foldl (fun s v=>Wl s v.order) (s:Int)=((l.foldl (fun s v=>s ||| 2^v.order.toNat) s:Nat):Int)from this l 0 (by decide) h
 intro l;induction l with
 | nil=>intro s _ _;rfl
 | cons v r ih=>intro s F h;have E:=h v (by simp);unfold AA at E;simp only[Xag,decide_eq_false_iff_not]at E;rw[List.foldl_cons,List.foldl_cons,afS F (by omega) (by omega)];exact ih _ (Nat.or_lt_two_pow F (Xdc (by decide) (by omega))) fun u I=>h u (by simp[I])
def XS(v:Visit):okV v= !AA v:=rfl
def Je(l:List Visit):uH l=cT l:=by
 unfold uH cT;by_cases h:l.any AA=true
 ·rw[if_pos h,if_neg];rw[Xaj];intro J;obtain⟨v,E,F⟩:=Xao.1 h;have:=J v E;rw[XS,F]at this;cases this
 ·have I : ∀ v ∈ l, AA v = false := fun v E => by
   cases F:AA v with
   | false=>rfl
   | true=>exact absurd (Xao.2 ⟨v,E,F⟩) h
  rw[if_neg h,if_pos (Xaj.2 fun v E=>by rw[XS,I v E];rfl),Ca I]
def Jt(r:Route)(E:r.visits.length<=1048576):PC prog 337 [.agg (bT r)] (.tup [int (cT r.visits).1,int (cT r.visits).2]):=Je r.visits▸Z4 r E
def IK{l:List Visit}(h:∀v∈l,AA v=false){i:Int}(h0:0<=i)(h1:i<=62):dN (cT l).1 i=iY l i:=by
 have e:(cT l).1=(wN l:Nat):=by unfold cT;rw[if_neg (by rw[qA h];simp)];exact Ca h
 rw[e,jL h0 h1,Jq];unfold iY;refine Mv.sT fun v F=>?_
 have E:=h v F;unfold AA at E;simp only[Xag,decide_eq_false_iff_not]at E;rw[Xap];simp only[Xat];omega
def uM{l:List Visit}(h:∀v∈l,AA v=false){i:Int}(h0:0<=i)(h1:i<=62):rG (cT l).1 i=iY l i:=by
 rw[<-IK h h0 h1];have e:(cT l).1=(wN l:Nat):=by unfold cT;rw[if_neg (by rw[qA h];simp)];exact Ca h
 rw[e,Fg h0 h1,jL h0 h1]
end Sq
end Go.Proofs.YtpagaknmdfgfkaaGreatDoor
