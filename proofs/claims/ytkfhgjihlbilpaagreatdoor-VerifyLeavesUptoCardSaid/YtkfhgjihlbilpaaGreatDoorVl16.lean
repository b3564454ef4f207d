import Derived.Test.YtkfhgjihlbilpaaGreatDoorVl14
import Derived.Test.YtkfhgjihlbilpaaGreatDoorVl15
set_option linter.unusedSimpArgs false
set_option linter.unusedVariables false
set_option linter.defProp false
set_option maxRecDepth 100000
namespace Go.Proofs.YtkfhgjihlbilpaaGreatDoor
open Go.Aw Go.Aw.D Go.Proofs Ty
namespace Nu
open Go.Nu Go.So Go.Sb
abbrev hlf:ByteArray:=⟨#[49,47,50]⟩
end Nu
namespace Nu
open Go.Proofs.Tryz
open Go.Nu Go.So Go.Sb
def acP{l:List Int}{d:Int}(h:Ee l d=true):1<=(l.length:Int)/\(l.length:Int)<=3/\(l.length:Int)=d/\∀n∈l,0<=n/\n<=1000:=by
 unfold Ee at h;split at h
 ·cases h
 ·next h1=>
  simp only[Bool.or_eq_true,not_or,Bool.not_eq_true,Xbw,bne_eq_false_iff_eq]at h1
  grind[nB]
def afF{l:List Int}{d:Int}(h:fS l d=true):(l.length:Int)=d/\∀n∈l,0<=n/\n<=1000:=by grind[fS]
def Li{x:Instance}(h:Acc x):LoadsOk x (mO x.types).toNat/\x.types≠[]:=by
 have A:x.types≠[]:=by
  intro h0;have:=h.types
  grind
 obtain⟨t,r,E⟩:=List.exists_cons_of_ne_nil A;have J:mO x.types=t.cap.length:=by rw[E];rfl
 have F:=acP (h.type t (by grind)).cap;have e:((mO x.types).toNat:Int)=mO x.types:=by omega
 refine⟨⟨by omega,by have:=h.y5;omega,by have:=h.types;omega,fun o I=>?_,fun t E=>?_⟩,A⟩
 ·have:=afF (h.order o I).load
  grind
 ·have:=acP (h.type t E).cap
  grind
def avR(c:Cut)(E:Nat)(h:0<=c.set)(A:c.set<9223372036854775808)(F:E<2^63):PC prog 146 [.agg (dD c),int E] (int (B0 c.kind (c.set.toNat &&& E))):=by obtain⟨k,s,n⟩:=c;obtain⟨m,rfl⟩:=Int.eq_ofNat_of_zero_le h;have A:(m:Int)<9223372036854775808:=A;exact aAW k n m E (by omega) F
def axJ(c:Cut)(E:Nat)(h:0<=c.set)(A:c.set<9223372036854775808)(F:E<2^63):PC prog 113 [.agg (dD c),int E] (int (B0 c.kind (c.set.toNat &&& E))):=by obtain⟨k,s,n⟩:=c;obtain⟨m,rfl⟩:=Int.eq_ofNat_of_zero_le h;have A:(m:Int)<9223372036854775808:=A;exact aqT k n m E (by omega) F
end Nu
namespace Nu
open Go.Proofs.Tryz
open Go.Nu
open Dec (kE fB dJ cX pJ mS)
def aAO(x:Instance):List Nat:=(List.range x.y5.length).filter (uK (fun _=>true) x.y5)
def eI(x:Instance):List Int:=(aAO x).map fun i:Nat=>(i:Int)
def L8(x:Instance)(k:Nat):List Int:=((List.range k).filter (uK (fun _=>true) x.y5)).map fun i:Nat=>(i:Int)
def Lv{x:Instance}{k:Nat}{o:Order}(h:x.y5[k]?=some o):L8 x (k+1)=L8 x k++(if o.off=true then[]else[(k:Int)]):=by
 unfold L8;rw[Xas,List.filter_append,Xaq];have e:=xM (q:=fun _=>true) h
 grind
def OK(x:Instance)(k:Nat):(L8 x k).length<=k:=by
 unfold L8
 grind
def oK(x:Instance):(eI x).length<=x.y5.length:=OK x _
def acK{x:Instance}{i:Int}(h:i∈eI x):∃n o,i=(n:Nat)/\n<x.y5.length/\x.y5[n]?=some o/\o.off=false:=by
 obtain⟨n,E,rfl⟩:=Xao.1 h;obtain⟨h1,F⟩:=List.mem_filter.1 E;have A:=Xan.1 h1;obtain⟨o,I⟩:=aK A
 grind[xM]
def ES{p q:Nat->Bool}{n:Nat}(h1:∀i,i<n->p i=q i)(A:∀i,n<=i->p i=false):∀m,(List.range (n+m)).filter p=(List.range n).filter q
 | 0=>List.filter_congr fun i E=>h1 i (Xan.1 E)
 | m+1=>by rw[<-Nat.add_assoc,Xas,List.filter_append,ES h1 A m];simp[A (n+m) (by omega)]
def P9(x:Instance)(h:x.y5.length<=62):dA (Gu x:Nat)=eI x:=by
 unfold dA rL eI aAO
 congr 1
 obtain⟨m,hm⟩:∃m,63=x.y5.length+m:=⟨63-x.y5.length,by omega⟩;have E:∀i,(Gu x).testBit i=(decide (i<x.y5.length)&&uK (fun _=>true) x.y5 i):=fun i=>qR _ _ _
 have A:∀i:Nat,dI ((Gu x:Nat):Int) (i:Int)=(decide (i<x.y5.length)&&uK (fun _=>true) x.y5 i):=by grind[dI]
 simp_all[ES,decide_eq_false]
def xC(b:Bool):Int:=if b=true then 1 else 0
def FX(d:Decision):Bool:=d.kind == 3||d.kind == 4
def alE(l:List Decision)(k:Nat):((l.take k).filter FX).length<=k:=Xaf (Xbs _ _) (by grind)
def oV{α:Type}{p:α->Bool}{l:List α}{k:Nat}{a:α}(h:l[k]?=some a):(l.take (k+1)).filter p=(l.take k).filter p++(if p a=true then[a]else[]):=by
 rw[aY h,List.filter_append]
 grind
def Fx(b:Bool):PC prog 111 [boo b] (int (xC b)):=by
 refine pcd func111 rfl rfl ?_;simp only[go_sem];apply aA <;> intro A
 ·simp only[go_sem];subst A;exact .refl _
 ·simp only[go_sem];subst A;exact .refl _
def ZO(s:Nat)(i:Int)(A:s<2^63):PC prog 112 [int s,int i] (boo (dI s i)):=by
 refine pcd func112 rfl rfl ?_;simp only[go_sem];refine⟨fun _=>by decide,?_⟩;refine cB ?_;unfold dI;rw[decide_eq_true (show((s:Nat):Int)>=0 by omega),Xay];by_cases h:0<=i/\i<=62
 ·obtain⟨n,rfl⟩:=Int.eq_ofNat_of_zero_le h.1;rw[show IntKind.u64.wrap ((n:Nat):Int)=((n:Nat):Int)from by show((n:Nat):Int)%18446744073709551616=_;omega,vE (by omega)];rfl
 grind
def acR(d:Decision):PC prog 114 [.agg (aO d)] (boo (FX d)):=by refine pcd func114 rfl rfl ?_;simp only[go_sem];exact .refl _
abbrev gV(l:List Int):Row:=⟨3,1,l.map aP⟩
def tQ(x:Instance)(h:x.y5.length<=1048576):PC prog 108 [.agg (aD x)] (.sl ((eI x).map aP)):=by
 refine pcb (fun t=>t == 3) func108 rfl rfl ?_;simp only[go_sem];refine aH fun j Z=>?_
 simp only[go_sem];refine⟨fun ρ H=>∃(k:Nat) (j:Nat),k<=x.y5.length/\ρ 1=.rp (aD x) 0/\ρ 4=int k/\ρ 3=.os j/\H j=some (gV (L8 x k)),fun ρ _=>x.y5.length-aT (ρ 4),⟨0,j,Xaa _,rfl,(by rfl),rfl,aB _ _ _⟩,?_⟩;rintro ρ H ⟨k,j,Y,I,F,O,R⟩;simp only[go_sem,I,F];refine aA (fun A=>?_) (fun E=>?_)
 ·have A:=ltB (by omega);obtain⟨o,T⟩:=aK A;have U:=inB A;have hl:=OK x k;have J:=Lv T;simp only[go_sem,I,F,aC T,U];apply aA <;> intro hb
  ·rw[if_neg (by grind)]at J;simp only[go_sem,F,O];refine aU R ⟨rfl,rfl⟩ ⟨rfl,trivial⟩ (by grind) (fun j' X=>?_);simp only[go_sem,I,F,aQ k];refine⟨⟨k+1,j',A,rfl,rfl,?_⟩,msr A⟩;rw[J];exact eK rfl
  ·rw[if_pos (by grind),Xat]at J;simp only[go_sem,I,F,O,aQ k];exact⟨⟨k+1,j,A,rfl,rfl,by grind⟩,msr A⟩
 have E:=geB Y (by omega);subst E;simp only[go_sem,O];exact .row _ _ _ R (ConvE.refl _)
def fU(x:Instance)(y8:List Cut)(ds:List Decision):Nat:=(eI x).length+x.types.length+y8.length+(ds.filter FX).length
structure MIn(x:Instance)(y8:List Cut)(ds:List Decision):Prop where
 y5:x.y5.length<=62
 types:x.types.length<=1048576
 cl:y8.length<=1048576
 dl:ds.length<=1048576
def akM(x:Instance)(y8:List Cut)(ds:List Decision)(h:MIn x y8 ds):PC prog 107 [.agg (aD x),.sl (y8.map dD),.sl (ds.map aO)] (int (fU x y8 ds:Nat)):=by
 have h1:=h.y5;have h2:=h.types;have h3:=h.cl;have h4:=h.dl;have Z:=oK x;refine pcd func107 rfl rfl ?_;simp only[go_sem];refine jK [(0,true),(3,true),(4,true),(5,true),(7,true),(8,true),(1,false),(2,false),(6,false),(9,false),(10,false)] (by kernel_rfl) ?_;simp only[go_sem,Xac];refine aL (tQ x (by omega)) ?_;have w1:IntKind.i64.wrap (((eI x).length:Int)+(x.types.length:Int))=(((eI x).length+x.types.length:Nat):Int):=by grind[aW]
 have X:IntKind.i64.wrap ((((eI x).length+x.types.length:Nat):Int)+(y8.length:Int))=(((eI x).length+x.types.length+y8.length:Nat):Int):=by grind[aW]
 simp only[go_sem,Xac,w1,X];refine⟨fun ρ H=>∃(k:Nat),k<=ds.length/\ρ 2=.sl (ds.map aO)/\ρ 8=int k/\ρ 7=int ((eI x).length+x.types.length+y8.length+((ds.take k).filter FX).length:Nat),fun ρ _=>ds.length-aT (ρ 8),⟨0,Xaa _,rfl,(by rfl),by rfl⟩,?_⟩;rintro ρ H ⟨k,Y,F,J,I⟩;simp only[go_sem,F,J];refine aA (fun A=>?_) (fun E=>?_)
 ·have A:=ltB (by omega);obtain⟨d,T⟩:=aK A;have U:=inB A;have O:=oV (p:=FX) T;have hl:=alE ds k;simp only[go_sem,F,J,aC T,U];refine aL (acR d) ?_;simp only[go_sem];apply aA <;> intro hb
  ·rw[if_pos hb]at O;have w:IntKind.i64.wrap (((((eI x).length+x.types.length+y8.length+((ds.take k).filter FX).length:Nat)):Int)+1)=(((eI x).length+x.types.length+y8.length+((ds.take (k+1)).filter FX).length:Nat):Int):=by grind[aW]
   simp only[go_sem,F,J,I,w,aQ k];exact⟨⟨k+1,A,rfl,rfl⟩,msr A⟩
  ·rw[if_neg (by grind),Xat]at O;simp only[go_sem,F,J,I,aQ k];exact⟨⟨k+1,A,rfl,by rw[O]⟩,msr A⟩
 have E:=geB Y (by omega);subst E;rw[Xad]at I;simp only[go_sem,I];exact .refl _
def zG(ds:List Decision)(i:Int):Bool:=ds.any fun d=>d.kind == 5&&d.a == i
def TV{ds:List Decision}{k:Nat}{d:Decision}{i:Int}(h:ds[k]?=some d):zG (ds.take (k+1)) i=(zG (ds.take k) i||(d.kind == 5&&d.a == i)):=by simp_all[zG,aY]
def KU(x:Instance)(i:Int):Int:=(nK x.y5 i).η
def zA(x:Instance)(ds:List Decision)(i:Int):Bool:=decide (KU x i>=0)&& !zG ds i
def iG(x:Instance)(ds:List Decision):List Int:=(eI x).filter (zA x ds)
def D4{α:Type}(p:α->Bool)(l:List α)(k:Nat):((l.take k).filter p).length<=k:=Xaf (Xbs _ _) (by grind)
def Nk(x:Instance)(ds:List Decision)(hx:x.y5.length<=62)(hd:ds.length<=1048576):PC prog 48 [.agg (aD x),.sl (ds.map aO)] (.sl ((iG x ds).map aP)):=by
 have ae:=oK x;refine pcb (fun t=>t == 5) func48 rfl rfl ?_;simp only[go_sem];refine aH fun j hj=>?_
 simp only[go_sem];refine aL (tQ x (by omega)) ?_;simp only[go_sem];refine⟨fun ρ H=>∃(k:Nat) (j:Nat),k<=(eI x).length/\ρ 1=.sl (ds.map aO)/\ρ 2=.rp (aD x) 0/\ρ 6=.sl ((eI x).map aP)/\ρ 7=int k/\ρ 5=.os j/\H j=some (gV (((eI x).take k).filter (zA x ds))),fun ρ _=>(eI x).length-aT (ρ 7),⟨0,j,Xaa _,by rfl,by rfl,by rfl,(by rfl),by rfl,aB _ _ _⟩,?_⟩;rintro ρ H ⟨k,j,hk,E,F,O,J,A,R⟩;simp only[go_sem,E,F,O,J,A];refine aA (fun I=>?_) (fun T=>?_)
 ·have I:=ltB (by omega);obtain⟨i,Y⟩:=aK I;have b1:=inB I;obtain⟨n,o,rfl,hn,ho,aa⟩:=acK (Xab Y);have b2:=inB hn;have hs:=oV (p:=zA x ds) Y;have hl:=D4 (zA x ds) (eI x) k;have Z:KU x (n:Int)=o.η:=by grind[KU,iQ]
  simp only[go_sem,E,F,O,J,A,aC Y,b1];refine jD (by rfl) (by kernel_rfl) ?_;simp only[go_sem,E,F,O,J,A,aC Y,b1,aC ho,b2];generalize k=K at *;refine⟨fun ρ H=>∃(k:Nat),k<=ds.length/\ρ 1=.sl (ds.map aO)/\ρ 2=.rp (aD x) 0/\ρ 6=.sl ((eI x).map aP)/\ρ 7=int (K:Nat)/\ρ 9=int k/\ρ 5=.os j/\ρ 8=boo (decide (KU x (n:Int)>=0)&& !zG (ds.take k) (n:Int))/\H j=some (gV (((eI x).take K).filter (zA x ds))),fun ρ _=>ds.length-aT (ρ 9),⟨0,Xaa _,by simp only[go_sem,E,F,A,O,J],by simp only[go_sem,E,F,A,O,J],by simp only[go_sem,E,F,A,O,J],by simp only[go_sem,E,F,A,O,J],(by rfl),by simp only[go_sem,E,F,A,O,J],by simp only[go_sem,Z];simp[zG],R⟩,?_⟩;rintro ρ H ⟨k,hk,E,F,O,J,X,A,U,R⟩;simp only[go_sem,E,F,O,J,X,A,U];refine aA (fun I=>?_) (fun T=>?_)
  ·have I:=ltB (by omega);obtain⟨d,hd⟩:=aK I;have b3:=inB I;have ab:=TV (i:=(n:Int)) hd;simp only[go_sem,E,F,O,J,X,A,U,aC hd,b3];refine jD (by rfl) (by kernel_rfl) ?_;simp only[go_sem,E,F,O,J,X,A,U,aC hd,b3,aC Y,b1];simp only[aQ k];refine⟨⟨k+1,I,rfl,?_,R⟩,by grind[aJ]⟩
   grind
  have T:=geB hk (by omega);subst T;rw[Xad]at U
  change ρ 8=boo (zA x ds (n:Int))at U
  simp only[go_sem,E,F,O,J,X,A,U];refine aA (fun hb=>?_) (fun hb=>?_)
  ·rw[if_pos hb]at hs;simp only[go_sem,E,F,O,J,X,A,U,aC Y,b1];refine aU R ⟨rfl,rfl⟩ ⟨rfl,trivial⟩ (by grind) (fun j' ac=>?_);simp only[go_sem,E,F,O,J,X,A,U,aQ K];refine⟨⟨K+1,j',by omega,rfl,rfl,?_⟩,by grind[aJ]⟩;rw[hs];exact eK rfl
  ·rw[if_neg (by grind),Xat]at hs;simp only[go_sem,E,F,O,J,X,A,U,aQ K];exact⟨⟨K+1,j,by omega,rfl,rfl,by grind⟩,by grind[aJ]⟩
 have T:=geB hk (by omega);subst T;rw[Xad]at R;simp only[go_sem,E,F,A,O,J];exact .row _ _ _ R (ConvE.refl _)
def oM(x:Instance)(c:Column):List Int:=(eI x).map fun i=>xC (dI c.set i)
def lI(x:Instance)(c:Column)(k:Nat):List Int:=(List.range k).map fun t:Nat=>xC (c.type == (t:Int))
def oT(c:Column)(y8:List Cut):List Int:=y8.map fun q=>B0 q.kind (q.set.toNat &&& c.set.toNat)
def sD(c:Column)(ds:List Decision):List Int:=(ds.filter FX).map fun d=>xC (c.type == d.a)
def tG(x:Instance)(c:Column)(y8:List Cut)(ds:List Decision):List Int:=oM x c++lI x c x.types.length++oT c y8++sD c ds
structure ColB(c:Column):Prop where
 set:0<=c.set/\c.set<=9223372036854775807
structure CutsB(y8:List Cut):Prop where
 set:∀q∈y8,0<=q.set/\q.set<=9223372036854775807
def Bw(x:Instance)(c:Column)(y8:List Cut)(ds:List Decision):(tG x c y8 ds).length=fU x y8 ds:=by grind[tG,oM,lI,oT,sD,fU]
def agS(x:Instance)(c:Column)(y8:List Cut)(ds:List Decision)(h:MIn x y8 ds)(hc:ColB c)(hq:CutsB y8):
  PC prog 47 [.agg (aD x),.agg (bC c),.sl (y8.map dD),.sl (ds.map aO)] (.sl ((tG x c y8 ds).map aP)):=by
 have h1:=h.y5;have h2:=h.types;have h3:=h.cl;have h4:=h.dl;have ai:=oK x;obtain⟨sn,aa⟩:=Int.eq_ofNat_of_zero_le hc.set.1;have T:sn<2^63:=by have:=hc.set.2;omega
 refine pcb (fun t=>t == 9) func47 rfl rfl ?_;simp only[go_sem];refine aH fun j hj=>?_
 simp only[go_sem];refine aL (tQ x (by omega)) ?_;simp only[go_sem];refine⟨fun ρ H=>∃(k:Nat) (j:Nat),k<=(eI x).length/\ρ 2=.sl (y8.map dD)/\ρ 3=.sl (ds.map aO)/\ρ 4=.rp (aD x) 0/\ρ 5=.rp (bC c) 0/\ρ 10=.sl ((eI x).map aP)/\ρ 11=int k/\ρ 9=.os j/\H j=some (gV (((eI x).take k).map fun i=>xC (dI c.set i))),fun ρ _=>(eI x).length-aT (ρ 11),⟨0,j,Xaa _,rfl,rfl,rfl,rfl,rfl,(by rfl),rfl,aB _ _ _⟩,?_⟩;rintro ρ H ⟨k,j,hk,U,I,e4,F,af,ac,J,R⟩;simp only[go_sem,af,ac];refine aA (fun A=>?_) (fun E=>?_)
 ·have A:=ltB (by omega);obtain⟨i,hi⟩:=aK A;have X:=inB A;simp only[go_sem,X];refine jK [(0,true),(1,true),(2,true),(3,true),(4,true),(5,true),(6,true),(7,false),(8,false),(9,false),(10,false),(11,false)] (by kernel_rfl) ?_;simp only[go_sem,F,af,ac,J,aC hi,X,aa];refine aL (ZO sn i T) ?_;simp only[go_sem];refine aL (Fx _) ?_;simp only[go_sem];refine aU R ⟨rfl,rfl⟩ ⟨rfl,trivial⟩ (by grind) (fun j' Z=>?_);simp only[go_sem,U,I,e4,F,af,ac,aQ k];refine⟨⟨k+1,j',A,rfl,rfl,?_⟩,msr A⟩;rw[aY hi,Xaq,aa];exact eK rfl
 have E:=geB hk (by omega);subst E;rw[Xad]at R
 change H j=some (gV (oM x c))at R
 simp only[go_sem];refine⟨fun ρ H=>∃(k:Nat) (j:Nat),k<=x.types.length/\ρ 2=.sl (y8.map dD)/\ρ 3=.sl (ds.map aO)/\ρ 4=.rp (aD x) 0/\ρ 5=.rp (bC c) 0/\ρ 12=int k/\ρ 9=.os j/\H j=some (gV (oM x c++lI x c k)),fun ρ _=>x.types.length-aT (ρ 12),⟨0,j,Xaa _,by simp only[go_sem,U,],by simp only[go_sem,I,],e4,F,(by rfl),J,by grind[lI]⟩,?_⟩;rintro ρ H ⟨k,j,hk,U,I,e4,F,ab,J,R⟩;simp only[go_sem,e4,ab];refine aA (fun A=>?_) (fun E=>?_)
 ·have A:=ltB (by omega);have Y:(oM x c++lI x c k).length<=62+k:=by grind[oM,lI]
  simp only[go_sem,F,ab,J];refine aL (Fx _) ?_;simp only[go_sem];refine aU R ⟨rfl,rfl⟩ ⟨rfl,trivial⟩ (by grind) (fun j' Z=>?_);simp only[go_sem,U,I,e4,F,ab,aQ k];refine⟨⟨k+1,j',A,rfl,rfl,?_⟩,msr A⟩;have:lI x c (k+1)=lI x c k++[xC (c.type == (k:Int))]:=by grind[lI,Xas]
  rw[this,<-Xaw];exact eK rfl
 have E:=geB hk (by omega);subst E;simp only[go_sem];refine⟨fun ρ H=>∃(k:Nat) (j:Nat),k<=y8.length/\ρ 2=.sl (y8.map dD)/\ρ 3=.sl (ds.map aO)/\ρ 5=.rp (bC c) 0/\ρ 13=int k/\ρ 9=.os j/\H j=some (gV (oM x c++lI x c x.types.length++oT c (y8.take k))),fun ρ _=>y8.length-aT (ρ 13),⟨0,j,Xaa _,by simp only[go_sem,U,],I,F,(by rfl),J,by grind[oT]⟩,?_⟩;rintro ρ H ⟨k,j,hk,U,I,F,ae,J,R⟩;simp only[go_sem,U,ae];refine aA (fun A=>?_) (fun E=>?_)
 ·have A:=ltB (by omega);obtain⟨q,ag⟩:=aK A;have X:=inB A;have ah:=hq.set q (Xab ag);have Y:(oM x c++lI x c x.types.length++oT c (y8.take k)).length<=62+1048576+1048576:=by grind[oM,lI,oT]
  simp only[go_sem,X];refine jK [(0,true),(1,true),(2,true),(3,true),(4,true),(5,true),(6,true),(7,false),(8,false),(9,false),(10,false)] (by kernel_rfl) ?_;simp only[go_sem,U,F,ae,J,aC ag,X,aa];refine aL (axJ q sn ah.1 (by omega) T) ?_;simp only[go_sem];refine aU R ⟨rfl,rfl⟩ ⟨rfl,trivial⟩ (by grind) (fun j' Z=>?_);simp only[go_sem,U,I,F,ae,aQ k];refine⟨⟨k+1,j',A,rfl,rfl,?_⟩,msr A⟩;have:oT c (y8.take (k+1))=oT c (y8.take k)++[B0 q.kind (q.set.toNat &&& sn)]:=by simp_all[oT,aY]
  rw[this,<-Xaw];exact eK rfl
 have E:=geB hk (by omega);subst E;rw[Xad]at R;simp only[go_sem];refine⟨fun ρ H=>∃(k:Nat) (j:Nat),k<=ds.length/\ρ 3=.sl (ds.map aO)/\ρ 5=.rp (bC c) 0/\ρ 14=int k/\ρ 9=.os j/\H j=some (gV (oM x c++lI x c x.types.length++oT c y8++sD c (ds.take k))),fun ρ _=>ds.length-aT (ρ 14),⟨0,j,Xaa _,I,F,(by rfl),J,by grind[sD]⟩,?_⟩;rintro ρ H ⟨k,j,hk,I,F,O,J,R⟩;simp only[go_sem,I,O];refine aA (fun A=>?_) (fun E=>?_)
 ·have A:=ltB (by omega);obtain⟨d,hd⟩:=aK A;have X:=inB A;have hs:=oV (p:=FX) hd;have Y:(oM x c++lI x c x.types.length++oT c y8++sD c (ds.take k)).length<=62+1048576+1048576+1048576:=by grind[oM,lI,oT,sD]
  simp only[go_sem,I,O,aC hd,X];refine aL (acR d) ?_;simp only[go_sem];apply aA <;> intro hb
  ·rw[if_pos hb]at hs;have:sD c (ds.take (k+1))=sD c (ds.take k)++[xC (d.a == c.type)]:=by grind[sD]
   simp only[go_sem];refine jK [(0,true),(1,true),(2,true),(3,true),(4,true),(5,true),(6,true),(7,true),(8,true),(9,false),(10,false),(11,false),(12,false)] (by kernel_rfl) ?_;simp only[go_sem,I,F,O,J,aC hd,X];refine aL (Fx _) ?_;simp only[go_sem];refine aU R ⟨rfl,rfl⟩ ⟨rfl,trivial⟩ (by grind) (fun j' Z=>?_);simp only[go_sem,I,F,O,aQ k];refine⟨⟨k+1,j',A,rfl,rfl,?_⟩,msr A⟩;rw[this,<-Xaw];exact eK rfl
  ·rw[if_neg (by grind),Xat]at hs;simp only[go_sem,I,F,O,J,aQ k];refine⟨⟨k+1,j,A,rfl,rfl,?_⟩,msr A⟩
   grind[sD]
 have E:=geB hk (by omega);subst E;rw[Xad]at R;simp only[go_sem,J];exact .row _ _ _ R (ConvE.refl _)
theorem Gg(m:List (Int×Int))(o v q:Int):tU (Eb m o v) q=if q=o then v else tU m q:=by unfold tU Eb Dv;induction m<;>grind
def aAD(d:Decision):PC prog 147 [.agg (aO d)] (boo (FX d)):=by refine pcd func147 rfl rfl ?_;simp only[go_sem];exact .refl _
def Nd(b:Bool):PC prog 90 [boo b] (int (xC b)):=by
 refine pcd func90 rfl rfl ?_;simp only[go_sem];apply aA <;> intro A
 ·simp only[go_sem];subst A;exact .refl _
 ·simp only[go_sem];subst A;exact .refl _
def avE(x:Instance)(c:Column)(y8:List Cut)(ds:List Decision)(h:MIn x y8 ds)(hc:ColB c)(hq:CutsB y8):
  PC prog 87 [.agg (aD x),.agg (bC c),.sl (y8.map dD),.sl (ds.map aO)] (.sl ((tG x c y8 ds).map aP)):=by
 have h1:=h.y5;have h2:=h.types;have h3:=h.cl;have h4:=h.dl;have ay:=oK x;obtain⟨sn,av⟩:=Int.eq_ofNat_of_zero_le hc.set.1;have aa:sn<2^63:=by have:=hc.set.2;omega
 refine pcb (fun t=>t == 9) func87 rfl rfl ?_;simp only[go_sem];refine eJ fun j au aq (R:au j=some (gV [])) N=>?_
 clear N aq;simp only[go_sem];refine aL (Ta x h1) ?_;simp only[go_sem];refine aL (mN _) ?_;rw[P9 x h1];simp only[go_sem];refine⟨fun ρ H=>∃(k:Nat) (j:Nat),k<=(eI x).length/\ρ 2=.sl (y8.map dD)/\ρ 3=.sl (ds.map aO)/\ρ 4=.rp (aD x) 0/\ρ 5=.rp (bC c) 0/\ρ 19=.sl ((eI x).map aP)/\ρ 20=int ((eI x).length:Nat)/\ρ 21=int k/\ρ 9=.os j/\H j=some (gV (((eI x).take k).map fun i=>xC (dI c.set i))),fun ρ _=>(eI x).length-aT (ρ 21),⟨0,j,Xaa _,rfl,rfl,rfl,rfl,rfl,rfl,(by rfl),rfl,R⟩,?_⟩;rintro ρ H ⟨k,j,hk,e2,X,e4,F,an,al,ah,I,R⟩;simp only[go_sem,al,ah];refine aA (fun A=>?_) (fun E=>?_)
 ·have A:=ltB (by omega);obtain⟨i,hi⟩:=aK A;have b1:=inB A;simp only[go_sem,F,an,ah,I,aC hi,b1];refine aL (Ai _ i) ?_;simp only[go_sem];refine aL (Nd _) ?_;simp only[go_sem];refine aU R ⟨rfl,rfl⟩ ⟨rfl,trivial⟩ (by grind) (fun j' ab=>?_);simp only[go_sem,e2,X,e4,F,an,al,ah,aQ k];refine⟨⟨k+1,j',A,rfl,rfl,?_⟩,msr A⟩;rw[aY hi,Xaq];exact eK rfl
 have E:=geB hk (by omega);subst E;rw[Xad]at R
 change H j=some (gV (oM x c))at R
 simp only[go_sem,e4,Xac];refine⟨fun ρ H=>∃(k:Nat) (j:Nat),k<=x.types.length/\ρ 2=.sl (y8.map dD)/\ρ 3=.sl (ds.map aO)/\ρ 5=.rp (bC c) 0/\ρ 36=int (x.types.length:Nat)/\ρ 37=int k/\ρ 9=.os j/\H j=some (gV (oM x c++lI x c k)),fun ρ _=>x.types.length-aT (ρ 37),⟨0,j,Xaa _,by simp only[go_sem,e2,],X,F,by rfl,(by rfl),I,by grind[lI]⟩,?_⟩;rintro ρ H ⟨k,j,hk,e2,X,F,ak,Z,I,R⟩;simp only[go_sem,ak,Z];refine aA (fun A=>?_) (fun E=>?_)
 ·have A:=ltB (by omega);have U:(oM x c++lI x c k).length<=62+k:=by grind[oM,lI]
  simp only[go_sem,F,Z,I];refine aL (Nd _) ?_;simp only[go_sem];refine aU R ⟨rfl,rfl⟩ ⟨rfl,trivial⟩ (by grind) (fun j' ab=>?_);simp only[go_sem,e2,X,F,ak,Z,aQ k];refine⟨⟨k+1,j',A,rfl,rfl,?_⟩,msr A⟩;have:lI x c (k+1)=lI x c k++[xC (c.type == (k:Int))]:=by grind[lI,Xas]
  rw[this,<-Xaw];exact eK rfl
 have E:=geB hk (by omega);subst E;simp only[go_sem,e2,Xac];refine⟨fun ρ H=>∃(k:Nat) (j:Nat),k<=y8.length/\ρ 3=.sl (ds.map aO)/\ρ 5=.rp (bC c) 0/\ρ 49=.sl (y8.map dD)/\ρ 50=int (y8.length:Nat)/\ρ 51=int k/\ρ 9=.os j/\H j=some (gV (oM x c++lI x c x.types.length++oT c (y8.take k))),fun ρ _=>y8.length-aT (ρ 51),⟨0,j,Xaa _,X,F,by rfl,by rfl,(by rfl),I,by grind[oT]⟩,?_⟩;rintro ρ H ⟨k,j,hk,X,F,ai,am,ae,I,R⟩;simp only[go_sem,am,ae];refine aA (fun A=>?_) (fun E=>?_)
 ·have A:=ltB (by omega);obtain⟨q,aj⟩:=aK A;have b1:=inB A;have ax:=hq.set q (Xab aj);have U:(oM x c++lI x c x.types.length++oT c (y8.take k)).length<=62+1048576+1048576:=by grind[oM,lI,oT]
  simp only[go_sem,ai,ae,aC aj,b1];refine aH fun ar J=>?_
  simp only[go_sem];refine bW J (by simp[xZ]) fun af (aw:af ar=some (⟨109,3,[dD q]⟩)) N=>?_
  replace R:=(N R).2;clear N J;simp only[go_sem,F,I,aw];rw[av];refine aL (avR q sn ax.1 (by omega) aa) ?_;simp only[go_sem];refine aU R ⟨rfl,rfl⟩ ⟨rfl,trivial⟩ (by grind) (fun j' ab=>?_);simp only[go_sem,X,F,ai,am,ae,aQ k];refine⟨⟨k+1,j',A,rfl,rfl,?_⟩,msr A⟩;have:oT c (y8.take (k+1))=oT c (y8.take k)++[B0 q.kind (q.set.toNat &&& sn)]:=by simp_all[oT,aY]
  rw[this,<-Xaw];exact eK rfl
 have E:=geB hk (by omega);subst E;rw[Xad]at R;simp only[go_sem,X,Xac];refine⟨fun ρ H=>∃(k:Nat) (j:Nat),k<=ds.length/\ρ 5=.rp (bC c) 0/\ρ 63=.sl (ds.map aO)/\ρ 64=int (ds.length:Nat)/\ρ 65=int k/\ρ 9=.os j/\H j=some (gV (oM x c++lI x c x.types.length++oT c y8++sD c (ds.take k))),fun ρ _=>ds.length-aT (ρ 65),⟨0,j,Xaa _,F,rfl,by rfl,(by rfl),I,by grind[sD]⟩,?_⟩;rintro ρ H ⟨k,j,hk,F,Y,ag,T,I,R⟩;simp only[go_sem,ag,T];refine aA (fun A=>?_) (fun E=>?_)
 ·have A:=ltB (by omega);obtain⟨d,hd⟩:=aK A;have b1:=inB A;have hs:=oV (p:=FX) hd;have U:(oM x c++lI x c x.types.length++oT c y8++sD c (ds.take k)).length<=62+1048576+1048576+1048576:=by grind[oM,lI,oT,sD]
  simp only[go_sem,Y,T,aC hd,b1];refine aH fun ap O=>?_
  simp only[go_sem];refine bW O (by simp[lG]) fun ac (ao:ac ap=some (⟨35,4,[aO d]⟩)) N=>?_
  replace R:=(N R).2;clear N O;simp only[go_sem,ao];refine aL (aAD d) ?_;simp only[go_sem];apply aA <;> intro hb
  ·rw[if_pos hb]at hs;have:sD c (ds.take (k+1))=sD c (ds.take k)++[xC (c.type == d.a)]:=by grind[sD]
   simp only[go_sem,F,I,ao];refine aL (Nd _) ?_;simp only[go_sem];refine aU R ⟨rfl,rfl⟩ ⟨rfl,trivial⟩ (by grind) (fun j' ab=>?_);simp only[go_sem,F,Y,ag,T,aQ k];refine⟨⟨k+1,j',A,rfl,rfl,?_⟩,msr A⟩;rw[this,<-Xaw];exact eK rfl
  ·rw[if_neg (by grind),Xat]at hs;simp only[go_sem,F,Y,ag,T,I,aQ k];refine⟨⟨k+1,j,A,rfl,rfl,?_⟩,msr A⟩
   grind[sD]
 have E:=geB hk (by omega);subst E;rw[Xad]at R;simp only[go_sem,I];exact .row _ _ _ R (ConvE.refl _)
def inM(cols:List Column)(ds:List Decision):List Column:=cols.filter fun c=>ds.all fun d=>dJ d c.set
abbrev JW(l:List Column):Row:=⟨115,7,l.map bC⟩
def G7(A:List Column)(ds:List Decision)(hl:A.length<=1048576)(hd:ds.length<=1048576):PC prog 84 [.sl (A.map bC),.sl (ds.map aO)] (.sl ((inM A ds).map bC)):=by
 refine pcb (fun t=>t == 5) func84 rfl rfl ?_;simp only[go_sem];refine eJ fun j ab aa (R:ab j=some (JW [])) N=>?_
 clear N aa;simp only[go_sem,R];refine⟨fun ρ H=>∃(k:Nat) (j:Nat),k<=A.length/\ρ 1=.sl (ds.map aO)/\ρ 8=.sl (A.map bC)/\ρ 9=int (A.length:Nat)/\ρ 10=int k/\ρ 5=.os j/\H j=some (JW (inM (A.take k) ds)),fun ρ _=>A.length-aT (ρ 10),⟨0,j,Xaa _,by rfl,by rfl,by rfl,(by rfl),by rfl,R⟩,?_⟩;rintro ρ H ⟨k,j,hk,J,O,I,E,F,R⟩;simp only[go_sem,J,O,I,E,F];refine aA (fun U=>?_) (fun Z=>?_)
 ·have U:=ltB (by omega);obtain⟨c,hc⟩:=aK U;have b1:=inB U;have hs:inM (A.take (k+1)) ds=inM (A.take k) ds++(if(ds.all fun d=>dJ d c.set)=true then[c]else[]):=oV (p:=fun c:Column=>ds.all fun d=>dJ d c.set) hc;have ae:(inM (A.take k) ds).length<=k:=D4 _ _ _;simp only[go_sem,J,O,I,E,F,aC hc,b1];refine aH fun i7 T=>?_
  simp only[go_sem,J,O,I,E,F,R];refine bW T (by simp[dB]) fun X (R7:X i7=some (⟨115,7,[bC c]⟩)) N=>?_
  replace R:=N R;obtain⟨Y,R⟩:=R;clear N T;simp only[go_sem,J,O,I,E,F,R7,R];refine aL (Dec.akH ds c hd) ?_;simp only[go_sem,J,O,I,E,F];refine aA (fun hb=>?_) (fun hb=>?_)
  ·rw[if_pos hb]at hs;simp only[go_sem,J,O,I,E,F,R7];refine aU R ⟨rfl,rfl⟩ ⟨rfl,trivial⟩ (by grind) (fun j' ac=>?_);simp only[go_sem,J,O,I,E,F,aQ k]
   grind[aJ,eK]
  ·rw[if_neg (by grind),Xat]at hs;simp only[go_sem,J,O,I,E,F,aQ k]
   grind[aJ]
 have Z:=geB hk (by omega);subst Z;rw[Xad]at R;simp only[go_sem,J,O,I,E,F];exact .row _ _ _ R (ConvE.refl _)
def WY{a b:Nat}(I:a<2^63)(O:b<2^63):∃s:Nat,vY .andNot .i64 (a:Int) (b:Int)=(s:Int)/\s<=a/\∀i,s.testBit i=(a.testBit i&& !b.testBit i):=by
 have h1:((a:Int)%((2^64:Nat):Int)).toNat=a:=by omega
 have J:((b:Int)%((2^64:Nat):Int)).toNat=b:=by omega
 have E:BitVec.ofInt 64 (a:Int)=BitVec.ofNat 64 a:=by rfl
 have F:BitVec.ofInt 64 (b:Int)=BitVec.ofNat 64 b:=by rfl
 have A:(BitVec.ofNat 64 a &&& ~~~BitVec.ofNat 64 b).toNat<=a:=by grind[Nat.and_le_left]
 refine⟨(BitVec.ofNat 64 a &&& ~~~BitVec.ofNat 64 b).toNat,?_,A,fun i=>?_⟩
 ·have h:((BitVec.ofInt 64 (a:Int) &&& ~~~(BitVec.ofInt 64 (b:Int))).toNat:Int)=(((BitVec.ofNat 64 a &&& ~~~BitVec.ofNat 64 b).toNat:Nat):Int):=by rfl
  refine Eq.trans (congrArg IntKind.i64.wrap h) ?_
  grind[aW]
 grind[BitVec.testBit_toNat]
def asA(x:Instance)(h:x.y5.length<=62)(ds:List Decision){s:Nat}(U:∀i,s.testBit i=((Gu x).testBit i&& !(AQ x).testBit i)):
  (dA (s:Int)).filter (zA x ds)=iG x ds/\(dA (s:Int)).length<=63/\∀i∈dA (s:Int),∃n o,i=((n:Nat):Int)/\n<x.y5.length/\x.y5[n]?=some o:=by
 have X:∀i,(Gu x).testBit i=(decide (i<x.y5.length)&&uK (fun _=>true) x.y5 i):=fun i=>qR _ _ _
 have T:∀i,(AQ x).testBit i=(decide (i<x.y5.length)&&uK (fun o=>o.η == -1) x.y5 i):=fun i=>qR _ _ _
 have O:∀i:Nat,dI ((s:Nat):Int) (i:Int)=(decide (i<x.y5.length)&&(uK (fun _=>true) x.y5 i&& !uK (fun o=>o.η == -1) x.y5 i)):=by
  intro i;by_cases F:i<x.y5.length
  ·grind[jW]
  ·rw[decide_eq_false F,Bool.false_and]
   grind[jW,dI]
 have A:dA (s:Int)=((List.range x.y5.length).filter fun i=>uK (fun _=>true) x.y5 i&& !uK (fun o=>o.η == -1) x.y5 i).map fun i:Nat=>(i:Int):=by
  unfold dA rL
  congr 1
  obtain⟨m,hmm⟩:∃m,63=x.y5.length+m:=⟨63-x.y5.length,by omega⟩;simp_all[ES,decide_eq_false]
 refine⟨?_,?_,?_⟩
 ·rw[A];unfold iG eI aAO;rw[List.filter_map,List.filter_map,List.filter_filter,List.filter_filter]
  congr 1
  refine List.filter_congr fun i F=>?_
  have E:=Xan.1 F;obtain⟨o,I⟩:=aK E;rw[xM I,xM I]
  grind[KU,iQ,zA]
 ·grind
 ·intro i F;rw[A]at F;obtain⟨n,J,rfl⟩:=Xao.1 F;have E:=Xan.1 (List.mem_filter.1 J).1;obtain⟨o,I⟩:=aK E
  grind
def VA(ds:List Decision)(i:Int):Nat:=ds.countP fun d=>d.kind == 5&&d.a == i
theorem Po{ds:List Decision}{k:Nat}{d:Decision}{i:Int}(h:ds[k]?=some d):VA (ds.take (k+1)) i=VA (ds.take k) i+(if(d.kind == 5&&d.a == i)=true then 1 else 0):=by simp_all[VA,aY]
def auO(ds:List Decision)(k:Nat)(i:Int):VA (ds.take k) i<=k:=Xaf List.countP_le_length (by grind)
theorem afS(ds:List Decision)(i:Int):((VA ds i:Int) == 0)= !zG ds i:=by unfold VA zG;rw[Xaz];simp
def auV(x:Instance)(ds:List Decision)(hx:x.y5.length<=62)(hd:ds.length<=1048576):PC prog 85 [.agg (aD x),.sl (ds.map aO)] (.sl ((iG x ds).map aP)):=by
 refine pcb (fun t=>t == 8) func85 rfl rfl ?_;simp only[go_sem];refine eJ fun jm ak af (E:ak jm=some (vF [])) N=>?_
 clear N af;simp only[go_sem,Xac];refine⟨fun ρ H=>∃(k:Nat) (m:List (Int×Int)),k<=ds.length/\ρ 2=.rp (aD x) 0/\ρ 5=.om jm/\ρ 12=.sl (ds.map aO)/\ρ 13=int (ds.length:Nat)/\ρ 14=int k/\H jm=some (vF m)/\(∀i,tU m i=(VA (ds.take k) i:Nat)),fun ρ _=>ds.length-aT (ρ 14),⟨0,[],Xaa _,by rfl,by rfl,by rfl,by rfl,(by rfl),E,fun _=>rfl⟩,?_⟩;rintro ρ H ⟨k,m,hk,U,X,ab,ac,O,E,hm⟩;simp only[go_sem,ac,O];refine aA (fun A=>?_) (fun J=>?_)
 ·have A:=ltB (by omega);obtain⟨d,ar⟩:=aK A;have b1:=inB A;simp only[go_sem,ab,O,aC ar,b1];refine aH fun i7 Z=>?_
  simp only[go_sem,];refine bW Z (by simp[lG]) fun ai (R7:ai i7=some (⟨35,4,[aO d]⟩)) N=>?_
  replace E:=(N E).2;clear N Z;simp only[go_sem,R7];apply aA <;> intro hb
  ·have ap:d.kind=5:=by grind
   have ay:=auO ds k d.a;have av:=hm d.a;have wm:IntKind.i64.wrap (tU m d.a+1)=tU m d.a+1:=aW (by omega);simp only[go_sem,X,R7];refine AO E Ew (nU _) (lR _ _) zv3 ?_;rw[AB];simp only[go_sem,wm];refine JL E Ew (nU _) (lR _ _) ?_;rw[C1];generalize hP:aI _ jm _=HP;replace E:HP jm=some (vF (Eb m d.a (tU m d.a+1))):=by rw[<-hP,aB];skip
   clear hP;simp only[go_sem,U,X,ab,ac,O,E];simp only[aQ k];refine⟨⟨k+1,Eb m d.a (tU m d.a+1),A,rfl,rfl,fun o=>?_⟩,by grind[aJ]⟩
   grind[Gg,Po]
  ·have ap:d.kind≠5:=by grind
   simp only[go_sem,U,X,ab,ac,O,aQ k];refine⟨⟨k+1,m,A,rfl,E,fun o=>?_⟩,by grind[aJ]⟩
   grind[Po]
 have J:=geB hk (by omega);subst J;rw[Xad]at hm;simp only[go_sem,];refine eJ fun j an am (R:an j=some (gV [])) N=>?_
 replace E:=N E;obtain⟨I,E⟩:=E;clear N am;simp only[go_sem,];refine jK [(0,true),(1,true),(2,true),(3,true),(4,true),(7,true),(5,false),(6,false)] (by kernel_rfl) ?_;have ah:Gu x<2^63:=Xax (CO _ _) (Xah (by decide) (by omega));have aj:AQ x<2^63:=Xax (CO _ _) (Xah (by decide) (by omega));obtain⟨s,aq,aw,ao⟩:=WY ah aj;obtain⟨q1,q2,q3⟩:=asA x hx ds ao;rw[<-q1];clear q1;simp only[go_sem,U,];refine⟨_,(Ta x hx).q rfl,?_⟩;simp only[go_sem,U,];refine⟨_,(apP x hx).q rfl,?_⟩;simp only[go_sem,aq];refine aL (mN _) ?_;generalize dA (s:Int)=M at *;simp only[go_sem,Xac];refine⟨fun ρ H=>∃(k:Nat) (j:Nat),k<=M.length/\ρ 2=.rp (aD x) 0/\ρ 5=.om jm/\ρ 32=.sl (M.map aP)/\ρ 33=int (M.length:Nat)/\ρ 34=int k/\ρ 8=.os j/\H j=some (gV ((M.take k).filter (zA x ds)))/\H jm=some (vF m),fun ρ _=>M.length-aT (ρ 34),⟨0,j,Xaa _,by simp only[go_sem,U],by simp only[go_sem,X],by rfl,by rfl,(by rfl),by rfl,R,E⟩,?_⟩;rintro ρ H ⟨k,j,hk,U,X,ae,aa,T,e8,R,E⟩;simp only[go_sem,aa,T];refine aA (fun A=>?_) (fun J=>?_)
 ·have A:=ltB (by omega);obtain⟨i,hi⟩:=aK A;have b1:=inB A;obtain⟨n,o,rfl,hn,ho⟩:=q3 i (Xab hi);have b2:=inB hn;have ag:=oV (p:=zA x ds) hi;have ax:=D4 (zA x ds) M k;have au:KU x (n:Int)=o.η:=by grind[KU,iQ]
  simp only[go_sem,U,X,ae,T,aC hi,b1,aC ho,b2];refine AO E Ew (nU _) (lR _ _) zv3 ?_;rw[AB,hm];simp only[go_sem,];have al:(decide (o.η>=0)&&((VA ds (n:Int):Nat):Int) == 0)=zA x ds (n:Int):=by grind[zA,afS]
  apply aA <;> intro hb
  ·rw[if_pos (by grind)]at ag;have I:jm≠j:=fun e=>by grind
   simp only[go_sem,e8];refine aU R ⟨rfl,rfl⟩ ⟨rfl,trivial⟩ (by grind) (fun j' Y=>?_);have F:jm≠j':=aV E Y;generalize hP:aI (aI _ j none) j' _=HP;replace E:=kpB hP F (by omega) E;have Rn:HP j'=some (gV ((M.take (k+1)).filter (zA x ds))):=by rw[<-hP,aB];grind[aP]
   clear hP Y;simp only[go_sem,U,X,ae,aa,T,E]
   grind[mT,aJ]
  ·rw[if_neg (by grind),Xat]at ag;simp only[go_sem,U,X,ae,aa,T,e8,aQ k];exact⟨⟨k+1,j,A,rfl,rfl,by grind,E⟩,msr A⟩
 have J:=geB hk (by omega);subst J;rw[Xad]at R;simp only[go_sem,e8];exact .row _ _ _ R (ConvE.refl _)
def Bq{n:Int}(h0: -9223372036854775808<=n)(h1:n<=9223372036854775807):(zed n).size<=8194:=by have:=Go.Nu.dP (m:=n) (ET (k:=20) (by omega) (by omega));omega
theorem aaD(b:Bool):xC b=0\/xC b=1:=by grind[xC]
theorem aqF(k:Int)(n:Nat):B0 k n=0\/B0 k n=1:=by grind[B0]
def adT{x:Instance}{c:Column}{y8:List Cut}{ds:List Decision}{n:Int}(h:n∈tG x c y8 ds):n=0\/n=1:=by grind[tG,oM,lI,oT,sD,aaD,aqF]
def AH(x:Instance)(c:Column):Bool:=decide (c.type<0)||decide (c.type>=(x.types.length:Int))||decide (c.set<=0)|| !decide (c.set.toNat &&& Gu x=c.set.toNat)
def vH(x:Instance)(d:Nat)(cols:List Column)(y8:List Cut)(ds:List Decision):Int:=
 if kE x ds≠0 then kE x ds else if Dec.lL (y8.map (jS x d))≠0 then Dec.lL (y8.map (jS x d))else if cols.any (AH x)=true then 2 else 0
def awY(x:Instance)(d:Nat)(A:List Column)(y8:List Cut)(ds:List Decision)(ak:LoadsOk x d)(ah:x.types≠[])(h:MIn x y8 ds)(hl:A.length<=1048576)(hs:∀c∈A,c.set<=9223372036854775807):
  PC prog 82 [.agg (aD x),.sl (A.map bC),.sl (y8.map dD),.sl (ds.map aO)] (int (vH x d A y8 ds)):=by
 have h1:=h.y5;have h2:=h.types;have h3:=h.cl;have h4:=h.dl;unfold vH;refine pcd func82 rfl rfl ?_;simp only[go_sem];refine aL (Dec.alW x ds h4) ?_;simp only[go_sem];apply aA <;> intro Y
 ·rw[if_pos (by grind)];simp only[go_sem];exact .refl _
 rw[if_neg (by grind)];simp only[go_sem,Xac];refine⟨fun ρ H=>∃(k:Nat),k<=y8.length/\ρ 1=.sl (A.map bC)/\ρ 4=.rp (aD x) 0/\ρ 22=.sl (y8.map dD)/\ρ 23=int (y8.length:Nat)/\ρ 24=int k/\(∀e∈(y8.map (jS x d)).take k,e=0),fun ρ _=>y8.length-aT (ρ 24),⟨0,Xaa _,by rfl,by rfl,by rfl,by rfl,(by rfl),by simp⟩,?_⟩;rintro ρ H ⟨k,hk,e1,Z,ag,aa,T,hz⟩;simp only[go_sem,aa,T];refine aA (fun E=>?_) (fun F=>?_)
 ·have E:=ltB (by omega);obtain⟨q,hq⟩:=aK E;have b1:=inB E;have hm:(y8.map (jS x d))[k]?=some (jS x d q):=by grind
  simp only[go_sem,ag,T,aC hq,b1];refine aH fun i11 J=>?_
  simp only[go_sem,];refine bW J (by simp[xZ]) fun U (aj:U i11=some (⟨109,3,[dD q]⟩)) N=>?_
  clear N J;simp only[go_sem,Z,aj];refine aL (VN x d q ak ah) ?_;simp only[go_sem,];apply aA <;> intro Y
  ·have he:=Dec.vW hz hm Y;rw[if_pos (by grind),he];simp only[go_sem];exact .refl _
  ·simp only[go_sem,e1,Z,ag,aa,T,aQ k];exact⟨⟨k+1,E,rfl,dW (p:=fun e:Int=>e=0) hm (by grind) hz⟩,by grind[aJ]⟩
 have F:=geB hk (by omega);subst F;rw[Xai (by simp)]at hz;rw[if_neg (by grind[Dec.uF])];simp only[go_sem,Z,];refine aL (Ta x h1) ?_;simp only[go_sem,e1,Xac];refine⟨fun ρ H=>∃(k:Nat),k<=A.length/\ρ 4=.rp (aD x) 0/\ρ 13=int (Gu x:Nat)/\ρ 37=.sl (A.map bC)/\ρ 38=int (A.length:Nat)/\ρ 39=int k/\(∀c∈A.take k,AH x c=false),fun ρ _=>A.length-aT (ρ 39),⟨0,Xaa _,Z,by rfl,by rfl,by rfl,(by rfl),by simp⟩,?_⟩;rintro ρ H ⟨k,hk,Z,ac,ab,ae,X,hz⟩;simp only[go_sem,ae,X];refine aA (fun E=>?_) (fun F=>?_)
 ·have E:=ltB (by omega);obtain⟨c,hc⟩:=aK E;have b1:=inB E;have ao:=hs c (Xab hc);simp only[go_sem,ab,X,aC hc,b1];refine aH fun al I=>?_
  simp only[go_sem,];refine bW I (by simp[dB]) fun O (ai:O al=some (⟨115,7,[bC c]⟩)) N=>?_
  clear N I;simp only[go_sem,Z,ac,ai];have an:(decide (c.type<0)||decide (c.type>=(x.types.length:Int))||decide (c.set<=0)||(vY .andNot .i64 c.set ((Gu x:Nat):Int) != 0))=AH x c:=by
   unfold AH;by_cases h0:c.set<=0
   ·grind
   ·obtain⟨s,ap⟩:=Int.eq_ofNat_of_zero_le (show 0<=c.set by omega);have am:Gu x<2^63:=Xax (CO _ _) (Xah (by decide) (by omega))
    grind[LQ]
  apply aA <;> intro Y
  ·have Y:AH x c=true:=by grind
   rw[if_pos (Xaj.2 ⟨c,Xab hc,Y⟩)];simp only[go_sem];exact .refl _
  ·have Y:AH x c=false:=by grind
   simp only[go_sem,Z,ac,ab,ae,X,aQ k];exact⟨⟨k+1,E,rfl,dW (p:=fun c=>AH x c=false) hc Y hz⟩,by grind[aJ]⟩
 have F:=geB hk (by omega);subst F;rw[Xad]at hz;have af:¬A.any (AH x)=true:=by grind
 rw[if_neg af];simp only[go_sem,];exact .refl _
end Nu
namespace Nu
open Go.Proofs.Tryz
open Go.Nu
def aBM(s:ByteArray)(n:Int)(h:s.size<=1048576)(h0: -9223372036854775808<=n)(h1:n<=9223372036854775807)(A:(AF s).1.size<=1048576):PC prog 39 [str s,int n] (boo ((AF s).2 == 0&&decide (zX (AF s).1 (zed n)>=0))):=by refine pcd func39 rfl rfl ?_;simp only[go_sem];refine aL (aAG s h) ?_;simp only[go_sem];refine⟨_,fun _=>(Es n h0 h1).q rfl,?_⟩;simp only[go_sem];refine⟨_,fun _=>(xJ _ _ A (Xaf (Bq h0 h1) (by decide))).q rfl,?_⟩;simp only[go_sem];exact .refl _
end Nu
namespace Nu
open Go.Nu
def rK(n:Int):Prop:= -9223372036854775808<=n/\n<=9223372036854775807
structure LinB(p:PLin):Prop where
 rows:p.rows.length<=1048576
 cost:p.cost.length<=1048576
 θ:∀r∈p.rows,∀n∈r.θ,rK n
 right:∀r∈p.rows,rK r.right
structure VarB(v:List ByteArray):Prop where
 len:v.length<=1048576
 size:∀s∈v,s.size<=1048576
def EX{ns:List Int}{xs:List ByteArray}:(eV ns xs).1.size<=8194:=by
 by_cases h:(eV ns xs).2=0
 ·exact uS (IM h)
 ·have : (eV ns xs).1 = emp := by
   unfold eV at h |-;split
   ·rfl
   ·split
    ·rfl
    ·next h1 h2=>
     rw[if_neg h1,if_neg h2]at h;have:∀(l:List (Int×ByteArray)) (t:ByteArray),(pR l t).2≠0->(pR l t).1=emp:=by
      intro l;induction l with
      | nil=>intro t h;exact absurd rfl h
      | cons p l ih=>
       intro t h;unfold pR at h |-
       grind
     grind
  rw[this];decide
end Nu
namespace Nu
open Go.Proofs.Tryz
open Go.Nu
def aiS(k:Int)(s:ByteArray):Bool:= !bZ s||k == 1&&decide (yY s>0)||k == 3&&decide (yY s<0)
def BB(p:PLin)(v:List ByteArray):Bool:=if v.length≠p.rows.length then false else !((p.rows.zip v).any fun q=>aiS q.1.kind q.2)
def ZT(p:PLin)(v:List ByteArray)(hp:LinB p)(hv:VarB v):PC prog 92 [.agg (fJ p),.sl (v.map Go.Aw.D.dK)] (boo (BB p v)):=by
 have ab:=hv.len;have aa:=hp.rows;unfold BB;refine pcd func92 rfl rfl ?_;simp only[go_sem];apply aA <;> intro h1
 ·rw[if_pos (by grind)];simp only[go_sem];exact .refl _
 have hl:v.length=p.rows.length:=by grind
 rw[if_neg (by omega)];simp only[go_sem];refine⟨fun ρ H=>∃(k:Nat),k<=p.rows.length/\ρ 1=.sl (v.map Go.Aw.D.dK)/\ρ 15=.sl (p.rows.map gP)/\ρ 16=int (p.rows.length:Nat)/\ρ 17=int k/\(∀q∈(p.rows.zip v).take k,aiS q.1.kind q.2=false),fun ρ _=>p.rows.length-aT (ρ 17),⟨0,Xaa _,by rfl,by rfl,by rfl,(by rfl),by simp⟩,?_⟩;rintro ρ H ⟨k,hk,e1,Y,J,F,hz⟩;simp only[go_sem,J,F];refine aA (fun A=>?_) (fun U=>?_)
 ·have A:=ltB (by omega);obtain⟨r,hr⟩:=aK A;obtain⟨s,Z⟩:=aK (show k<v.length by omega);have b1:=inB A;have b2:=inB (show k<v.length by omega);have O:=hv.size s (Xab Z);have I:(p.rows.zip v)[k]?=some (r,s):=by grind
  simp only[go_sem,Y,F,b1,aC hr];refine aH fun i6 E=>?_
  simp only[go_sem,];refine bW E (by simp[rH]) fun T (R6:T i6=some (⟨161,3,[gP r]⟩)) N=>?_
  clear N E;simp only[go_sem,e1,aC Z,b2];refine aL (abJ s O) ?_;simp only[go_sem,e1,aC Z,b2];refine aL (xA s O) ?_;simp only[go_sem,R6];have X:aiS r.kind s=(!bZ s||r.kind == 1&&decide (yY s>0)||r.kind == 3&&decide (yY s<0)):=rfl;apply aA <;> intro hb
  ·rw[show((p.rows.zip v).any fun q=>aiS q.1.kind q.2)=true from Xaj.2 ⟨(r,s),Xab I,X.trans hb⟩];simp only[go_sem];exact .refl _
  ·simp only[go_sem,e1,Y,J,F,aQ k];exact⟨⟨k+1,A,rfl,dW (p:=fun q:PRow×ByteArray=>aiS q.1.kind q.2=false) I (X.trans hb) hz⟩,msr A⟩
 have U:=geB hk (by omega);subst U;rw[Xai (by grind)]at hz;rw[show((p.rows.zip v).any fun q=>aiS q.1.kind q.2)=false from Xba.2 fun q hq=>by grind];simp only[go_sem,];exact .refl _
def Qg(p:PLin)(i:Nat):List Int:=p.rows.map fun r=>r.θ.getD i 0
def C2(p:PLin)(v:List ByteArray)(lim:Nat->Int)(i:Nat):Bool:=(eV (Qg p i) v).2 != 0||decide (zX (eV (Qg p i) v).1 (zed (lim i))>0)
def Cn(p:PLin)(v:List ByteArray)(lim:Nat->Int):Bool:= !((List.range p.cost.length).any (C2 p v lim))
theorem uI{ns:List Int}{xs:List ByteArray}:(eV ns xs).1.size<=8194:=EX
def aaZ(p:PLin)(v:List ByteArray)(lim:Nat->Int)(fn:AV)(g:Nat)(cap:List AV)(hp:LinB p)(ap:∀r∈p.rows,r.θ.length=p.cost.length)(hc:∀i,i<p.cost.length->rK (lim i))(hv:VarB v)
  (ag:M3 fn=some (g,[],cap)) (hw:∀(G:Option Bool) (k:AV->Prop),cE G fn k=k fn) (an:aE prog g=true) (hg:∀i,i<p.cost.length->PC prog g (int (i:Nat)::cap) (int (lim i))):
  PC prog 93 [.agg (fJ p),.sl (v.map Go.Aw.D.dK),fn] (boo (Cn p v lim)):=by
 have aq:=hp.cost;have ar:=hp.rows;unfold Cn;refine pcd func93 rfl rfl ?_;simp only[go_sem];refine⟨fun ρ H=>∃(k:Nat),k<=p.cost.length/\ρ 1=.sl (v.map Go.Aw.D.dK)/\ρ 2=fn/\ρ 3=.rp (fJ p) 0/\ρ 15=int (p.cost.length:Nat)/\ρ 16=int k/\(∀q∈(List.range p.cost.length).take k,C2 p v lim q=false),fun ρ _=>p.cost.length-aT (ρ 16),⟨0,Xaa _,by rfl,by rfl,by rfl,by rfl,(by rfl),by simp⟩,?_⟩;rintro ρ H ⟨k,hk,Z,e2,Y,F,A,hz⟩;simp only[go_sem,F,A];refine aA (fun E=>?_) (fun ac=>?_)
 ·have E:=ltB (by omega);have ae:(List.range p.cost.length)[k]?=some k:=List.getElem?_range E;have aj:=uI (ns:=Qg p k) (xs:=v);have J:=hc k E;have av:=Bq J.1 J.2;have al:C2 p v lim k=((eV (Qg p k) v).2 != 0||decide (zX (eV (Qg p k) v).1 (zed (lim k))>0)):=rfl;have ak:=U2 (Qg p k) v (fun m hm=>by
   unfold Qg at hm;obtain⟨r,hr,rfl⟩:=Xao.1 hm;have ax:k<r.θ.length:=by grind
   have:=hp.θ r hr (r.θ.getD k 0) (by grind);exact this) hv.len hv.size
  simp only[go_sem,Y,A];refine⟨by omega,aH fun j8 am=>?_⟩;simp only[go_sem,Y,];have R8:=aB H j8 (some (⟨3,1,List.replicate 0 [int 0]⟩:Row));generalize aI H j8 _=H8 at R8 |-;clear am;refine⟨fun ρ H=>∃m j:Nat,m<=p.rows.length/\ρ 1=.sl (v.map Go.Aw.D.dK)/\ρ 2=fn/\ρ 3=.rp (fJ p) 0/\ρ 7=int (k:Nat)/\ρ 15=int p.cost.length/\ρ 16=int (k:Nat)/\ρ 24=.sl (p.rows.map gP)/\ρ 25=int p.rows.length/\ρ 26=int (m:Nat)/\ρ 8=.os j/\H j=some (gV ((p.rows.take m).map fun r=>r.θ.getD k 0)),fun ρ _=>p.rows.length-aT (ρ 26),⟨0,j8,Xaa _,by simp only[go_sem,Z,],by simp only[go_sem,e2,],by simp only[go_sem,Y,],by rfl,by simp only[go_sem,F],by simp only[go_sem,A],by rfl,by rfl,(by rfl),by rfl,R8⟩,?_⟩;clear Z e2 Y F A R8;rintro ρ H ⟨m,j,hm,Z,e2,Y,e7,F,A,aa,af,X,e8,R⟩;simp only[go_sem,af,X];refine jI hm (fun O=>?_) (fun ah=>?_)
  ·obtain⟨r,hr⟩:=aK O;have b1:=inB O;have aw:=ap r (Xab hr);obtain⟨c,ai⟩:=aK (show k<r.θ.length by omega);have b2:=inB (show k<r.θ.length by omega);have hs:=aY hr;simp only[go_sem,aa,X,aC hr,b1];refine aH fun ao I=>?_
   simp only[go_sem,];refine bW I (by simp[rH]) fun U (ab:U ao=some (⟨161,3,[gP r]⟩)) N=>?_
   replace R:=(N R).2;clear N I;simp only[go_sem,e7,ab];refine aA (fun hb=>by simp at hb;omega) (fun _=>?_);simp only[go_sem,e7,e8,ab,aC ai,b2];refine aU R ⟨rfl,rfl⟩ ⟨rfl,trivial⟩ (by grind) (fun j' au=>?_);simp only[go_sem,Z,e2,Y,e7,F,A,aa,af,X,aQ m];refine⟨⟨m+1,j',O,rfl,rfl,?_⟩,msr O⟩;simp_all[aB,aP]
  ·subst ah;rw[Xad]at R;have Rc:H j=some (gV (Qg p k)):=R;generalize Qg p k=C at *;simp only[go_sem,Z,e8];refine eN.use ⟨[.sl (C.map aP),.sl (v.map Go.Aw.D.dK)],.cons _ _ _ _ (.row _ _ _ Rc (ConvE.refl _)) (ConvL.refl _),ak,rfl⟩ ?_;generalize eV C v=T at *;obtain⟨s,e⟩:=T;simp only at al aj;simp only[go_sem,e2,e7,hw,ag];refine⟨an,_,fun _=>(hg k E).q rfl,?_⟩;simp only[go_sem,];refine⟨_,fun _=>(Es (lim k) J.1 J.2).q rfl,?_⟩;simp only[go_sem,];refine⟨_,fun _=>(xJ s (zed (lim k)) (by omega) (by omega)).q rfl,?_⟩;simp only[go_sem,];apply aA <;> intro hb
   ·rw[show(List.range p.cost.length).any (C2 p v lim)=true from Xaj.2 ⟨k,Xab ae,by grind⟩];simp only[go_sem];exact .refl _
   ·simp only[go_sem,Z,e2,Y,F,A,aQ k];exact⟨⟨k+1,E,rfl,dW (p:=fun q=>C2 p v lim q=false) ae (by grind) hz⟩,msr E⟩
 have ac:=geB hk (by omega);subst ac;rw[Xai (by simp)]at hz;rw[show(List.range p.cost.length).any (C2 p v lim)=false from Xba.2 fun q hq=>by grind];simp only[go_sem,];exact .refl _
def nH(p:PLin):List Int:=p.rows.map (·.right)
def Zb(p:PLin)(v:List ByteArray)(hp:LinB p)(hv:VarB v):PC prog 95 [.agg (fJ p),.sl (v.map Go.Aw.D.dK)] (.tup [str (eV (nH p) v).1,boo ((eV (nH p) v).2 == 0)]):=by
 have aa:=hp.rows;refine pcb (fun t=>t == 6) func95 rfl rfl ?_;simp only[go_sem];refine eJ fun j X U (R:X j=some (gV [])) N=>?_
 clear N U;simp only[go_sem];refine⟨fun ρ H=>∃(k:Nat) (j:Nat),k<=p.rows.length/\ρ 1=.sl (v.map Go.Aw.D.dK)/\ρ 12=.sl (p.rows.map gP)/\ρ 13=int (p.rows.length:Nat)/\ρ 14=int k/\ρ 6=.os j/\H j=some (gV ((p.rows.take k).map (·.right))),fun ρ _=>p.rows.length-aT (ρ 14),⟨0,j,Xaa _,by rfl,by rfl,by rfl,(by rfl),by rfl,R⟩,?_⟩;rintro ρ H ⟨k,j,hk,Z,J,T,F,e6,R⟩;simp only[go_sem,T,F];refine aA (fun A=>?_) (fun O=>?_)
 ·have A:=ltB (by omega);obtain⟨r,Y⟩:=aK A;have b1:=inB A;have hs:(p.rows.take (k+1)).map (·.right)=(p.rows.take k).map (·.right)++[r.right]:=by simp_all[aY]
  have ac:((p.rows.take k).map (·.right)).length<=k:=by grind
  generalize hP:(p.rows.take k).map (·.right)=P at *;simp only[go_sem,J,F,aC Y,b1];refine aH fun i8 E=>?_
  simp only[go_sem,];refine bW E (by simp[rH]) fun I (R8:I i8=some (⟨161,3,[gP r]⟩)) N=>?_
  replace R:=(N R).2;clear N E;simp only[go_sem,e6,R8];refine aU R ⟨rfl,rfl⟩ ⟨rfl,trivial⟩ (by grind) (fun j' ab=>?_);simp only[go_sem,Z,J,T,F,aQ k];refine⟨⟨k+1,j',A,rfl,rfl,?_⟩,msr A⟩;rw[hs];exact eK rfl
 have O:=geB hk (by omega);subst O;rw[Xad]at R;simp only[go_sem,Z,e6];refine eN.use ⟨[.sl ((nH p).map aP),.sl (v.map Go.Aw.D.dK)],.cons _ _ _ _ (.row _ _ _ R (ConvE.refl _)) (ConvL.refl _),U2 (nH p) v (fun n hn=>by obtain⟨r,Y,rfl⟩:=Xao.1 hn;exact hp.right r Y) hv.len hv.size,rfl⟩ ?_;simp only[go_sem];exact .refl _
def pE(p:PLin)(v:List ByteArray):ByteArray×Bool:=
 if(!BB p v|| !Cn p v fun i=>p.cost.getD i 0)=true then(emp,false)else if(eV (nH p) v).2=0 then((eV (nH p) v).1,true)else(emp,false)
def Cs(p:PLin)(v:List ByteArray):Bool:=
 if(!BB p v|| !Cn p v fun _=>0)=true then false else((eV (nH p) v).2 == 0&&decide (yY (eV (nH p) v).1>0))
def aBI(p:PLin)(i:Nat)(A:i<p.cost.length):PC prog 97 [int (i:Nat),.rp (fJ p) 0] (int (p.cost.getD i 0)):=by obtain⟨n,E⟩:=aK A;have b:=inB A;refine pcd func97 rfl rfl ?_;simp only[go_sem];simp only[aC E,go_sem,b];rw[show p.cost.getD i 0=n by grind];exact .refl _
def aBu(i:Nat):PC prog 94 [int (i:Nat)] (int 0):=by refine pcd func94 rfl rfl ?_;simp only[go_sem];exact .refl _
structure LinW(p:PLin):Prop where
 b:LinB p
 full:∀r∈p.rows,r.θ.length=p.cost.length
 cost:∀i,i<p.cost.length->rK (p.cost.getD i 0)
def aoV(p:PLin)(v:List ByteArray)(A:LinW p)(E:VarB v):PC prog 38 [.agg (fJ p),.sl (v.map Go.Aw.D.dK)] (.tup [str (pE p v).1,boo (pE p v).2]):=by
 have F:=aaZ p v (fun i=>p.cost.getD i 0) (.fn 97 [.rp (fJ p) 0]) 97 [.rp (fJ p) 0] A.b A.full A.cost E rfl (fun _ _=>rfl) (by rfl) (fun i J=>aBI p i J);unfold pE;refine pcd func38 rfl rfl ?_;simp only[go_sem];refine aL (ZT p v A.b E) ?_;simp only[go_sem];refine⟨_,fun _=>F.q rfl,?_⟩;simp only[go_sem];apply aA <;> intro I
 ·rw[if_pos I];simp only[go_sem];exact .refl _
 rw[if_neg (by grind)];simp only[go_sem];refine aL (Zb p v A.b E) ?_;simp only[go_sem];apply aA <;> intro I
 ·rw[if_neg (by grind)];simp only[go_sem];exact .refl _
 ·rw[if_pos (by grind)];simp only[go_sem];exact .refl _
def aiK(p:PLin)(v:List ByteArray)(A:LinW p)(E:VarB v):PC prog 37 [.agg (fJ p),.sl (v.map Go.Aw.D.dK)] (boo (Cs p v)):=by
 have F:=aaZ p v (fun _=>0) (.v (.func (.func 94) #[] #[])) 94 [] A.b A.full (fun _ _=>⟨by decide,by decide⟩) E rfl (fun _ _=>rfl) (by rfl) (fun i O=>aBu i);have J:=uI (ns:=nH p) (xs:=v);unfold Cs;refine pcd func37 rfl rfl ?_;simp only[go_sem];refine aL (ZT p v A.b E) ?_;simp only[go_sem];refine⟨_,fun _=>F.q rfl,?_⟩;simp only[go_sem];apply aA <;> intro I
 ·rw[if_pos I];simp only[go_sem];exact .refl _
 rw[if_neg (by grind)];simp only[go_sem];refine aL (Zb p v A.b E) ?_;simp only[go_sem];refine⟨_,fun _=>(abJ _ (by omega)).q rfl,?_⟩;simp only[go_sem];exact .refl _
end Nu
namespace Sq
open Go.Proofs.Tryz
open Go.Proofs.YtkfhgjihlbilpaaGreatDoor.Nu (ltB geB)
open Mv (bS bU aS)
def aAB(s:Score):Int:=IntKind.i64.wrap (IntKind.i64.wrap (IntKind.i64.wrap (IntKind.i64.wrap (IntKind.i64.wrap (IntKind.i64.wrap (s.cost*16)+s.moved)*16)+s.other)*65536)+s.work)
def gT(s:Score):Int×Int:=if(decide (s.cost<0)||decide (s.moved<0)||decide (s.other<0)||decide (s.work<0))=true then(0,2)
 else if(decide (s.cost>1073741824)||decide (s.moved>=16)||decide (s.other>=16)||decide (s.work>=65536))=true then(0,4)else(aAB s,0)
def CX(s:Score):PC prog 137 [.agg (bD s)] (.agg (bD s)):=by
 refine pcd func137 rfl rfl ?_;simp only[go_sem];refine aH fun j A=>?_
 simp only[go_sem];refine aG (aB _ _ _) (by simp) ?_;simp only[go_sem];exact .refl _
def D2(s:Score):PC prog 76 [.agg (bD s)] (.tup [int (gT s).1,int (gT s).2]):=by
 refine pcd func76 rfl rfl ?_;simp only[go_sem];refine aL (CX s) ?_;simp only[go_sem];refine aH fun j F=>?_
 simp only[go_sem];refine bW F (by simp[cP]) fun O (R:O j=some (⟨203,4,[bD s]⟩)) N=>?_
 clear N F;simp only[go_sem,R];refine⟨fun ρ H=>∃(k:Nat),k<=4/\ρ 1=.rp (bD s) 0/\ρ 9=.agg (bD s)/\ρ 10=int k/\(∀e∈[s.cost,s.moved,s.other,s.work].take k,¬e<0),fun ρ _=>4-aT (ρ 10),⟨0,Xaa _,rfl,rfl,(by rfl),by simp⟩,?_⟩;rintro ρ H ⟨k,hk,J,T,E,hz⟩;simp only[go_sem,E];refine aA (fun A=>?_) (fun I=>?_)
 ·have A:k<4:=by grind
  obtain⟨e,U⟩:=aK (l:=[s.cost,s.moved,s.other,s.work]) (show k<[s.cost,s.moved,s.other,s.work].length from A);have hg:(bD s).getD k .any=int e:=by
   have:bD s=[s.cost,s.moved,s.other,s.work].map fun n=>int n:=rfl
   grind
  simp only[go_sem,T,E];refine⟨by omega,by omega,?_⟩;rw[Nat.mul_one,hg];simp only[go_sem];apply aA <;> intro X
  ·simp only[go_sem];have Z:=Xab U;simp only[List.mem_cons,List.not_mem_nil,or_false]at Z;have e:gT s=(0,2):=if_pos (by grind);rw[e];exact .refl _
  ·simp only[go_sem,J,T,E,aQ k];refine⟨⟨k+1,A,rfl,aS (p:=fun e:Int=>¬e<0) U (by grind) hz⟩,msr A⟩
 have I:k=4:=by grind
 subst I;have X:¬(decide (s.cost<0)||decide (s.moved<0)||decide (s.other<0)||decide (s.work<0))=true:=by simp_all
 unfold gT;rw[if_neg X];simp only[go_sem,J,];apply aA <;> intro Y
 ·rw[if_pos Y];simp only[go_sem];exact .refl _
 rw[if_neg (by grind)];simp only[go_sem,J,];exact .refl _
def fT(x:Instance)(r:Route):Int×Int:=if((fK x r).2.2 != 0)=true then(0,(fK x r).2.2)else gT (fK x r).2.1
def aoJ(x:Instance)(r:Route)(hx:EvalB x)(Z:r.y7.length<=1048575):PC prog 265 [.agg (aD x),.agg (bJ r)] (.tup [int (fT x r).1,int (fT x r).2]):=by
 have hw:=D2 (fK x r).2.1;refine pcd func265 rfl rfl ?_;simp only[go_sem];refine aL (EF x r hx Z) ?_;simp only[go_sem];refine eJ fun T I X (A:I T=some (cZ (bT bA))) N=>?_
 simp only[go_sem];refine eJ fun U J Y (O:J U=some (nR bK)) N=>?_
 replace A:=N A;obtain⟨E,A⟩:=A;simp only[go_sem];refine aG A (by simp[gR]) ?_;generalize F:aI _ T _=HP;replace O:=kpA F (by omega) O;replace A:HP T=some (cZ (bT (fK x r).1)):=upS F;simp only[go_sem];refine aG O (by simp[cP]) ?_;generalize F:aI _ U _=HP;replace A:=kpA F (by omega) A;replace O:HP U=some (nR (fK x r).2.1):=upS F;simp only[go_sem];unfold fT;apply aA <;> intro hb
 ·rw[if_pos hb];simp only[go_sem];exact .refl _
 ·rw[if_neg (by grind)];simp only[go_sem,O];refine aL hw ?_;simp only[go_sem];exact .refl _
structure Sta where
 ready:Int
 ν:Int
def iX(s:Sta):List AV:=[int s.ready,int s.ν]
def Mr(c:Sta):(iX c).length=2:=(rfl)
def arS(c:Sta):(iX c).getD 0 .any=int c.ready:=(rfl)
def arD(c:Sta):(iX c).getD 1 .any=int c.ν:=(rfl)
def V4(c:Sta):(iX c).take 2=iX c:=(rfl)
attribute [go_sem] Mr arS arD V4
abbrev qO(l:List Sta):Row:=⟨307,2,l.map iX⟩
def FK(s u:Sta):Bool:=s.ready == u.ready&&(s.ν == u.ν&&true)
def aoU(l:List Sta)(v:Sta)(Z:l.length<=1048576):PC prog 358 [.sl (l.map iX),.agg (iX v)] (int (vV (FK v) l 0)):=by
 refine pcd func358 rfl rfl ?_;simp only[go_sem];refine⟨fun ρ _=>∃k:Nat,k<=l.length/\ρ 0=.sl (l.map iX)/\ρ 3=.rp (iX v) 0/\ρ 7=int l.length/\ρ 8=int k/\∀u∈l.take k,FK v u=false,fun ρ _=>l.length-aT (ρ 8),⟨0,Xaa _,rfl,rfl,rfl,rfl,by simp⟩,?_⟩;rintro ρ H ⟨k,Y,h0,U,J,I,T⟩;simp only[go_sem,J,I];refine aA (fun A=>?_) (fun E=>?_)
 ·have A:=aX A;obtain⟨u,O⟩:=aK A;have X:=inB A;simp only[go_sem,I];refine dC ?_;simp only[go_sem,h0,U,aC O,X];apply aA <;> intro F
  ·have F:FK v u=true:=F;simp only[go_sem]
   grind[bS,nS]
  ·have F:FK v u=false:=F;simp only[go_sem,h0,U,J,I,aQ k];exact⟨⟨k+1,A,rfl,aS (p:=fun u=>FK v u=false) O F T⟩,msr A⟩
 ·have E:=aZ Y E;subst E;rw[Xad]at T;simp only[go_sem]
  grind[bS,mF]
def Jb(l:List Sta)(v:Sta)(A:l.length<=1048576):PC prog 320 [.sl (l.map iX),.agg (iX v)] (boo (l.any (FK v))):=by refine pcd func320 rfl rfl ?_;simp only[go_sem];refine aL (aoU l v A) ?_;simp only[go_sem];simp[bU,rO]
def yQ(l:List Sta)(s:Sta):List Sta:=if l.any (FK s)=true then l else l++[s]
def agD(l:List Sta)(s:Sta):(yQ l s).length<=l.length+1:=by grind[yQ]
def aqA(l:List Visit)(A:l.length<=1048576):PC prog 271 [.sl (l.map aN)] (.cl (l.map aN)):=by refine pcd func271 rfl rfl ?_;simp only[go_sem];exact .refl _
def aBe(s:Sta):NC prog 272 [.v (.slice none 0 0),.agg (iX s)] (qO [s]) .os:=by
 refine ncb (fun _=>false) func272 rfl rfl ?_;simp only[go_sem];refine bQ.nil0 (PC.use (Jb [] s (by decide)) ?_);simp only[go_sem];refine aA (fun A=>(by cases A)) (fun _=>?_);simp only[go_sem];refine arF azR (.inl rfl) (by simp) (by simp only[go_sem]) (by simp) fun j E=>?_
 simp only[go_sem]
 grind[aB]
abbrev azE(j:Nat)(H:aM)(j':Nat)(H':aM):Prop:=∀k row,k≠j->H k=some row->k≠j'/\H' k=some row
def XI(l:List Sta)(s:Sta){H:aM}{j:Nat}(R:H j=some (qO l))(O:l.length<=1000000){K:AV->aM->Prop}(A:∀j' H',H' j'=some (qO (yQ l s))->azE j H j' H'->K (.os j') H'):
  bQ prog 272 [.os j,.agg (iX s)] H K:=by
 refine bQ.body (c:=f272.body.getD .skip) (fun _=>false) mixed func272 rfl (by kernel_rfl) ?_;unfold f272;simp only[Xbb];simp only[go_sem];refine eN.use ⟨[.sl (l.map iX),.agg (iX s)],.cons _ _ _ _ (.row _ _ _ R (ConvE.refl _)) (ConvL.refl _),Jb l s (by omega),rfl⟩ ?_;simp only[go_sem];refine aA (fun I=>?_) (fun I=>?_)
 ·simp only[go_sem];refine A j H (by simp_all[yQ]) fun k row E h=>⟨E,h⟩
 ·simp only[go_sem];refine aU R ⟨rfl,rfl⟩ (by simp only[go_sem]) (by grind) (fun F J=>?_);simp only[go_sem];refine A F _ ?_ fun k row E h=>?_
  ·simp_all[aB,yQ,if_neg]
  grind[aF]
structure Sr where
 x:Instance
 kind:Nat
 set:Int
 total:Nat
 best:Column
 found:Bool
def zD(s:Sr):List AV:=aD s.x++([int (s.kind:Nat),int s.set,int (s.total:Nat)]++(bC s.best++[boo s.found]))
section
variable(s:Sr)
theorem N3:(zD s).length=17:=(rfl)
def ayM:(zD s).getD 2 .any=.sl (s.x.types.map bI):=(rfl)
def atU:(zD s).getD 3 .any=.sl (s.x.y5.map bE):=(rfl)
def atZ:(zD s).getD 6 .any=int (s.kind:Nat):=(rfl)
def auK:(zD s).getD 7 .any=int s.set:=(rfl)
def avJ:(zD s).getD 8 .any=int (s.total:Nat):=(rfl)
def arB:(zD s).getD 16 .any=boo s.found:=(rfl)
def ayA:(zD s).take 6=aD s.x:=(rfl)
def agW:(zD s).take 2=bH s.x.τ:=(rfl)
def Wu:((zD s).drop 9).take 7=bC s.best:=(rfl)
def aeK:(zD s).take 17=zD s:=(rfl)
end
attribute [go_sem] N3 ayM atU atZ auK avJ arB ayA agW Wu aeK
abbrev mW(s:Sr):Row:=⟨249,17,[zD s]⟩
def nX(t:VType)(l:List Sta)(d dr:Int):List Sta:=yQ (yQ l ⟨d,dr⟩) ⟨W (d+t.rest),0⟩
theorem Mi(t:VType)(l:List Sta)(d dr:Int):(nX t l d dr).length<=l.length+2:=by grind[nX,yQ]
def aqB(s:Sr)(t:VType)(l:List Sta)(d dr:Int){H:aM}{E j:Nat}(X:s.x.types[s.kind]?=some t)(RS:H E=some (mW s))(R:H j=some (qO l))(hl:l.length<=900000){K:AV->aM->Prop}
  (hK:∀j' H',H' j'=some (qO (nX t l d dr))->azE j H j' H'->K (.os j') H'):bQ prog 207 [.op E 0 0,.os j,int d,int dr] H K:=by
 have I:E≠j:=fun e=>by grind
 have hk:=(List.getElem?_eq_some_iff.1 X).1;have b1:=inB hk;have g1:=aC (f:=bI) X;have h1:=agD l ⟨d,dr⟩;refine bQ.body (c:=f207.body.getD .skip) (fun _=>false) mixed func207 rfl (by kernel_rfl) ?_;unfold f207;simp only[Xbb];simp only[go_sem];refine XI l ⟨d,dr⟩ R (by omega) fun Z H1 R1 F=>?_
 obtain⟨n1,U⟩:=F E _ I RS;simp only[go_sem];refine gS [E] [(0,true),(1,true),(2,true),(3,true),(4,true),(5,true),(6,true),(7,true),(8,true),(9,true),(10,true),(11,true),(12,true),(13,true),(14,true),(15,true),(16,false),(17,true)] (by grind) (by kernel_rfl) fun Hp Hr hp hr _ ae=>?_
 have A:=(hp E (by simp)).trans U;simp only[go_sem,g1,b1,A];have J:Hr Z=some (qO (yQ l ⟨d,dr⟩)):=(hr Z (by grind)).trans R1;refine XI (yQ l ⟨d,dr⟩) ⟨W (d+t.rest),0⟩ J (by omega) fun O H2 R2 aa=>?_
 simp only[go_sem];refine fun h0 Hm af T=>?_
 have ac:O≠E:=fun e=>by grind
 simp only[go_sem];refine hK O Hm ((T O (by grind)).trans R2) fun k row ab Y=>?_
 grind
def atH(s:Sr)(t:VType)(d dr:Int){H:aM}{F:Nat}(U:s.x.types[s.kind]?=some t)(Z:H F=some (mW s)){K:AV->aM->Prop}
  (hK:∀j' H',H' j'=some (qO (nX t [] d dr))->(∀k row,H k=some row->k≠j'/\H' k=some row)->K (.os j') H'):bQ prog 207 [.op F 0 0,.v (.slice none 0 0),int d,int dr] H K:=by
 have hk:=(List.getElem?_eq_some_iff.1 U).1;have b1:=inB hk;have g1:=aC (f:=bI) U;refine bQ.body (c:=f207.body.getD .skip) (fun _=>false) mixed func207 rfl (by kernel_rfl) ?_;unfold f207;simp only[Xbb];simp only[go_sem];refine NC.use (aBe ⟨d,dr⟩) fun A ab=>?_
 have n1:F≠A:=fun e=>by grind
 have T:aI H A (some (qO [⟨d,dr⟩])) F=some (mW s):=(aF _ _ _ _ n1).trans Z;have Y:aI H A (some (qO [⟨d,dr⟩])) A=some (qO [⟨d,dr⟩]):=aB _ _ _;have aa:∀k row,H k=some row->k≠A/\aI H A (some (qO [⟨d,dr⟩])) k=some row:=fun k row h=>by grind[aF]
 generalize aI H A (some (qO [⟨d,dr⟩]))=H1 at *;simp only[go_sem];refine gS [F] [(0,true),(1,true),(2,true),(3,true),(4,true),(5,true),(6,true),(7,true),(8,true),(9,true),(10,true),(11,true),(12,true),(13,true),(14,true),(15,true),(16,false),(17,true)] (by grind) (by kernel_rfl) fun Hp Hr hp hr _ af=>?_
 have E:=(hp F (by simp)).trans T;simp only[go_sem,g1,b1,E];have I:Hr A=some (qO [⟨d,dr⟩]):=(hr A (by grind)).trans Y;refine XI [⟨d,dr⟩] ⟨W (d+t.rest),0⟩ I (by simp) fun J H2 R2 ac=>?_
 simp only[go_sem];refine fun h0 Hm ag O=>?_
 have ae:J≠F:=fun e=>by grind
 simp only[go_sem];refine hK J Hm ((O J (by grind)).trans R2) fun k row X=>?_
 grind
def Gc(n:Network)(t:VType)(src:Int)(st:Stop)(out:List Sta)(a:Sta):List Sta:=
 let g:=gI n t.o6 src st.place a.ready
 if(g.2.2 != 0||decide (W (W (a.ν+g.1)-a.ready)>t.υ))=true then out
 else if((Rx.oE st g.1).2 != 0)=true then out
 else nX t out (Rx.oE st g.1).1 (W (W (a.ν+g.1)-a.ready))
def zU(n:Network)(t:VType)(src:Int)(st:Stop)(l:List Sta):List Sta:=l.foldl (Gc n t src st) []
def arX(n:Network)(t:VType)(src:Int)(st:Stop)(out:List Sta)(a:Sta):(Gc n t src st out a).length<=out.length+2:=by grind[Gc,Mi]
def EU(n:Network)(t:VType)(src:Int)(st:Stop)(l:List Sta):∀k,((l.take k).foldl (Gc n t src st) []).length<=2*k
 | 0=>by simp
 | k+1=>by
  have h:=EU n t src st l k;by_cases E:k<l.length
  ·obtain⟨c,A⟩:=aK E;rw[nL A];exact Xaf (arX n t src st _ c) (by omega)
  ·rw[Xai (by omega)];rw[Xai (by omega)]at h;omega
def atB(H0:aM)(js:Nat)(s:Sr)(t:VType)(hj:H0 js=some (mW s))(ht:s.x.types[s.kind]?=some t)(src:Int)(l:List Sta)(st:Stop)(hn:NetOk s.x.τ)(hl:l.length<=400000):
  LC prog 270 [.op js 0 0,int src,.sl (l.map iX),.agg (eT st)] H0 (.sl ((zU s.x.τ t src st l).map iX)):=by
 have hk:=(List.getElem?_eq_some_iff.1 ht).1;have b1:=inB hk;have g1:=aC (f:=bI) ht;refine LC.body (c:=f270.body.getD .skip) (fun t=>t == 10) mixed func270 rfl (by kernel_rfl) ?_;unfold f270;simp only[Xbb];simp only[go_sem];have U:=Sup.refl H0;have ac:=U.at hj;refine gS [js] [(0,true),(1,true),(2,true),(3,true),(4,true),(5,true),(6,true),(7,true),(8,true),(9,true),(10,true),(11,false),(12,false)] (by grind) (by kernel_rfl) fun Hp Hr hp hr _ ax=>?_
 have T:=(hp js (by simp)).trans ac;simp only[go_sem,g1,b1,T];refine aH fun Z aw=>?_
 simp only[go_sem];refine aG (aB _ _ _) (by simp[kD]) ?_;refine tD hr aw fun ar=>?_
 have ah:=U.none ar;generalize ai:aI (aI _ Z _) Z _=HGi9;replace U:=Sup.eq ((U.upd ah _).upd ah _) ai;have Y:HGi9 Z=some ((⟨95,14,[bI t]⟩:Row)):=by rw[<-ai,aB];try rfl
 simp only[go_sem];refine aH fun j aq=>?_
 have aa:Z≠j:=aV Y aq;have au:=U.none aq;generalize ak:aI _ j _=HGj;replace U:=Sup.eq (U.upd au _) ak;replace Y:=(congrFun ak.symm Z).trans ((aF _ _ _ _ aa).trans Y);have R:HGj j=some (qO []):=by rw[<-ak,aB];try rfl
 simp only[go_sem];refine⟨fun ρ H=>∃(k:Nat) (j:Nat),k<=l.length/\ρ 0=.op js 0 0/\ρ 1=int src/\ρ 7=.rp (eT st) 0/\ρ 9=.op Z 0 0/\ρ 28=.sl (l.map iX)/\ρ 29=int (l.length:Nat)/\ρ 30=int k/\ρ 10=.os j/\Sup H0 H/\H0 j=none/\H Z=some (⟨95,14,[bI t]⟩:Row)/\H j=some (qO ((l.take k).foldl (Gc s.x.τ t src st) [])),fun ρ _=>l.length-aT (ρ 30),⟨0,j,Xaa _,rfl,rfl,rfl,rfl,rfl,rfl,(by rfl),rfl,U,au,Y,R⟩,?_⟩;rintro ρ H ⟨k,j,hk,e0,e1,e7,e9,ae,af,ab,ag,U,nj,Y,R⟩;simp only[go_sem,af,ab];refine aA (fun J=>?_) (fun ao=>?_)
 ·have J:=ltB (by omega);obtain⟨a,ha⟩:=aK J;have d1:=inB J;have hs:=nL (f:=Gc s.x.τ t src st) (b:=([]:List Sta)) ha;have ay:=EU s.x.τ t src st l k;generalize (l.take k).foldl (Gc s.x.τ t src st) []=out at *;have av:Z≠j:=fun e=>by grind
  simp only[go_sem,ae,ab,aC ha,d1];refine aH fun O I=>?_
  have F:j≠O:=aV R I;have E:Z≠O:=aV Y I;simp only[go_sem];refine aG (aB _ _ _) (by simp[Mr]) ?_;have X:=U.none I;generalize A:aI (aI _ O _) O _=HGi12;replace U:=Sup.eq ((U.upd X _).upd X _) A;replace R:=kpR A F F R;replace Y:=kpR A E E Y;have al:HGi12 O=some ((⟨307,2,[iX a]⟩:Row)):=by rw[<-A,aB];try rfl
  clear A I;simp only[go_sem];have ac:=U.at hj;have ne:js≠O:=Sup.ne (Sup.refl H0) hj X;refine gS [js,Z,O] [(0,true),(1,true),(2,true),(3,true),(4,true),(5,true),(6,true),(7,true),(8,true),(9,true),(10,true),(11,true),(12,false),(13,true),(14,true),(15,true),(16,true),(17,true),(18,true),(19,true)] (by grind) (by kernel_rfl) fun Hp Hr hp hr _ ax=>?_
  have T:=(hp js (by simp)).trans ac;have ap:=(hp Z (by simp)).trans Y;have an:=(hp O (by simp)).trans al;simp only[go_sem,e0,e1,e7,e9,T,ap,an];refine aL (ajF s.x.τ t.o6 src st.place a.ready hn) ?_;simp only[go_sem];refine qY hr ?_;have ha:Gc s.x.τ t src st out a=(if((gI s.x.τ t.o6 src st.place a.ready).2.2 != 0||decide (W (W (a.ν+(gI s.x.τ t.o6 src st.place a.ready).1)-a.ready)>t.υ))=true then out
   else if((Rx.oE st (gI s.x.τ t.o6 src st.place a.ready).1).2 != 0)=true then out
   else nX t out (Rx.oE st (gI s.x.τ t.o6 src st.place a.ready).1).1 (W (W (a.ν+(gI s.x.τ t.o6 src st.place a.ready).1)-a.ready))):=rfl
  rw[ha]at hs;generalize gI s.x.τ t.o6 src st.place a.ready=g at *;simp only[go_sem,e9,Y,al];apply aA <;> intro c1
  ·have c1:(g.2.2 != 0||decide (W (W (a.ν+g.1)-a.ready)>t.υ))=true:=c1;rw[if_pos c1]at hs;simp only[go_sem,e0,e1,e7,e9,ae,af,ab,ag,aQ k];refine⟨⟨k+1,j,J,rfl,rfl,U,nj,Y,?_⟩,msr J⟩
   grind
  have c1:(g.2.2 != 0||decide (W (W (a.ν+g.1)-a.ready)>t.υ))=false:=c1;rw[if_neg (fun h=>Bool.noConfusion (c1.symm.trans h))]at hs;simp only[go_sem,e7,];refine aL (Rx.anZ st g.1) ?_;simp only[go_sem];generalize Rx.oE st g.1=dp at *;apply aA <;> intro c2
  ·rw[if_pos c2]at hs;simp only[go_sem,e0,e1,e7,e9,ae,af,ab,ag,aQ k];refine⟨⟨k+1,j,J,rfl,rfl,U,nj,Y,?_⟩,msr J⟩
   grind
  rw[if_neg (fun h=>Bool.noConfusion (c2.symm.trans h))]at hs;simp only[go_sem,e0,ag,al];refine aqB s t out dp.1 (W (W (a.ν+g.1)-a.ready)) ht ac R (by omega) fun j2 H2 R2 am=>?_
  simp only[go_sem,e0,e1,e7,e9,ae,af,ab,aQ k];refine⟨⟨k+1,j2,J,rfl,rfl,fun q row hq=>?_,?_,(am Z _ av Y).2,?_⟩,msr J⟩
  ·have aj:q≠j:=fun e=>by grind
   exact(am q row aj (U q row hq)).2
  ·cases e:H0 j2 with
   | none=>rfl
   | some row=>
    have aj:j2≠j:=fun e2=>by grind
    exact absurd rfl (am j2 row aj (U j2 row e)).1
  grind
 have ao:=geB hk (by omega);subst ao;rw[Xad]at R;simp only[go_sem,ag];exact⟨U,[j],by grind,.row _ _ _ (by simp;exact R) (ConvE.refl _)⟩
def amS(H0:aM)(E:Nat)(s:Sr)(t:VType)(d dr:Int)(J:s.x.types[s.kind]?=some t)(F:H0 E=some (mW s)):
  LC prog 207 [.op E 0 0,.v (.slice none 0 0),int d,int dr] H0 (.sl ((nX t [] d dr).map iX)):=fun K I=>
 bQ.data (atH s t d dr J F fun j' H' R A=>⟨fun k row h=>(A k row h).2,[j'],fun k T=>by
  have e:k=j':=by grind
  subst e;cases O:H0 k<;>grind,.row _ _ _ (by simp;exact R) (ConvE.refl _)⟩) I
end Sq
namespace Sq
open Go.Proofs.Tryz
open Go.Proofs.YtkfhgjihlbilpaaGreatDoor.Nu (ltB geB)
open Mv (bS bU aS)
def vL(a b:Column):Bool:=if(a.o8 != b.o8)=true then decide (a.o8<b.o8)else decide (TP a.χ.y7 b.χ.y7<0)
def asD(a b:Column)(E:a.χ.y7.length<=1048576):PC prog 267 [.agg (bC a),.agg (bC b)] (boo (vL a b)):=by
 refine pcd func267 rfl rfl ?_;simp only[go_sem];unfold vL;apply aA <;> intro A
 ·rw[if_pos A];simp only[go_sem];exact .refl _
 ·rw[if_neg (by grind)];simp only[go_sem];refine aL (ayE a.χ.y7 b.χ.y7 E) ?_;simp only[go_sem];exact .refl _
def zI(best:Column)(fd:Bool)(next:Column):Column:=if(!fd||vL next best)=true then next else best
abbrev oQ(c:Column):Row:=⟨115,7,[bC c]⟩
def eF:Column:=⟨0,0,0,⟨0,0,[],[]⟩⟩
def awS(best:Column)(O:Bool)(next:Column)(U:next.χ.y7.length<=1048576):PC prog 266 [.agg (bC best),boo O,.agg (bC next),.v (.func (.func 267) #[] #[])] (.agg (bC (zI best O next))):=by
 have J:aE prog 267=true:=by rfl
 have F:=asD next best U
 refine pcd func266 rfl rfl ?_;simp only[go_sem];refine eJ fun i8 E T (A:E i8=some (oQ eF)) N=>?_
 simp only[go_sem,J];refine⟨_,fun _=>F.q rfl,?_⟩;simp only[go_sem];unfold zI;apply aA <;> intro F
 ·rw[if_pos F];simp only[go_sem];refine aG A (by simp[dB]) ?_;generalize I:aI _ i8 _=HP;replace A:HP i8=some (oQ next):=upS I;simp only[go_sem,A];exact .refl _
 ·rw[if_neg (fun h=>Bool.noConfusion (F.symm.trans h))];simp only[go_sem];refine aG A (by simp[dB]) ?_;generalize I:aI _ i8 _=HP;replace A:HP i8=some (oQ best):=upS I;simp only[go_sem,A];exact .refl _
def nO(s:Sr)(l:List Visit):Route:=⟨(s.kind:Nat),0,[],l⟩
def LG(s:Sr)(l:List Visit)(p:Int):Column:=⟨(s.kind:Nat),s.set,p,nO s l⟩
def Na(s:Sr)(l:List Visit):Sr:=if((fT s.x (nO s l)).2 == 0)=true then { s with best:=zI s.best s.found (LG s l (fT s.x (nO s l)).1),found:=true }else s
def wU(t:VType)(rec:Sr->List Visit->Int->List Sta->Sr)(l:List Visit)(src:Int)(st:List Sta)(s:Sr)(v:Visit):Sr:=
 if((fF s.x v).2 != 0)=true then s
 else if(zU s.x.τ t src (fF s.x v).1 st).length=0 then s
 else rec s (l++[v]) (fF s.x v).1.place (zU s.x.τ t src (fF s.x v).1 st)
def oX(t:VType):Nat->Sr->List Visit->Int->List Sta->Sr
 | 0,s,_,_,_=>s
 | f+1,s,l,src,st=>if((l.length:Int) == (s.total:Int))=true then Na s l else(qA s.x s.set l).foldl (wU t (oX t f) l src st) s
structure SameB(s s':Sr):Prop where
 x:s'.x=s.x
 kind:s'.kind=s.kind
 set:s'.set=s.set
 total:s'.total=s.total
structure SrB(t:VType)(s:Sr):Prop where
 ty:s.x.types[s.kind]?=some t
 ev:EvalB s.x
 before:s.x.before.length<=1048576
 y5:s.x.y5.length<=60
 total:s.total<=16
theorem SameB.refl(s:Sr):SameB s s:=⟨rfl,rfl,rfl,rfl⟩
def SameB.trans{a b c:Sr}(h:SameB a b)(g:SameB b c):SameB a c:=⟨g.x.trans h.x,g.kind.trans h.kind,g.set.trans h.set,g.total.trans h.total⟩
def SameB.b{t:VType}{a b:Sr}(h:SameB a b)(g:SrB t a):SrB t b:=⟨by rw[h.x,h.kind];exact g.ty,by rw[h.x];exact g.ev,by rw[h.x];exact g.before,by rw[h.x];exact g.y5,by rw[h.total];exact g.total⟩
def adR(s:Sr)(l:List Visit):SameB s (Na s l):=by unfold Na;split <;> exact⟨rfl,rfl,rfl,rfl⟩
def LM{α:Type}{g:Sr->α->Sr}(A:∀a v,SameB a (g a v)):∀(l:List α) (a:Sr),SameB a (l.foldl g a)
 | [],a=>.refl a
 | v::l,a=>(A a v).trans (LM A l (g a v))
theorem tI(t:VType):∀(f:Nat) (s:Sr) (l:List Visit) (src:Int) (st:List Sta),SameB s (oX t f s l src st)
 | 0,s,_,_,_=>.refl s
 | f+1,s,l,src,st=>by
  unfold oX;split
  ·exact adR s l
  ·refine LM (fun a v=>?_) _ _;unfold wU;split
   ·exact .refl a
   ·split
    ·exact .refl a
    ·exact tI t f _ _ _ _
def aA1{H:aM}{j:Nat}:(fun q=>if q∈[j]then none else H q)=aI H j none:=funext fun q=>by grind[aI]
def IV{l:List Nat}{H0 H F:aM}{K:Env->aM->Prop}{ρ:Env}{I A:Nat}{a b:Row}{O:Option Row}(Z:∀k,k∉l->F k=H k)(J:A∉l)(h5:F I=none)(U:Sup (aI H0 A (some a)) H)
  (h:∀E:aM,E A=some b->Sup (aI H0 A (some b)) E->K ρ E):tK l H K ρ (aI (aI (aI F I O) I none) A (some b)):=fun h0 E h1 T=>by
 refine h E ((T A J).trans (aB _ _ _)) fun k row X=>?_
 by_cases e:k=A
 ·grind[aB]
 ·rw[aF _ _ _ _ e]at X;have Y:=U k row (by grind[aF])
  grind[aF]
abbrev ajS(t:VType)(js f:Nat):Prop:=∀(s:Sr) (_:SrB t s) (H0:aM) (_:H0 js=some (mW s)) (l:List Visit) (src:Int) (st:List Sta) (_:l.length<=s.total) (_:s.total-l.length<f) (_:st.length<=2^(l.length+1)),
 MC prog 206 [.op js 0 0,.sl (l.map aN),int src,.sl (st.map iX)] H0 (aI H0 js (some (mW (oX t f s l src st)))) (.tup [])
def Ob(t:VType)(E f:Nat)(ao:∀f',f=f'+1->ajS t E f'):ajS t E f:=by
 intro s an H0 a6 l src st bt hf bm;obtain⟨f,rfl⟩:∃f',f=f'+1:=⟨f-1,by omega⟩;have ao:=ao f rfl;have bp:=an.total;have hj:=a6;have eW:oX t (f+1) s l src st=if((l.length:Int) == (s.total:Int))=true then Na s l else(qA s.x s.set l).foldl (wU t (oX t f) l src st) s:=rfl
 generalize oX t (f+1) s l src st=RW at *;refine MC.body (c:=f206.body.getD .skip) (fun _=>false) (WK a6) mixed func206 rfl (by kernel_rfl) ?_;unfold f206;simp only[Xbb];simp only[go_sem,hj,Xac];have U:=Sup.refl H0;refine aA (fun hb=>?_) (fun hb=>?_)
 ·rw[if_pos hb]at eW;subst eW;have eE:Na s l=if((fT s.x (nO s l)).2 == 0)=true then { s with best:=zI s.best s.found (LG s l (fT s.x (nO s l)).1),found:=true }else s:=rfl
  have hP:=aoJ s.x (nO s l) an.ev (by show l.length<=1048575;omega);simp only[go_sem,hj];refine aH fun j8 aq=>?_
  have Y:E≠j8:=aV hj aq;simp only[go_sem];refine aG (aB _ _ _) (by simp[]) ?_;have ay:=U.none aq;generalize aj:aI (aI _ j8 _) j8 _=HGj8;replace U:=Sup.eq ((U.upd ay _).upd ay _) aj;replace hj:=kpR aj Y Y hj;have R8:HGj8 j8=some ((⟨101,4,[bJ (nO s l)]⟩:Row)):=by rw[<-aj,aB];try rfl
  clear aj aq;simp only[go_sem,];refine gS [E,j8] [(0,true),(1,true),(2,true),(3,true),(4,true),(5,false),(6,true),(7,true),(8,true),(9,true),(10,true)] (by grind) (by kernel_rfl) fun Hp Hr hp hr _ aw=>?_
  have ac:=(hp E (by simp)).trans hj;have av:=(hp j8 (by simp)).trans R8;simp only[go_sem,ac,av];refine aL hP ?_;generalize fT s.x (nO s l)=pr at *;simp only[go_sem];refine qY hr ?_;simp only[go_sem];refine aA (fun hc=>?_) (fun hc=>?_)
  case refine_2=>
   rw[if_neg (fun h=>Bool.noConfusion (hc.symm.trans h))]at eE;rw[eE];simp only[go_sem]
   grind[Rl.flat,U4]
  rw[if_pos hc]at eE;simp only[go_sem];refine gS [E,j8] [(0,true),(1,true),(2,true),(3,true),(4,true),(5,true),(6,true),(7,true),(8,true),(9,true),(10,true),(11,false),(12,false)] (by grind) (by kernel_rfl) fun Hp Hr hp hr _ aw=>?_
  have ac:=(hp E (by simp)).trans hj;have av:=(hp j8 (by simp)).trans R8;simp only[go_sem,ac,av];refine aH fun af be=>?_
  simp only[go_sem];refine aG (aB _ _ _) (by simp[nD]) ?_;refine tD hr be fun am=>?_
  have O:E≠af:=aV hj am;have au:=U.none am;generalize ag:aI (aI _ af _) af _=HGj11;replace U:=Sup.eq ((U.upd au _).upd au _) ag;replace hj:=kpR ag O O hj;have bj:HGj11 af=some (oQ (LG s l pr.1)):=by rw[<-ag,aB];try rfl
  simp only[go_sem,];have hF:=awS s.best s.found (LG s l pr.1) (by show l.length<=1048576;omega);generalize bw:zI s.best s.found (LG s l pr.1)=fb at *;have bx:E≠af:=fun e=>by omega
  refine oU [af] (.q 0 (.q 1 (.q 2 (.q 3 (.q 5 (.q 6 (.q 7 (.q 9 (.a2 4 (.a1 8 (.a1 10 (.q 11 (.q 12 (.a1 13 .nil))))) 8 (.a1 4 (.a1 10 (.q 11 (.q 12 (.a1 13 .nil)))))))))))))) (fun A H'=>A 0=.op E 0 0/\H' E=some (mW { s with best:=fb })/\Sup (aI H0 E (some (mW { s with best:=fb }))) H') (by grind) (by kernel_rfl) (fun K' ab Hp Hr hp hr _ aw=>?_) ?_
  ·have a9:=(hp af (by simp)).trans bj;have ai:=(hr E (by grind)).trans hj;simp only[go_sem,a9];refine jG ?_ ?_
   ·simp only[go_sem,ai];refine aL hF ?_;simp only[go_sem];refine aG ai (by simp[dB]) ?_;simp only[go_sem];refine xG hr (by grind) (ab _ _ ⟨rfl,(aB _ _ _).trans rfl,?_⟩);exact U.set E (some (mW { s with best:=fb }))
   ·simp only[go_sem,ai];refine aL hF ?_;simp only[go_sem];refine aG ai (by simp[dB]) ?_;simp only[go_sem];refine xG hr (by grind) (ab _ _ ⟨rfl,(aB _ _ _).trans rfl,?_⟩);exact U.set E (some (mW { s with best:=fb }))
  rintro ρ H ⟨e0,R,U⟩;simp only[go_sem,e0];refine bP so4 R (by simp[]) ?_;simp only[go_sem];rw[eE];refine Rl.flat ?_ _;exact Sup.set2 U (some (mW { s with best:=fb,found:=true }))
 rw[if_neg (fun h=>Bool.noConfusion (hb.symm.trans h))]at eW;subst eW;have br:l.length<s.total:=by grind
 have bq:=an.y5;have bf:=Fe s.x s.set l s.x.y5.length;simp only[go_sem];refine gS [E] [(0,true),(1,true),(2,true),(3,true),(4,true),(5,true),(6,true),(7,true),(8,true),(11,true),(9,false),(10,true)] (by grind) (by kernel_rfl) fun Hp Hr hp hr _ aw=>?_
 have ac:=(hp E (by simp)).trans hj;simp only[go_sem,ac];refine aL (auH s.x s.set l (by omega) an.before (by omega)) ?_;have bf:(qA s.x s.set l).length<=120:=Xaf bf (by omega);generalize qA s.x s.set l=vs at *;simp only[go_sem,Xac];refine qY hr ?_;have bu:st.length<=131072:=Xaf bm (Xaf (Xah (by decide) (show l.length+1<=17 by omega)) (by decide));refine⟨fun ρ H=>∃(k:Nat) (a:Sr),k<=vs.length/\ρ 0=.op E 0 0/\ρ 1=.sl (l.map aN)/\ρ 2=int src/\ρ 3=.sl (st.map iX)/\ρ 77=.sl (vs.map aN)/\ρ 78=int (vs.length:Nat)/\ρ 79=int k/\a=(vs.take k).foldl (wU t (oX t f) l src st) s/\SameB s a/\H E=some (mW a)/\Sup (aI H0 E (some (mW a))) H,fun ρ _=>vs.length-aT (ρ 79),⟨0,s,Xaa _,rfl,rfl,rfl,rfl,rfl,rfl,(by rfl),rfl,SameB.refl s,a6,by grind[U4]⟩,?_⟩;rintro ρ H ⟨k,a,hk,e0,e1,e2,e3,T,X,F,ha,hS,R,U⟩;simp only[go_sem,X,F];refine aA (fun al=>?_) (fun bd=>?_)
 ·have al:=ltB (by omega);obtain⟨v,hv⟩:=aK al;have b1:=inB al;have hs:=nL (f:=wU t (oX t f) l src st) (b:=s) hv;rw[<-ha]at hs;have a7:=hS.b an;have eX:wU t (oX t f) l src st a v=if((fF a.x v).2 != 0)=true then a
   else if(zU a.x.τ t src (fF a.x v).1 st).length=0 then a
   else oX t f a (l++[v]) (fF a.x v).1.place (zU a.x.τ t src (fF a.x v).1 st):=rfl
  have bh:SameB a (wU t (oX t f) l src st a v):=by
   unfold wU;split
   ·exact .refl a
   ·split
    ·exact .refl a
    grind[tI]
  generalize wU t (oX t f) l src st a v=EV at *;have bb:=ZZ a.x v;generalize bv:fF a.x v=sv at *;simp only[go_sem,T,F,aC hv,b1];refine aH fun J ah=>?_
  have I:E≠J:=aV R ah;simp only[go_sem,];refine aG (aB _ _ _) (by simp[dG]) ?_;have ap:=U.none ah;generalize Z:aI (aI _ J _) J _=HGi13;replace U:=Sup.eq ((U.upd ap _).upd ap _) Z;replace R:=kpR Z I I R;have aa:HGi13 J=some ((⟨97,2,[aN v]⟩:Row)):=by rw[<-Z,aB];try rfl
  clear Z ah;simp only[go_sem,];refine oU [E,J] (.q 0 (.q 1 (.q 2 (.q 3 (.q 4 (.q 5 (.a2 6 (.q 7 (.q 8 (.q 9 (.a1 10 (.a1 11 (.q 12 .nil)))))) 10 (.a1 6 (.q 7 (.q 8 (.q 9 (.a1 11 (.q 12 .nil))))))))))))) (fun A H'=>A 0=.op E 0 0/\A 1=.sl (l.map aN)/\A 2=int src/\A 3=.sl (st.map iX)/\A 77=.sl (vs.map aN)/\A 78=int vs.length/\A 79=int (k:Nat)/\A 13=.op J 0 0/\A 15=int sv.2/\∃ak,A 14=.op ak 0 0/\H' ak=some (⟨58,4,[eT sv.1]⟩:Row)/\H' J=some (⟨97,2,[aN v]⟩:Row)/\H' E=some (mW a)/\Sup (aI H0 E (some (mW a))) H') (by simp_all) (by kernel_rfl) (fun K' ab Hp Hr hp hr _ aw=>?_) ?_
  ·have bk:=(hp E (by simp)).trans R;have ae:=(hp J (by simp)).trans aa;simp only[go_sem,e0,bk,ae];refine jG ?_ ?_
   ·simp only[go_sem,];refine aL bb ?_;simp only[go_sem,];refine aH fun j8 a5=>?_
    simp only[go_sem,];refine aG (aB _ _ _) (by simp[iP]) ?_;simp only[go_sem];refine tD hr a5 fun h8=>ab _ _ ⟨by simp only[go_sem,e0,],by simp only[go_sem,e1,],by simp only[go_sem,e2,],by simp only[go_sem,e3,],by simp only[go_sem,T,],X,F,by rfl,rfl,j8,rfl,aB _ _ _,(aF _ _ _ _ (aV aa h8)).trans ((aF _ _ _ _ (aV aa h8)).trans aa),(aF _ _ _ _ (aV R h8)).trans ((aF _ _ _ _ (aV R h8)).trans R),(U.upd (U.none h8) _).upd (U.none h8) _⟩
   ·simp only[go_sem,];refine aH fun j8 a5=>?_
    simp only[go_sem,];refine aL bb ?_;simp only[go_sem,];refine aG (aB _ _ _) (by simp[iP]) ?_;simp only[go_sem];refine tD hr a5 fun h8=>ab _ _ ⟨by simp only[go_sem,e0,],by simp only[go_sem,e1,],by simp only[go_sem,e2,],by simp only[go_sem,e3,],by simp only[go_sem,T,],X,F,by rfl,rfl,j8,rfl,aB _ _ _,(aF _ _ _ _ (aV aa h8)).trans ((aF _ _ _ _ (aV aa h8)).trans aa),(aF _ _ _ _ (aV R h8)).trans ((aF _ _ _ _ (aV R h8)).trans R),(U.upd (U.none h8) _).upd (U.none h8) _⟩
  rintro ρ H ⟨e0,e1,e2,e3,T,X,F,bi,bn,ak,ba,bg,aa,R,U⟩;simp only[go_sem,bn];refine aA (fun c1=>?_) (fun c1=>?_)
  ·rw[if_pos c1]at eX;simp only[go_sem,e0,e1,e2,e3,T,X,F,aQ k];exact⟨⟨k+1,a,al,rfl,by grind,hS,R,U⟩,by simp only[aJ];omega⟩
  rw[if_neg (fun h=>Bool.noConfusion (c1.symm.trans h))]at eX;have bo:=atB H E a t R a7.ty src st sv.1 a7.ev.τ (by omega);have ar:=EU a.x.τ t src sv.1 st st.length;rw[Xad]at ar;replace ar:(zU a.x.τ t src sv.1 st).length<=2*st.length:=ar;generalize zU a.x.τ t src sv.1 st=nx at *;simp only[go_sem,e0,e2,e3,ba,bg];refine LC.use bo ?_;simp only[go_sem,Xac];refine aA (fun c2=>?_) (fun c2=>?_)
  case refine_2=>
   have hz:nx.length=0:=by grind
   rw[if_pos hz]at eX;simp only[go_sem,e0,e1,e2,e3,T,X,F,aQ k];exact⟨⟨k+1,a,al,rfl,by grind,hS,R,U⟩,by simp only[aJ];omega⟩
  have hz:¬nx.length=0:=by grind
  rw[if_neg hz]at eX;have b0:E≠J:=fun e=>by omega
  have bz:E≠ak:=fun e=>by grind
  simp only[go_sem,];have bc:(l++[v]).length=l.length+1:=by simp
  have az:=fun(Hx:aM) (hx:Hx E=some (mW a))=>ao a a7 Hx hx (l++[v]) sv.1.place nx (by rw[bc,hS.total];omega) (by rw[bc,hS.total];omega) (by grind)
  rw[<-eX]at az;refine oU [J,ak] (.q 0 (.q 1 (.q 3 (.q 6 (.q 7 (.q 8 (.a2 2 (.a1 4 (.a1 5 (.a1 9 .nil))) 4 (.a1 2 (.a1 5 (.a1 9 .nil)))))))))) (fun A H'=>A 0=.op E 0 0/\A 1=.sl (l.map aN)/\A 2=int src/\A 3=.sl (st.map iX)/\A 77=.sl (vs.map aN)/\A 78=int vs.length/\A 79=int (k:Nat)/\H' E=some (mW EV)/\Sup (aI H0 E (some (mW EV))) H') (by grind) (by kernel_rfl) (fun K' ab Hp Hr hp hr _ aw=>?_) ?_
  ·have ae:=(hp J (by simp)).trans aa;have a8:=(hp ak (by simp)).trans bg;have ax:=(hr E (by grind)).trans R;simp only[go_sem,e0,e1,bi,ba,ae,a8];refine jG ?_ ?_
   ·simp only[go_sem,];refine aL (aqA l (by omega)) ?_;simp only[go_sem,];refine aaS aAs (.inl rfl) (by simp) (BM dG l) (by simp only[go_sem]) (by grind) fun j5 h5=>?_
    have n5:E≠j5:=aV ax h5;simp only[go_sem,];refine bQ.frz [j5] (args':=[.op E 0 0,.sl (l.map aN++[aN v]),int sv.1.place,.sl (nx.map iX)]) (.cons _ _ _ _ (.refl _) (.cons _ _ _ _ (.row _ _ _ (by simp;exact aB _ _ _) (ConvE.refl _)) (.cons _ _ _ _ (.refl _) (.cons _ _ _ _ (.refl _) .nil)))) ?_;rw[aA1,show l.map aN++[aN v]=(l++[v]).map aN by simp];refine MC.use (az _ ((aF _ _ _ _ n5).trans ((aF _ _ _ _ n5).trans ax))) ?_;simp only[go_sem,];refine IV hr (by grind) h5 U fun Hm a4 a0=>ab _ _ ⟨by simp only[go_sem,e0,],by simp only[go_sem,e1,],by simp only[go_sem,e2,],by simp only[go_sem,e3,],by simp only[go_sem,T,],by simp only[go_sem,X,],by simp only[go_sem,F,],a4,a0⟩
   ·simp only[go_sem,];refine aL (aqA l (by omega)) ?_;simp only[go_sem,];refine aaS aAs (.inl rfl) (by simp) (BM dG l) (by simp only[go_sem]) (by grind) fun j5 h5=>?_
    have n5:E≠j5:=aV ax h5;simp only[go_sem,];refine bQ.frz [j5] (args':=[.op E 0 0,.sl (l.map aN++[aN v]),int sv.1.place,.sl (nx.map iX)]) (.cons _ _ _ _ (.refl _) (.cons _ _ _ _ (.row _ _ _ (by simp;exact aB _ _ _) (ConvE.refl _)) (.cons _ _ _ _ (.refl _) (.cons _ _ _ _ (.refl _) .nil)))) ?_;rw[aA1,show l.map aN++[aN v]=(l++[v]).map aN by simp];refine MC.use (az _ ((aF _ _ _ _ n5).trans ((aF _ _ _ _ n5).trans ax))) ?_;simp only[go_sem,];refine IV hr (by grind) h5 U fun Hm a4 a0=>ab _ _ ⟨by simp only[go_sem,e0,],by simp only[go_sem,e1,],by simp only[go_sem,e2,],by simp only[go_sem,e3,],by simp only[go_sem,T,],by simp only[go_sem,X,],by simp only[go_sem,F,],a4,a0⟩
  rintro ρ H ⟨e0,e1,e2,e3,T,X,F,R,U⟩;simp only[go_sem,e0,e1,e2,e3,T,X,F,aQ k];exact⟨⟨k+1,EV,al,rfl,hs.symm,hS.trans bh,R,U⟩,by grind[aJ]⟩
 have bd:=geB hk (by omega);subst bd;rw[Xad]at ha;rw[<-ha];simp only[go_sem];exact Rl.flat U _
end Sq
namespace Sq
open Go.Proofs.YtkfhgjihlbilpaaGreatDoor.Nu (ltB geB)
open Mv (bS bU aS)
def Zu(t:VType)(A:Nat):∀f,ajS t A f
 | 0=>Ob t A 0 (fun f' e=>by omega)
 | f + 1 => Ob t A (f + 1) (fun f' e => by
     obtain rfl:f'=f:=by omega
     exact Zu t A f')
def kX(x:Instance)(set:Int)(l:List Visit):Prop:=∀p v q,l=p++v::q->v∈qA x set p
def kX.nil{x:Instance}{set:Int}:kX x set []:=fun p v q h=>by simp at h
def kX.snoc{x:Instance}{set:Int}{l:List Visit}(h:kX x set l){v:Visit}(A:v∈qA x set l):kX x set (l++[v]):=fun p w q e=>by
 rcases List.eq_nil_or_concat q with rfl|⟨q',u,rfl⟩
 ·simp_all
 ·rw[List.concat_eq_append,show p++w::(q'++[u])=(p++w::q')++[u]by simp]at e;obtain⟨rfl,E⟩:=List.append_inj' e rfl;exact h p w q' rfl
def CN(s:Sr):Prop:=s.found=true->∃l,s.best=LG s l (fT s.x (nO s l)).1/\(fT s.x (nO s l)).2=0/\kX s.x s.set l/\l.length=s.total
theorem Wm{s:Sr}(h:CN s){l:List Visit}(F:kX s.x s.set l)(J:l.length=s.total):CN (Na s l):=by
 unfold Na;split
 next E=>
  have E:(fT s.x (nO s l)).2=0:=by grind
  intro _;show ∃l',zI s.best s.found (LG s l (fT s.x (nO s l)).1)=LG s l' (fT s.x (nO s l')).1/\(fT s.x (nO s l')).2=0/\kX s.x s.set l'/\l'.length=s.total;unfold zI;split
  ·grind
  next I=>
   have A:s.found=true:=by grind
   exact h A
 omega
def Lr{l:List Visit}{g:Sr->Visit->Sr}{s0:Sr}(A:∀a v,SameB s0 a->CN a->v∈qA s0.x s0.set l->SameB s0 (g a v)/\CN (g a v)):∀(vs:List Visit) (a:Sr),(∀v∈vs,v∈qA s0.x s0.set l)->SameB s0 a->CN a->CN (vs.foldl g a)
 | [],a,_,_,h=>h
 | v::vs,a,hv,hs,h=>by obtain⟨h1,E⟩:=A a v hs h (hv v (by simp));exact Lr A vs (g a v) (fun u F=>hv u (by grind)) h1 E
def I5(t:VType):∀(f:Nat) (s:Sr) (l:List Visit) (src:Int) (st:List Sta),CN s->kX s.x s.set l->CN (oX t f s l src st)
 | 0,s,_,_,_,h,_=>h
 | f+1,s,l,src,st,h,hl=>by
  unfold oX;split
  next I=>grind[Wm]
  ·refine Lr (l:=l) (fun a v E F A=>?_) _ s (fun v A=>A) (SameB.refl s) h;unfold wU;split
   ·grind
   ·split
    ·grind
    ·refine⟨E.trans (tI t f _ _ _ _),I5 t f _ _ _ _ F ?_⟩;rw[E.x,E.set];exact hl.snoc A
def xN(x:Instance)(l:List Int):Nat:=(l.map fun i=>(gD x.y5 i).length).sum
def kF(x:Instance)(set:Int):Nat:=xN x (dA set)
def Yf(x:Instance){l:List Int}{k:Nat}{i:Int}(h:l[k]?=some i):xN x (l.take (k+1))=xN x (l.take k)+(gD x.y5 i).length:=by simp_all[xN,aY]
theorem KC(x:Instance):∀l:List Int,xN x l<=2*l.length
 | []=>Xae _
 | i::l=>by have h1:=KC x l;have A:=xB x.y5 i;unfold xN at h1 |-;simp only[Xav,List.sum_cons,Xag];omega
def WA(x:Instance)(l:List Int)(k:Nat):xN x (l.take k)<=2*k:=by grind[KC]
def NY{set:Int}{n:Nat}(h:∀i:Nat,n<=i->dI set (i:Int)=false):∀d,rL set (n+d)=rL set n
 | 0=>rfl
 | d+1=>by rw[<-Nat.add_assoc,pC,h (n+d) (by omega),NY h d];simp
def ajU{set:Int}{n:Nat}(h0:0<=set)(h1:set<2^n)(i:Nat)(E:n<=i):dI set (i:Int)=false:=by
 obtain⟨m,rfl⟩:=Int.eq_ofNat_of_zero_le h0;by_cases A:i<=62
 ·rw[jW (by omega) (by omega),Xal];refine Xca (Xax (m:=2^n) ?_ (Xah (by decide) E))
  exact_mod_cast h1
 grind[dI]
def abQ{set:Int}{n:Nat}(h0:0<=set)(h1:set<2^n)(A:n<=63):(dA set).length<=n:=by
 have h:=NY (ajU h0 h1) (63-n)
 grind[dA,oR]
def Au{x:Instance}{set:Int}{n:Nat}(h0:0<=set)(h1:set<2^n)(A:n<=63):kF x set<=2*n:=by
 have E:=abQ h0 h1 A
 grind[KC,kF]
def apK{α:Type}{o:Option α}{f:α->Prop}{a:α}(h:o=some a)(A:f a):cA o f:=by subst h;exact A
abbrev lJ(t:VType):Row:=⟨95,14,[bI t]⟩
end Sq
namespace Sq
open Go.Proofs.Tryz
open Go.Proofs.YtkfhgjihlbilpaaGreatDoor.Nu (ltB geB)
open Mv (bS bU aS)
def Mu(x:Instance)(kind set:Int):Bool:=((decide (kind<0)||decide (kind>=(x.types.length:Int)))||decide (set<=0))||(shV .shr .i64 set (x.y5.length:Nat) != 0)
def Gr(x:Instance)(kind:Nat)(set:Int)(t:VType):Sr:=oX t 17 ⟨x,kind,set,kF x set,eF,false⟩ [] t.src (nX t [] t.start 0)
def rX(x:Instance)(kind set:Int):Column×Int:=
 if Mu x kind set=true then(eF,2)
 else if(Aj x set != 0)=true then(eF,24)
 else match x.types[kind.toNat]? with
 | none=>(eF,24)
 | some t=>if(Gr x kind.toNat set t).found=true then((Gr x kind.toNat set t).best,0)else(eF,24)
def ayO(x:Instance)(kind set:Int)(hE:EvalB x)(hn:x.y5.length<=8):PC prog 142 [.agg (aD x),int kind,int set] (.tup [.agg (bC (rX x kind set).1),int (rX x kind set).2]):=by
 refine pcb (fun t=>t == 43||t == 75) func142 rfl rfl ?_;simp only[go_sem];have A:rX x kind set=((if Mu x kind set=true then(eF,2)
  else if(Aj x set != 0)=true then(eF,24)
  else match x.types[kind.toNat]? with
  | none=>(eF,24)
  | some t=>if(Gr x kind.toNat set t).found=true then((Gr x kind.toNat set t).best,0)else(eF,24)):Column×Int):=rfl
 generalize rX x kind set=RP at *;refine aH fun F am=>?_
 generalize ap:aI _ F _=HG6;have E:HG6 F=some (oQ eF):=by rw[<-ap,aB];try rfl
 clear ap am;simp only[go_sem,Xac];refine⟨fun _=>by omega,aA (fun hb=>?_) (fun hb=>?_)⟩
 ·simp only[go_sem];refine aG E (by simp) ?_;generalize A:aI _ F _=HP;replace E:HP F=some (oQ eF):=by rw[<-A,aB];rfl
  clear A;simp only[go_sem,E];have hb:Mu x kind set=true:=hb;rw[if_pos hb]at A;rw[A];exact .refl _
 have aw:Mu x kind set=false:=hb;rw[if_neg (by grind)]at A;obtain⟨⟨⟨hk0,hk1⟩,hs0⟩,hs1⟩:((0<=kind/\kind<x.types.length)/\0<set)/\shV .shr .i64 set (x.y5.length:Nat)=0:=by grind
 rw[vE (by omega)]at hs1;obtain⟨k0,rfl⟩:=Int.eq_ofNat_of_zero_le hk0;have hk:k0<x.types.length:=by omega
 obtain⟨t,ht⟩:=aK hk;have bk:=inB hk;have af:set<2^x.y5.length:=by
  have hp:(0:Int)<2^x.y5.length:=Int.pow_pos (by decide);rcases Int.lt_or_le set (2^x.y5.length)with h|h
  ·exact h
  ·have:=Int.le_ediv_of_mul_le hp (show 1*2^x.y5.length<=set by omega);omega
 have hM:=Au (x:=x) (by omega) af (by omega);have av:=abQ (by omega) af (by omega);rw[show kF x set=xN x (dA set)from rfl]at *;simp only[go_sem];refine aL (G7 x set (by omega) hE.apart hE.before) ?_;rw[Xal,ht]at A;unfold Gr at A;simp only at A;rw[show kF x set=xN x (dA set)from rfl]at A;simp only[go_sem];apply aA <;> intro al
 ·simp only[go_sem];refine aG E (by simp) ?_;generalize A:aI _ F _=HP;replace E:HP F=some (oQ eF):=by rw[<-A,aB];rfl
  clear A;simp only[go_sem,E];rw[if_pos al]at A;rw[A];exact .refl _
 rw[if_neg (by grind)]at A;clear hb al aw;simp only[go_sem];refine apK (a:=zD ⟨x,k0,set,0,eF,false⟩) rfl ⟨by grind[N3],?_⟩;refine aH fun I ag=>?_
 have an:F≠I:=aV E ag;simp only[go_sem];generalize aj:aI _ I _=HGs;replace E:=(congrFun aj.symm F).trans ((aF _ _ _ _ an).trans E);have R:HGs I=some (mW ⟨x,k0,set,0,eF,false⟩):=by rw[<-aj,aB]
 clear aj ag;refine aL (mN set) ?_;simp only[go_sem,Xac];have ab:=oR set 63
 change (dA set).length<=63 at ab
 generalize dA set=M at *;clear av;have ay:M.length<=63:=ab;refine⟨fun ρ H=>∃(k:Nat),k<=M.length/\ρ 1=int (k0:Nat)/\ρ 3=.rp (aD x) 0/\ρ 6=.op F 0 0/\ρ 8=.op I 0 0/\ρ 45=.sl (M.map aP)/\ρ 46=int (M.length:Nat)/\ρ 47=int k/\H F=some (oQ eF)/\H I=some (mW ⟨x,k0,set,xN x (M.take k),eF,false⟩),fun ρ _=>M.length-aT (ρ 47),⟨0,Xaa _,rfl,rfl,rfl,rfl,rfl,rfl,(by rfl),E,R⟩,?_⟩;clear E R;rintro ρ H ⟨k,ar,e1,e3,e6,e8,Z,Y,J,E,R⟩;simp only[go_sem,Y,J];refine aA (fun ac=>?_) (fun ao=>?_)
 ·have ac:=ltB (by omega);obtain⟨i,hi⟩:=aK ac;have b1:=inB ac;have hs:=Yf x hi;have hb:=WA x M k;have hV:=xB x.y5 i;generalize xN x (M.take k)=T at *;simp only[go_sem,Z,J,aC hi,b1];refine oU [] (.q 0 (.q 1 (.q 2 (.q 4 (.q 5 (.q 6 (.a2 3 (.a1 7 (.q 8 (.q 9 (.q 10 (.q 11 (.a1 12 .nil)))))) 7 (.q 8 (.a1 3 (.q 9 (.q 10 (.q 11 (.a1 12 .nil)))))))))))))
   (fun U H'=>U 1=int (k0:Nat)/\U 3=.rp (aD x) 0/\U 6=.op F 0 0/\U 8=.op I 0 0/\U 45=.sl (M.map aP)/\U 46=int (M.length:Nat)/\U 47=int (k:Nat)/\H' F=some (oQ eF)/\H' I=some (mW ⟨x,k0,set,xN x (M.take (k+1)),eF,false⟩)) (by simp) (by kernel_rfl) (fun K' ak Hp Hr hp hr _ ax=>?_) ?_
  ·have O:=(hr I (by simp)).trans R;simp only[go_sem,e3,e8,];refine jG ?_ ?_
   ·simp only[go_sem,O];refine aL (wD x.y5 i) ?_;simp only[go_sem,Xac];refine bP so3 O (by simp[]) ?_;simp only[go_sem];refine xG hr (by simp) (ak _ _ ⟨by simp only[go_sem,e1,],by simp only[go_sem,e3,],by simp only[go_sem,e6,],by simp only[go_sem,e8,],by simp only[go_sem,Z,],Y,J,?_,?_⟩)
    ·grind[aF]
    rw[hs,aB];refine congrArg (fun l=>some (⟨249,17,[l]⟩:Row)) ?_;rw[aW (by omega)];rfl
   ·simp only[go_sem];refine aL (wD x.y5 i) ?_;simp only[go_sem,O,Xac];refine bP so3 O (by simp[]) ?_;simp only[go_sem];refine xG hr (by simp) (ak _ _ ⟨by simp only[go_sem,e1,],by simp only[go_sem,e3,],by simp only[go_sem,e6,],by simp only[go_sem,e8,],by simp only[go_sem,Z,],Y,J,?_,?_⟩)
    ·grind[aF]
    rw[hs,aB];refine congrArg (fun l=>some (⟨249,17,[l]⟩:Row)) ?_;rw[aW (by omega)];rfl
  clear E R e1 e3 e6 e8 Z Y J;rintro ρ H ⟨e1,e3,e6,e8,Z,Y,J,E,R⟩;simp only[go_sem,e1,e3,e6,e8,Z,Y,J,aQ k];exact⟨⟨k+1,ac,rfl,E,R⟩,msr ac⟩
 have ao:=geB ar (by omega);subst ao;rw[Xad]at R;simp only[go_sem,e1,e3,aC ht,bk];refine aH fun i11 X=>?_
 have ai:I≠i11:=aV R X;have ah:F≠i11:=aV E X;simp only[go_sem];refine aG (aB _ _ _) (by simp[kD]) ?_;generalize ae:aI (aI _ i11 _) i11 _=HGi;replace E:=kpR ae ah ah E;replace R:=kpR ae ai ai R;have aq:HGi i11=some (lJ t):=by rw[<-ae,aB];try rfl
 clear ae X;simp only[go_sem];refine gS [i11] [(0,true),(1,true),(2,true),(3,true),(4,true),(5,true),(6,false),(7,false)] (by grind) (by kernel_rfl) fun Hp Hr hp hr _ ax=>?_
 have au:=(hp i11 (by simp)).trans aq;have O:=(hr I (by grind)).trans R;simp only[go_sem,e8,au];refine LC.use (amS Hr I _ t t.start 0 ht O) ?_;simp only[go_sem];refine MC.use (Zu t I 17 ⟨x,k0,set,xN x M,eF,false⟩ ⟨ht,hE,hE.before,by grind,by grind⟩ Hr O [] t.src (nX t [] t.start 0) (Xaa _) (by grind) (Mi t [] t.start 0)) ?_;have hB:=tI t 17 ⟨x,k0,set,xN x M,eF,false⟩ [] t.src (nX t [] t.start 0);generalize oX t 17 ⟨x,k0,set,xN x M,eF,false⟩ [] t.src (nX t [] t.start 0)=s' at *;simp only[go_sem];refine xG hr (by grind) ?_;have R2:aI HGi I (some (mW s')) I=some (mW s'):=aB _ _ _;have aa:aI HGi I (some (mW s')) F=some (oQ eF):=(aF _ _ _ _ an).trans E;generalize aI HGi I (some (mW s'))=HX at *;clear E R aq;simp only[go_sem,e8,R2];apply aA <;> intro hb
 ·simp only[go_sem,e6,];refine aG aa (by simp) ?_;generalize A:aI _ F _=HP;replace aa:HP F=some (oQ eF):=by rw[<-A,aB];rfl
  clear A;simp only[go_sem,e6,aa];rw[if_neg (by grind)]at A;rw[A];exact .refl _
 simp only[go_sem,e6,e8,R2];refine aG aa (by simp[dB]) ?_;generalize A:aI _ F _=HP;replace aa:HP F=some (oQ s'.best):=by rw[<-A,aB];rfl
 clear A;simp only[go_sem,e6,aa];rw[if_pos (by grind)]at A;rw[A];exact .refl _
structure BestQ(x:Instance)(k:Nat)(set:Int)(c:Column):Prop where
 lt:k<x.types.length
 pos:0<set
 top:set<2^x.y5.length
 is:∃l,c=⟨(k:Nat),set,(fT x ⟨(k:Nat),0,[],l⟩).1,⟨(k:Nat),0,[],l⟩⟩/\(fT x ⟨(k:Nat),0,[],l⟩).2=0/\kX x set l/\l.length=kF x set
theorem asL{x:Instance}{k:Nat}{set:Int}(Z:x.y5.length<=8)(h:(rX x (k:Nat) set).2=0):BestQ x k set (rX x (k:Nat) set).1:=by
 unfold rX at h |-;split at h
 ·omega
 split at h
 ·omega
 next hb _=>
 rw[Xal]at *;split at h
 ·omega
 next t ht=>
 split at h
 case isFalse=>omega
 next J=>
 have I:Mu x (k:Nat) set=false:=by grind
 unfold Mu at I;obtain⟨⟨⟨hk0,hk1⟩,hs0⟩,hs1⟩:((0<=(k:Int)/\(k:Int)<x.types.length)/\0<set)/\shV .shr .i64 set (x.y5.length:Nat)=0:=by grind
 rw[vE (by omega)]at hs1;have E:set<2^x.y5.length:=by
  have X:(0:Int)<2^x.y5.length:=Int.pow_pos (by decide);rcases Int.lt_or_le set (2^x.y5.length)with h|h
  ·exact h
  ·have:=Int.le_ediv_of_mul_le X (show 1*2^x.y5.length<=set by omega);omega
 rw[if_neg hb,if_neg (by omega)];simp only[J,if_true];have A:=tI t 17 ⟨x,k,set,kF x set,eF,false⟩ [] t.src (nX t [] t.start 0);obtain⟨l,Y,U,O,T⟩:=I5 t 17 ⟨x,k,set,kF x set,eF,false⟩ [] t.src (nX t [] t.start 0) (fun h=>Bool.noConfusion h) kX.nil J;unfold Gr;generalize oX t 17 ⟨x,k,set,kF x set,eF,false⟩ [] t.src (nX t [] t.start 0)=s' at *;have F:nO s' l=⟨(k:Nat),0,[],l⟩:=by unfold nO;rw[A.kind]
 rw[F,A.x]at U;rw[A.x,A.set]at O;rw[A.total]at T;refine⟨by omega,hs0,E,l,?_,U,O,T⟩;rw[Y];unfold LG;rw[F,A.x,A.set,A.kind]
abbrev dZ(l:List Column):Row:=⟨115,7,l.map bC⟩
def IB(x:Instance)(kind set:Nat):List Column:=if((rX x (kind:Nat) (set:Nat)).2 == 0)=true then[(rX x (kind:Nat) (set:Nat)).1]else[]
def tS(x:Instance)(kind m:Nat):List Column:=(List.range m).flatMap fun s=>IB x kind (s+1)
def Et(x:Instance)(k:Nat):List Column:=(List.range k).flatMap fun kind=>tS x kind (2^x.y5.length-1)
def oJ(x:Instance):List Column:=Et x x.types.length
def Do(x:Instance)(kind m:Nat):tS x kind (m+1)=tS x kind m++IB x kind (m+1):=by grind[tS,Xas]
def E5(x:Instance)(k:Nat):Et x (k+1)=Et x k++tS x k (2^x.y5.length-1):=by grind[Et,Xas]
def adO(x:Instance)(kind set:Nat):(IB x kind set).length<=1:=by grind[IB]
def Bz(x:Instance)(kind:Nat):∀m,(tS x kind m).length<=m
 | 0=>Xae _
 | m+1=>by rw[Do,Xar];have:=Bz x kind m;have:=adO x kind (m+1);omega
def AN(x:Instance):∀k,(Et x k).length<=k*2^x.y5.length
 | 0=>Xaa _
 | k+1=>by rw[E5,Xar,Nat.succ_mul];have:=AN x k;have:=Bz x k (2^x.y5.length-1);have A:0<2^x.y5.length:=Nat.two_pow_pos _;omega
def afZ{x:Instance}{kind set:Nat}{c:Column}(A:x.y5.length<=8)(h:c∈IB x kind set):BestQ x kind set c:=by grind[IB,asL]
def rT{x:Instance}{c:Column}(A:x.y5.length<=8)(h:c∈oJ x):∃kind set:Nat,BestQ x kind set c:=by unfold oJ Et tS at h;obtain⟨kind,_,h⟩:=List.mem_flatMap.1 h;obtain⟨s,_,h⟩:=List.mem_flatMap.1 h;exact⟨kind,s+1,afZ A h⟩
def RD{s n:Nat}(A:n<=8):shV .shr .i64 ((s:Nat):Int) ((n:Nat):Int)=((s/2^n:Nat):Int):=by grind[vE]
def azG(x:Instance)(hE:EvalB x)(hn:x.y5.length<=8)(ht:x.types.length<=1000):NC prog 81 [.agg (aD x)] (dZ (oJ x)) (fun j=>.tup [.os j,int 0]):=by
 refine ncb (fun t=>t == 4) func81 rfl rfl ?_;simp only[go_sem];refine eJ fun j ab ai (R:ab j=some (dZ [])) N=>?_
 simp only[go_sem];refine⟨fun ρ H=>∃(k:Nat) (j:Nat),k<=x.types.length/\ρ 1=.rp (aD x) 0/\ρ 11=int (x.types.length:Nat)/\ρ 12=int k/\ρ 4=.os j/\H j=some (dZ (Et x k)),fun ρ _=>x.types.length-aT (ρ 12),⟨0,j,Xaa _,rfl,rfl,(by rfl),rfl,R⟩,?_⟩;rintro ρ H ⟨k,j,hk,J,F,E,U,R⟩;simp only[go_sem,F,E];refine aA (fun O=>?_) (fun Y=>?_)
 ·have O:=ltB (by omega);have hs:=E5 x k;have am:=AN x k;have h8:2^x.y5.length<=256:=Xaf (Xah (by decide) hn) (by decide);have hp:0<2^x.y5.length:=Nat.two_pow_pos _;have al:k*2^x.y5.length<=256000:=Xaf (Nat.mul_le_mul (show k<=1000 by omega) h8) (by decide);generalize ak:Et x k=A at *;simp only[go_sem,E];refine⟨fun ρ H=>∃m j:Nat,m<=2^x.y5.length-1/\ρ 1=.rp (aD x) 0/\ρ 5=int (k:Nat)/\ρ 6=int (m+1:Nat)/\ρ 11=int x.types.length/\ρ 12=int (k:Nat)/\ρ 4=.os j/\H j=some (dZ (A++tS x k m)),fun ρ _=>2^x.y5.length-aT (ρ 6),⟨0,j,Xaa _,by simp only[go_sem,J,],by rfl,(by rfl),by simp only[go_sem,F,],E,U,by grind[tS]⟩,?_⟩;rintro ρ H ⟨m,j,hm,J,e5,e6,F,E,U,R⟩;simp only[go_sem,J,e6,Xac];refine⟨by omega,aA (fun ae=>?_) (fun aa=>?_)⟩
  ·rw[RD hn]at ae;have T:(m+1)/2^x.y5.length=0:=by grind
   have ah:m+1<2^x.y5.length:=(Nat.div_eq_zero_iff.1 T).resolve_left (by omega);have I:=Do x k m;have aj:=Bz x k m;simp only[go_sem,J,e5,e6,];refine aL (ayO x (k:Nat) ((m+1:Nat):Int) hE hn) ?_;have ac:IB x k (m+1)=if((rX x (k:Nat) ((m+1:Nat):Int)).2 == 0)=true then[(rX x (k:Nat) ((m+1:Nat):Int)).1]else[]:=rfl
   rw[ac]at I;generalize rX x (k:Nat) ((m+1:Nat):Int)=B at *;generalize tS x k m=KM at *;simp only[go_sem];refine aH fun i7 Z=>?_
   simp only[go_sem];refine bW Z (by simp[dB]) fun X (R7:X i7=some (dZ [B.1])) N=>?_
   replace R:=(N R).2;simp only[go_sem];apply aA <;> intro hc
   ·rw[if_pos hc]at I;simp only[go_sem,U,R7];refine aU R ⟨rfl,rfl⟩ (by simp only[go_sem]) (by grind) (fun j2 an=>?_);simp only[go_sem,J,e5,e6,F,E,mT (show m+1<=4611686018427387904 by omega)];refine⟨⟨m+1,j2,by omega,rfl,rfl,?_⟩,by grind[aJ]⟩;rw[I,<-Xaw,aB];simp
   ·rw[if_neg (by grind),Xat]at I;simp only[go_sem,J,U,e5,e6,F,E,mT (show m+1<=4611686018427387904 by omega)]
    grind[aJ]
  ·rw[RD hn]at aa;have T:¬(m+1)/2^x.y5.length=0:=by grind
   have ag:¬m+1<2^x.y5.length:=fun h=>T (Nat.div_eq_of_lt h)
   have af:m=2^x.y5.length-1:=by omega
   subst af;simp only[go_sem,J,U,F,E,aQ k];refine⟨⟨k+1,j,O,rfl,rfl,?_⟩,msr O⟩
   grind
 have Y:=geB hk (by omega);subst Y;simp only[go_sem,U];exact⟨j,rfl,R⟩
end Sq
namespace Sq
open Mv (bS bU aS)
end Sq
namespace Nu
open Go.Proofs.Tryz
open Go.Nu
abbrev sP(f:Nat->Nat)(i:Nat)(r:PRow):List AV:=[.os (f i),int r.kind,int r.right]
abbrev amX(f:Nat->Nat)(rows:List PRow):Row:=⟨161,3,rows.mapIdx (sP f)⟩
def Cg(f:Nat->Nat)(k c:Nat):Nat->Nat:=fun i=>if i=k then c else f i
structure LinH(H:aM)(jr:Nat)(f:Nat->Nat)(rows:List PRow):Prop where
 row:H jr=some (amX f rows)
 θ:∀(i:Nat) (r:PRow),rows[i]?=some r->H (f i)=some (gV r.θ)
 inj:∀i k,i<rows.length->k<rows.length->f i=f k->i=k
def agC(f:Nat->Nat)(rows:List PRow)(c:Nat)(E A:Int):rows.mapIdx (sP f)++[[.os c,int E,int A]]=(rows++[(⟨[],E,A⟩:PRow)]).mapIdx (sP (Cg f rows.length c)):=by
 rw[List.mapIdx_append]
 congr 1
 ·refine List.ext_getElem? fun i=>?_
  rw[List.getElem?_mapIdx,List.getElem?_mapIdx];cases h:rows[i]? with
  | none=>rfl
  | some r=>
   have F:=(List.getElem?_eq_some_iff.1 h).1;show some (sP f i r)=some (sP (Cg f rows.length c) i r);unfold sP Cg
   grind
 simp[Cg]
def aeC(f:Nat->Nat)(rows:List PRow)(k c:Nat)(r:PRow)(l:List Int)(h:rows[k]?=some r):(rows.mapIdx (sP f)).set k [.os c,int r.kind,int r.right]=(rows.set k (⟨l,r.kind,r.right⟩:PRow)).mapIdx (sP (Cg f k c)):=by
 have E:=(List.getElem?_eq_some_iff.1 h).1;refine List.ext_getElem? fun i=>?_
 rw[List.getElem?_set,List.getElem?_mapIdx,List.getElem?_mapIdx,List.getElem?_set];by_cases A:k=i
 ·simp_all[Cg]
 ·rw[if_neg A,if_neg A];cases F:rows[i]? with
  | none=>rfl
  | some r2=>
   show some (sP f i r2)=some (sP (Cg f k c) i r2);unfold sP Cg
   grind
structure RowsS(H0 H:aM)(j:Nat)(f:Nat->Nat)(rows:List PRow):Prop where
 lin:LinH H j f rows
 keep:∀k row,H0 k=some row->H k=some row
 nj:H0 j=none
 nf:∀i,i<rows.length->H0 (f i)=none
def OM{H0 H:aM}(h:∀k row,H0 k=some row->H k=some row){c:Nat}(A:H c=none):H0 c=none:=by cases e:H0 c<;>grind
def LinH.ne{H:aM}{j:Nat}{f:Nat->Nat}{rows:List PRow}(h:LinH H j f rows){i:Nat}(E:i<rows.length):f i≠j:=fun e=>by
 obtain⟨r,A⟩:=aK E;have h1:=h.θ i r A;rw[e,h.row]at h1
 grind
def LinH.new{H:aM}{j:Nat}{f:Nat->Nat}{rows:List PRow}(h:LinH H j f rows){i:Nat}(A:H i=none)(a:Option Row):LinH (aI H i a) j f rows:=by
 refine⟨?_,fun k r E=>?_,h.inj⟩
 ·rw[aF _ _ _ _ (fun e=>by subst e;rw[h.row]at A;cases A)];exact h.row
 ·have:=h.θ k r E
  grind[aF]
def RowsS.new{H0 H:aM}{j:Nat}{f:Nat->Nat}{rows:List PRow}(h:RowsS H0 H j f rows){i:Nat}(A:H i=none)(a b:Option Row):RowsS H0 (aI (aI H i a) i b) j f rows:=by
 have e:aI (aI H i a) i b=aI H i b:=by grind[aB,aF]
 rw[e];refine⟨h.lin.new A b,fun k row E=>?_,h.nj,h.nf⟩;have:=h.keep k row E
 grind[aF]
def RowsS.app{H0 H:aM}{j:Nat}{f:Nat->Nat}{rows:List PRow}(h:RowsS H0 H j f rows){c j':Nat}(O:H c=none)(aa:aI H c (some (gV [])) j'=none)(kd rt:Int):
  RowsS H0 (aI (aI (aI H c (some (gV []))) j none) j' (some ⟨161,3,rows.mapIdx (sP f)++[[.os c,int kd,int rt]]⟩)) j' (Cg f rows.length c) (rows++[⟨[],kd,rt⟩]):=by
 have Z:c≠j':=fun e=>by grind[aB]
 have Y:H j'=none:=by grind[aF]
 have T:c≠j:=fun e=>by subst e;rw[h.lin.row]at O;cases O
 refine⟨⟨?_,fun i r J=>?_,fun i k E F A=>?_⟩,fun k row F=>?_,OM h.keep Y,fun i E=>?_⟩
 ·rw[aB,agC]
 ·unfold Cg;by_cases e:i=rows.length
  ·subst e;rw[if_pos rfl,aF _ _ _ _ Z,aF _ _ _ _ T,aB]
   grind
  ·have I:i<rows.length:=by grind
   rw[if_neg e];rw[List.getElem?_append_left I]at J;have X:=h.lin.θ i r J;rw[aF _ _ _ _ (fun e=>by grind),aF _ _ _ _ (h.lin.ne I),aF _ _ _ _ (fun e=>by grind)];exact X
 ·have U : ∀ i, i < rows.length -> f i ≠ c := fun i E e => by
   obtain⟨r,J⟩:=aK E;have:=h.lin.θ i r J
   grind
  rw[Xar]at E F;simp at E F;unfold Cg at A;by_cases e1:i=rows.length
  ·grind
  ·by_cases e2:k=rows.length
   ·grind
   ·rw[if_neg e1,if_neg e2]at A;exact h.lin.inj i k (by omega) (by omega) A
 ·have X:=h.keep k row F;rw[aF _ _ _ _ (fun e=>by grind),aF _ _ _ _ (fun e=>by rw[e,h.nj]at F;cases F),aF _ _ _ _ (fun e=>by grind)];exact X
 ·unfold Cg;by_cases e:i=rows.length
  ·rw[if_pos e];exact OM h.keep O
  ·rw[if_neg e];rw[Xar]at E;simp at E;exact h.nf i (by omega)
def Jq(d:Decision):Option PRow:=if d.kind=3 then some ⟨[],1,d.n⟩else if d.kind=4 then some ⟨[],3,d.n⟩else none
def vJ(k:Nat):List PRow:=List.replicate k ⟨[],2,1⟩
def oW(l:List VType):List PRow:=l.map fun t=>⟨[],1,t.count⟩
def pA(l:List Cut):List PRow:=l.map fun q=>⟨[],(Ed q).1,(Ed q).2⟩
def oP(l:List Decision):List PRow:=l.filterMap Jq
def mJ(x:Instance)(y8:List Cut)(ds:List Decision):List PRow:=vJ (eI x).length++oW x.types++pA y8++oP ds
theorem Hh(ds:List Decision):(oP ds).length=(ds.filter FX).length:=by
 unfold oP;induction ds with
 | nil=>rfl
 | cons d l ih=>
  rw[List.filterMap_cons,List.filter_cons];by_cases A:d.kind=3
  ·simp_all[Jq,FX]
  ·by_cases E:d.kind=4
   all_goals simp_all[Jq,FX]
theorem D3(x:Instance)(y8:List Cut)(ds:List Decision):(mJ x y8 ds).length=fU x y8 ds:=by grind[mJ,vJ,oW,pA,fU,Hh]
def Dk{ds:List Decision}{k:Nat}{d:Decision}(h:ds[k]?=some d):oP (ds.take (k+1))=oP (ds.take k)++(Jq d).toList:=by
 unfold oP;rw[aY h,List.filterMap_append]
 congr 1
def ayF(x:Instance)(y8:List Cut)(ds:List Decision)(h:MIn x y8 ds)(H0:aM)(K:AV->aM->Prop)(hK:∀j f Hn,RowsS H0 Hn j f (mJ x y8 ds)->K (.os j) Hn):
  bQ prog 83 [.agg (aD x),.sl (y8.map dD),.sl (ds.map aO)] H0 K:=by
 have h1:=h.y5;have h2:=h.types;have h3:=h.cl;have h4:=h.dl;have ap:=oK x;refine bQ.body (c:=f83.body.getD .skip) (fun t=>t == 7||t == 23||t == 37||t == 55||t == 72||t == 80) mixed func83 rfl (by kernel_rfl) ?_;unfold f83;simp only[Xbb];simp only[go_sem];refine aH fun j hj=>?_
 have S:RowsS H0 (aI H0 j (some ⟨161,3,[]⟩)) j id []:=by
  refine⟨⟨aB _ _ _,fun i r hr=>(by grind),fun i k hi=>absurd hi (by simp)⟩,fun k row hk=>?_,hj,fun i hi=>absurd hi (by simp)⟩
  grind[aF]
 generalize aI H0 j _=H1 at S |-;simp only[go_sem];refine aL (Ta x h1) ?_;simp only[go_sem];refine aL (mN _) ?_;rw[P9 x h1];simp only[go_sem,Xac];refine⟨fun ρ H=>∃(k:Nat) (j:Nat) (f:Nat->Nat),k<=(eI x).length/\ρ 1=.sl (y8.map dD)/\ρ 2=.sl (ds.map aO)/\ρ 3=.rp (aD x) 0/\ρ 19=int ((eI x).length:Nat)/\ρ 20=int k/\ρ 7=.os j/\RowsS H0 H j f (vJ k),fun ρ _=>(eI x).length-aT (ρ 20),⟨0,j,id,Xaa _,rfl,rfl,rfl,rfl,(by rfl),rfl,S⟩,?_⟩;rintro ρ H ⟨k,j,f,hk,e1,e2,e3,aj,ag,O,S⟩;simp only[go_sem,aj,ag];refine aA (fun A=>?_) (fun E=>?_)
 ·have A:=ltB (by omega);simp only[go_sem,O];refine aH fun c J=>?_
  have R:=(S.lin.new J (some (gV []))).row;refine aU R ⟨rfl,rfl⟩ ⟨rfl,trivial⟩ (by grind[vJ]) (fun j' F=>?_);have I:=S.app J F 2 1;have e:vJ (k+1)=vJ k++[⟨[],2,1⟩]:=List.replicate_succ';rw[<-e]at I;simp only[go_sem,e1,e2,e3,aj,ag,aQ k];exact⟨⟨k+1,j',_,A,rfl,rfl,I⟩,msr A⟩
 have E:=geB hk (by omega);subst E;simp only[go_sem,e3,Xac];generalize hB:vJ (eI x).length=B at S;have ao:B.length<=62:=by grind[vJ]
 refine⟨fun ρ H=>∃(k:Nat) (j:Nat) (f:Nat->Nat),k<=x.types.length/\ρ 1=.sl (y8.map dD)/\ρ 2=.sl (ds.map aO)/\ρ 28=.sl (x.types.map bI)/\ρ 29=int (x.types.length:Nat)/\ρ 30=int k/\ρ 7=.os j/\RowsS H0 H j f (B++oW (x.types.take k)),fun ρ _=>x.types.length-aT (ρ 30),⟨0,j,f,Xaa _,e1,e2,by rfl,by rfl,(by rfl),O,by grind[oW]⟩,?_⟩;rintro ρ H ⟨k,j,f,hk,e1,e2,af,ae,ac,O,S⟩;simp only[go_sem,ae,ac];refine aA (fun A=>?_) (fun E=>?_)
 ·have A:=ltB (by omega);obtain⟨t,ht⟩:=aK A;have b1:=inB A;have aa:(B++oW (x.types.take k)).length<=62+k:=by grind[oW]
  simp only[go_sem,af,ac,aC ht,b1];refine aH fun U h9=>?_
  simp only[go_sem];refine aG (aB _ _ _) (by simp[kD]) ?_;have T:=S.new h9;generalize hG:aI (aI H U _) U _=HG;replace T:RowsS H0 HG j f (B++oW (x.types.take k)):=by grind
  have R9:HG U=some (⟨95,14,[bI t]⟩:Row):=by rw[<-hG,aB];rfl
  clear hG h9;simp only[go_sem,O,R9];refine aH fun c J=>?_
  have R:=(T.lin.new J (some (gV []))).row;refine aU R ⟨rfl,rfl⟩ ⟨rfl,trivial⟩ (by grind) (fun j' F=>?_);have I:=T.app J F 1 t.count;have e:B++oW (x.types.take (k+1))=B++oW (x.types.take k)++[⟨[],1,t.count⟩]:=by simp_all[oW,aY]
  rw[<-e]at I;simp only[go_sem,e1,e2,af,ae,ac,aQ k];exact⟨⟨k+1,j',_,A,rfl,rfl,I⟩,msr A⟩
 have E:=geB hk (by omega);subst E;rw[Xad]at S;simp only[go_sem,e1,Xac];generalize am:B++oW x.types=B2 at S;have al:B2.length<=62+1048576:=by grind[oW]
 refine⟨fun ρ H=>∃(k:Nat) (j:Nat) (f:Nat->Nat),k<=y8.length/\ρ 2=.sl (ds.map aO)/\ρ 41=.sl (y8.map dD)/\ρ 42=int (y8.length:Nat)/\ρ 43=int k/\ρ 7=.os j/\RowsS H0 H j f (B2++pA (y8.take k)),fun ρ _=>y8.length-aT (ρ 43),⟨0,j,f,Xaa _,e2,rfl,by rfl,(by rfl),O,by grind[pA]⟩,?_⟩;rintro ρ H ⟨k,j,f,hk,e2,ah,ai,ab,O,S⟩;simp only[go_sem,ai,ab];refine aA (fun A=>?_) (fun E=>?_)
 ·have A:=ltB (by omega);obtain⟨q,hq⟩:=aK A;have b1:=inB A;have aa:(B2++pA (y8.take k)).length<=62+1048576+k:=by grind[pA]
  simp only[go_sem,ah,ab,aC hq,b1];refine aH fun U h9=>?_
  simp only[go_sem];refine aG (aB _ _ _) (by simp[xZ]) ?_;have T:=S.new h9;generalize hG:aI (aI H U _) U _=HG;replace T:RowsS H0 HG j f (B2++pA (y8.take k)):=by grind
  have R9:HG U=some (⟨109,3,[dD q]⟩:Row):=by rw[<-hG,aB];rfl
  clear hG h9;simp only[go_sem,R9];refine aL (aBV q) ?_;simp only[go_sem,O];refine aH fun c J=>?_
  have R:=(T.lin.new J (some (gV []))).row;refine aU R ⟨rfl,rfl⟩ ⟨rfl,trivial⟩ (by grind) (fun j' F=>?_);have I:=T.app J F (Ed q).1 (Ed q).2;have e:B2++pA (y8.take (k+1))=B2++pA (y8.take k)++[⟨[],(Ed q).1,(Ed q).2⟩]:=by simp_all[pA,aY]
  rw[<-e]at I;simp only[go_sem,e2,ah,ai,ab,aQ k];exact⟨⟨k+1,j',_,A,rfl,rfl,I⟩,msr A⟩
 have E:=geB hk (by omega);subst E;rw[Xad]at S;simp only[go_sem,e2,Xac];generalize an:B2++pA y8=B3 at S;have ak:B3.length<=62+1048576+1048576:=by grind[pA]
 refine⟨fun ρ H=>∃(k:Nat) (j:Nat) (f:Nat->Nat),k<=ds.length/\ρ 59=.sl (ds.map aO)/\ρ 60=int (ds.length:Nat)/\ρ 61=int k/\ρ 7=.os j/\RowsS H0 H j f (B3++oP (ds.take k)),fun ρ _=>ds.length-aT (ρ 61),⟨0,j,f,Xaa _,rfl,rfl,(by rfl),O,by grind[oP]⟩,?_⟩;rintro ρ H ⟨k,j,f,hk,Y,Z,X,O,S⟩;simp only[go_sem,Z,X];refine aA (fun A=>?_) (fun E=>?_)
 ·have A:=ltB (by omega);obtain⟨d,hd⟩:=aK A;have b1:=inB A;have hs:=Dk hd;have aa:(B3++oP (ds.take k)).length<=62+1048576+1048576+k:=by grind[Hh]
  simp only[go_sem,Y,X,aC hd,b1];refine aH fun U h9=>?_
  simp only[go_sem];refine aG (aB _ _ _) (by simp[lG]) ?_;have T:=S.new h9;generalize hG:aI (aI H U _) U _=HG;replace T:RowsS H0 HG j f (B3++oP (ds.take k)):=by grind
  have R9:HG U=some (⟨35,4,[aO d]⟩:Row):=by rw[<-hG,aB];rfl
  clear hG h9;simp only[go_sem,R9];apply aA <;> intro hb
  ·have h3:d.kind=3:=by grind
   rw[show Jq d=some ⟨[],1,d.n⟩from if_pos h3]at hs;simp only[go_sem,O,R9];refine aH fun c J=>?_
   have R:=(T.lin.new J (some (gV []))).row;refine aU R ⟨rfl,rfl⟩ ⟨rfl,trivial⟩ (by grind) (fun j' F=>?_);have I:=T.app J F 1 d.n;have e:B3++oP (ds.take (k+1))=B3++oP (ds.take k)++[⟨[],1,d.n⟩]:=by grind
   rw[<-e]at I;simp only[go_sem,Y,Z,X,aQ k];exact⟨⟨k+1,j',_,A,rfl,rfl,I⟩,msr A⟩
  have h3:d.kind≠3:=by grind
  simp only[go_sem];apply aA <;> intro hb
  ·have h4:d.kind=4:=by grind
   rw[show Jq d=some ⟨[],3,d.n⟩from(if_neg h3).trans (if_pos h4)]at hs;simp only[go_sem,O,R9];refine aH fun c J=>?_
   have R:=(T.lin.new J (some (gV []))).row;refine aU R ⟨rfl,rfl⟩ ⟨rfl,trivial⟩ (by grind) (fun j' F=>?_);have I:=T.app J F 3 d.n;have e:B3++oP (ds.take (k+1))=B3++oP (ds.take k)++[⟨[],3,d.n⟩]:=by grind
   rw[<-e]at I;simp only[go_sem,Y,Z,X,aQ k];exact⟨⟨k+1,j',_,A,rfl,rfl,I⟩,msr A⟩
  have h4:d.kind≠4:=by grind
  rw[show Jq d=none from(if_neg h3).trans (if_neg h4)]at hs;simp only[go_sem,Y,Z,X,O,aQ k];refine⟨⟨k+1,j,f,A,rfl,rfl,?_⟩,msr A⟩
  grind
 have E:=geB hk (by omega);subst E;rw[Xad]at S;simp only[go_sem,O]
 grind[mJ]
abbrev ahV(jc jr:Nat):Row:=⟨75,2,[[.os jc,.os jr]]⟩
def B6(r:PRow)(n:Int):PRow:=⟨r.θ++[n],r.kind,r.right⟩
def sQ(rows:List PRow)(col:List Int):Nat->List PRow
 | 0=>rows
 | k+1=>(sQ rows col k).set k (B6 (rows.getD k ⟨[],0,0⟩) (col.getD k 0))
theorem tH(rows:List PRow)(col:List Int):∀k,(sQ rows col k).length=rows.length
 | 0=>rfl
 | k+1=>by rw[sQ,List.length_set,tH rows col k]
def wF(rows:List PRow)(col:List Int):∀k i,(sQ rows col k)[i]?=if i<k then(rows[i]?).map (fun r=>B6 r (col.getD i 0))else rows[i]?
 | 0,i=>by rfl
 | k+1,i=>by
  rw[sQ,List.getElem?_set,tH];by_cases e:k=i
  ·grind
  ·rw[if_neg e,wF rows col k i]
   grind
structure AddS(H0 H:aM)(jp jc jr:Nat)(f:Nat->Nat)(n:Nat)(jc':Nat)(f':Nat->Nat)(cost:List Int)(rows:List PRow)(k:Nat):Prop where
 p:H jp=some (ahV jc' jr)
 c:H jc'=some (gV cost)
 lin:LinH H jr f' rows
 fc:∀i,i<rows.length->f' i≠jc'
 rest:∀i,k<=i->f' i=f i
 keep:∀q row,q≠jp->q≠jc->q≠jr->(∀i,i<n->q≠f i)->H0 q=some row->H q=some row
def AddS.step{H0 H:aM}{jp jc jr:Nat}{f:Nat->Nat}{n jc':Nat}{f':Nat->Nat}{cost:List Int}{rows:List PRow}{k:Nat}(S:AddS H0 H jp jc jr f n jc' f' cost rows k)(hn:n=rows.length){r:PRow}(X:rows[k]?=some r){j':Nat}
  (I:H j'=none) (m:Int):AddS H0 (aI (aI (aI H (f' k) none) j' (some (gV (r.θ++[m])))) jr (some ⟨161,3,(rows.mapIdx (sP f')).set k [.os j',int r.kind,int r.right]⟩)) jp jc jr f n jc' (Cg f' k j') cost (rows.set k (B6 r m)) (k+1):=by
 have O:=(List.getElem?_eq_some_iff.1 X).1;have ae:=S.lin.θ k r X;have aa:jp≠jr:=fun e=>by
  have h1:=S.p;rw[e,S.lin.row]at h1
  grind
 have Z:jp≠f' k:=fun e=>by
  have h1:=S.p
  grind
 have U:jc'≠jr:=fun e=>by
  have h1:=S.c;rw[e,S.lin.row]at h1
  grind
 have T:jp≠j':=fun e=>by rw[<-e,S.p]at I;grind
 have ab:jc'≠j':=fun e=>by rw[<-e,S.c]at I;grind
 have Y:jr≠j':=fun e=>by rw[<-e,S.lin.row]at I;grind
 refine⟨?_,?_,⟨?_,fun i r2 A=>?_,fun i l F hl J=>?_⟩,fun i F=>?_,fun i F=>?_,fun q row q1 q2 q3 q4 hq=>?_⟩
 ·rw[aF _ _ _ _ aa,aF _ _ _ _ T,aF _ _ _ _ Z];exact S.p
 ·rw[aF _ _ _ _ U,aF _ _ _ _ ab,aF _ _ _ _ (S.fc k O).symm];exact S.c
 ·rw[aB];exact congrArg (fun l=>some (⟨161,3,l⟩:Row)) (aeC f' rows k j' r (r.θ++[m]) X)
 ·rw[List.getElem?_set]at A;unfold Cg;by_cases e:k=i
  ·subst e;rw[if_pos rfl,if_pos O]at A;rw[if_pos rfl,aF _ _ _ _ Y.symm,aB]
   grind[B6]
  ·rw[if_neg e]at A;have hh:=S.lin.θ i r2 A;have E:=(List.getElem?_eq_some_iff.1 A).1;rw[if_neg (fun h=>e h.symm),aF _ _ _ _ (S.lin.ne E),aF _ _ _ _ (fun h=>by grind),aF _ _ _ _ (fun h=>e (S.lin.inj k i O E h.symm))];exact hh
 ·rw[List.length_set]at F hl;have ac:∀i,i<rows.length->f' i≠j':=fun i F e=>by
   obtain⟨r,X⟩:=aK F;have:=S.lin.θ i r X
   grind
  unfold Cg at J;by_cases e1:i=k
  ·grind
  ·by_cases e2:l=k
   ·grind
   ·rw[if_neg e1,if_neg e2]at J;exact S.lin.inj i l F hl J
 ·rw[List.length_set]at F;unfold Cg;by_cases e:i=k
  ·grind
  ·rw[if_neg e];exact S.fc i F
 ·unfold Cg;rw[if_neg (by omega)];exact S.rest i (by omega)
 ·have hh:=S.keep q row q1 q2 q3 q4 hq;rw[aF _ _ _ _ q3,aF _ _ _ _ (fun h=>by grind),aF _ _ _ _ (fun h=>q4 k (by omega) (h.trans (S.rest k (Xae _))))];exact hh
def amD(f:Nat->Nat)(rows:List PRow){k:Nat}{r:PRow}(h:rows[k]?=some r):(rows.mapIdx (sP f)).getD k []=sP f k r:=by grind
def azK(n:Int)(col:List Int)(jp jc jr:Nat)(f:Nat->Nat)(cost:List Int)(rows:List PRow)(H0:aM)(K:AV->aM->Prop)(Hp:H0 jp=some (ahV jc jr))(Hc:H0 jc=some (gV cost))(L:LinH H0 jr f rows)(am:∀i,i<rows.length->f i≠jc)
  (a0:col.length=rows.length) (hl:col.length<=1048576) (a6:cost.length<=1048576) (ao:∀r∈rows,r.θ.length<=1048576)
  (hK:∀a jc' f' Hn,AddS H0 Hn jp jc jr f rows.length jc' f' (cost++[n]) (sQ rows col col.length) col.length->K a Hn):
  bQ prog 86 [int n,.sl (col.map aP),.op jp 0 0] H0 K:=by
 refine bQ.body (c:=f86.body.getD .skip) (fun _=>false) mixed func86 rfl (by kernel_rfl) ?_;unfold f86;simp only[Xbb];simp only[go_sem];simp only[Hp,go_sem];refine aU Hc ⟨rfl,rfl⟩ ⟨rfl,trivial⟩ (by grind) (fun j' E=>?_);have an:jp≠jc:=fun e=>by grind
 have au:jr≠jc:=fun e=>by
  have h1:=L.row
  grind
 have aj:jr≠jp:=fun e=>by
  have h1:=L.row
  grind
 have aa:=cM (r':=(⟨3,1,(gV cost).es++[[int n]]⟩:Row)) Hp an.symm E;simp only[go_sem];refine bP aiR aa ⟨by simp,rfl,by simp⟩ ?_;have S:AddS H0 (aI (aI (aI H0 jc none) j' (some (⟨3,1,(gV cost).es++[[int n]]⟩:Row))) jp (some (ahV j' jr))) jp jc jr f rows.length j' f (cost++[n]) rows 0:=by
  have ac:jp≠j':=aV Hp E;have ar:jr≠j':=aV L.row E;have ai:∀i,i<rows.length->f i≠j':=fun i T e=>by
   obtain⟨r,F⟩:=aK T;have:=L.θ i r F
   grind
  have av:∀i,i<rows.length->f i≠jp:=fun i T e=>by
   obtain⟨r,F⟩:=aK T;have h1:=L.θ i r F
   grind
  refine⟨aB _ _ _,?_,⟨?_,fun i r F=>?_,L.inj⟩,ai,fun _ _=>rfl,fun q row q1 q2 q3 q4 hq=>?_⟩
  ·rw[aF _ _ _ _ ac.symm,aB];simp[aP]
  ·rw[aF _ _ _ _ aj,aF _ _ _ _ ar,aF _ _ _ _ au];exact L.row
  ·have T:=(List.getElem?_eq_some_iff.1 F).1;rw[aF _ _ _ _ (av i T),aF _ _ _ _ (ai i T),aF _ _ _ _ (am i T)];exact L.θ i r F
  ·rw[aF _ _ _ _ q1,aF _ _ _ _ (aV hq E),aF _ _ _ _ q2];exact hq
 generalize hG:aI (aI (aI H0 jc none) j' _) jp _=HG;replace S:AddS H0 HG jp jc jr f rows.length j' f (cost++[n]) rows 0:=by rw[<-hG];exact S
 clear hG aa E;simp only[go_sem,Xac];refine⟨fun ρ H=>∃(k:Nat) (jc':Nat) (f':Nat->Nat),k<=col.length/\ρ 2=.op jp 0 0/\ρ 13=.sl (col.map aP)/\ρ 14=int (col.length:Nat)/\ρ 15=int k/\AddS H0 H jp jc jr f rows.length jc' f' (cost++[n]) (sQ rows col k) k,fun ρ _=>col.length-aT (ρ 15),⟨0,j',f,Xaa _,by rfl,by rfl,by rfl,(by rfl),S⟩,?_⟩;rintro ρ H ⟨k,jc',f',hk,e2,ah,Y,X,S⟩;simp only[go_sem,Y,X];refine aA (fun I=>?_) (fun af=>?_)
 ·have I:=ltB (by omega);obtain⟨m,hm⟩:=aK I;have b1:=inB I;obtain⟨r,F⟩:=aK (l:=sQ rows col k) (k:=k) (by grind[tH]);have b2:(0:Int)<=(k:Int)/\(k:Int)<((sQ rows col k).length:Int):=by grind
  have ay:rows[k]?=some r:=by simp_all[wF]
  have az:=ao r (Xab ay);have O:sQ rows col (k+1)=(sQ rows col k).set k (B6 r m):=by grind[sQ]
  have al:=tH rows col k;generalize sQ rows col k=rowsK at *;have ak:=amD f' rowsK F;simp only[go_sem,ah,X,aC hm,b1];refine uB [jp] (.q 0 (.q 1 (.q 2 (.q 3 (.q 4 (.q 5 (.q 9 (.a2 6 (.q 7 (.a2 8 (.a1 10 (.a1 11 (.a1 12 (.a1 13 (.a1 14 .nil))))) 10 (.a1 8 (.a1 11 (.a1 12 (.a1 13 (.a1 14 .nil))))))) 10 (.a1 6 (.q 7 (.a1 8 (.a1 11 (.a1 12 (.a1 13 (.a1 14 .nil))))))))))))))) (by simp[S.p]) (by kernel_rfl) fun Hp Z hp hq a7 a9=>?_
  have Pp:=(hp jp (by simp)).trans S.p;simp only[go_sem,e2,Pp];have a4:f' k≠jp:=fun e=>by
   have h1:=S.lin.θ k r F
   grind
  have Rr:Z jr=some (amX f' rowsK):=(hq jr (by grind)).trans S.lin.row;have Rk:Z (f' k)=some (gV r.θ):=(hq (f' k) (by grind)).trans (S.lin.θ k r F);have aw:f' k≠jr:=S.lin.ne (by omega);have aq:∀(A:Nat) (G:aM),Z A=none->G=aI (aI (aI Z (f' k) none) A (some (gV (r.θ++[m])))) jr (some ⟨161,3,(rowsK.mapIdx (sP f')).set k [.os A,int r.kind,int r.right]⟩)->(∀q,q∈[jp]->G q=none)->∀U:aM,(∀q,q∈[jp]->U q=H q)->(∀q,¬q∈[jp]->U q=G q)->AddS H0 U jp jc jr f rows.length jc' (Cg f' k A) (cost++[n]) (sQ rows col (k+1)) (k+1):=by
   intro A G a8 hG hd U ag ae;have ac:jp≠A:=fun e=>by have:=hd jp (by simp);rw[hG,aF _ _ _ _ aj.symm,e,aB]at this;grind
   have ax:H A=none:=by grind
   have S2:=S.step al.symm F ax m;rw[O];have eM:U=aI (aI (aI H (f' k) none) A (some (gV (r.θ++[m])))) jr (some ⟨161,3,(rowsK.mapIdx (sP f')).set k [.os A,int r.kind,int r.right]⟩):=by
    funext q;by_cases a5:q=jp
    ·grind[aF]
    simp_all[aI]
   grind
  repeat' (first|(refine jG ?_ ?_)|(simp only[go_sem,Rr,List.length_mapIdx,b2,ak]))
  all_goals
   refine⟨by omega,aU Rk ⟨rfl,rfl⟩ ⟨rfl,trivial⟩ (by simp only[Xac,Xag,List.length_nil];omega) (fun A J=>?_)⟩;have ap:Z A=none:=J;have ab:=cM (r':=(⟨3,1,(gV r.θ).es++[[int m]]⟩:Row)) Rr aw J;simp only[go_sem,ab,List.length_mapIdx,b2];refine bP aiR ab ⟨by rw[List.length_mapIdx];omega,rfl,by simp⟩ ?_;rw[ak];simp only[go_sem];refine dO fun hd U ag ae=>?_
   have S3:=aq A _ ap (by rw[show(gV (r.θ++[m]))=(⟨3,1,(gV r.θ).es++[[int m]]⟩:Row)from congrArg (fun l=>(⟨3,1,l⟩:Row)) (Xaq (f:=aP) (l₁:=r.θ) (l₂:=[m]))]) hd U ag ae;simp only[go_sem,e2,ah,Y,X,aQ k];exact⟨⟨k+1,jc',_,I,rfl,S3⟩,msr I⟩
 have af:=geB hk (by omega);subst af;simp only[go_sem,]
 grind
def cH(n N:Int):Bool:=decide (n<0)||decide (n>=N)
def cP(s:Score):(bD s).length=4:=(rfl)
def Bd(s:Score):(bD s).getD 0 .any=int s.cost:=(rfl)
def A7(s:Score):(bD s).getD 1 .any=int s.moved:=(rfl)
def BQ(s:Score):(bD s).getD 2 .any=int s.other:=(rfl)
def Ba(s:Score):(bD s).getD 3 .any=int s.work:=(rfl)
def vM(s:Score):(bD s).take 4=bD s:=(rfl)
def bK:Score:=⟨0,0,0,0⟩
def fR(o:Order):Score×Int:=if o.off=true then(bK,9)else if(o.η == -1)=true then(bK,23)else(⟨o.η,if(o.now != -1)=true then 1 else 0,0,0⟩,0)
def cJ(x:Instance)(k:Int):Score×Int:=if cH k x.y5.length=true then(bK,2)else match x.y5[k.toNat]? with|some o=>fR o|none=>(bK,2)
def PT(x:Instance)(k:Int):PC prog 49 [.agg (aD x),int k] (.tup [.agg (bD (cJ x k).1),int (cJ x k).2]):=by
 refine pcd func49 rfl rfl ?_;simp only[go_sem];refine aH fun j hj=>?_
 have R:=aB bN j (some (⟨125,4,[[int 0,int 0,int 0,int 0]]⟩:Row));generalize aI bN j _=H0 at R |-;clear hj;simp only[go_sem];refine aA (fun h1=>?_) (fun h1=>?_)
 ·have e:cJ x k=(bK,2):=if_pos h1;rw[e];simp only[go_sem];refine aG R (by simp) ?_;simp only[go_sem];exact .refl _
 have T:0<=k/\k<(x.y5.length:Int):=by grind
 obtain⟨o,ho⟩:=aK (show k.toNat<x.y5.length by omega);have e:cJ x k=fR o:=by simp_all[cJ,if_neg,cH]
 rw[e];simp only[go_sem,aC ho,T];refine aH fun i X=>?_
 have I:j≠i:=aV R X;simp only[go_sem];refine aG (aB _ _ _) (by simp[nI]) ?_;generalize A:aI (aI H0 i _) i _=H1;have E:H1 i=some ⟨60,16,[bE o]⟩:=by rw[<-A,aB];rfl
 have R:H1 j=some ⟨125,4,[[int 0,int 0,int 0,int 0]]⟩:=by rw[<-A,aF _ _ _ _ I,aF _ _ _ _ I];exact R
 clear A X;simp only[go_sem,E];refine aA (fun Z=>?_) (fun Z=>?_)
 ·have e:fR o=(bK,9):=if_pos Z;rw[e];simp only[go_sem];refine aG R (by simp) ?_;simp only[go_sem];exact .refl _
 simp only[go_sem,E];refine aA (fun h3=>?_) (fun h3=>?_)
 ·have e:fR o=(bK,23):=by simp_all[fR]
  rw[e];simp only[go_sem];refine aG R (by simp) ?_;simp only[go_sem];exact .refl _
 have e:fR o=(⟨o.η,if(o.now != -1)=true then 1 else 0,0,0⟩,0):=by simp_all[fR]
 rw[e];simp only[go_sem,E];refine aH fun q O=>?_
 have F:j≠q:=aV R O;have J:i≠q:=aV E O;simp only[go_sem];refine aG (aB _ _ _) (by simp) ?_;generalize A:aI (aI H1 q _) q _=H2;have U:H2 q=some ⟨125,4,[[int o.η,int 0,int 0,int 0]]⟩:=by rw[<-A,aB];rfl
 have E:H2 i=some ⟨60,16,[bE o]⟩:=by rw[<-A,aF _ _ _ _ J,aF _ _ _ _ J];exact E
 have R:H2 j=some ⟨125,4,[[int 0,int 0,int 0,int 0]]⟩:=by rw[<-A,aF _ _ _ _ F,aF _ _ _ _ F];exact R
 clear A O;simp only[go_sem,E,U];refine aA (fun Y=>?_) (fun Y=>?_)
 ·simp only[go_sem];refine bP so3 U ⟨by simp,rfl,by simp⟩ ?_;simp only[go_sem];refine aG (by rw[aF _ _ _ _ F];exact R) (by simp) ?_;simp only[go_sem];rw[if_pos Y];exact .refl _
 ·simp only[go_sem,U];refine aG R (by simp) ?_;simp only[go_sem];rw[if_neg (by grind)];exact .refl _
def Iq(x:Instance)(k:Int):PC prog 91 [.agg (aD x),int k] (.tup [.agg (bD (cJ x k).1),int (cJ x k).2]):=by
 refine pcd func91 rfl rfl ?_;simp only[go_sem];refine aH fun j hj=>?_
 have R:=aB bN j (some (⟨125,4,[[int 0,int 0,int 0,int 0]]⟩:Row));generalize aI bN j _=H0 at R |-;clear hj;simp only[go_sem];refine aA (fun h1=>?_) (fun h1=>?_)
 ·have e:cJ x k=(bK,2):=if_pos h1;rw[e];simp only[go_sem];refine aG R (by simp) ?_;simp only[go_sem];exact .refl _
 have T:0<=k/\k<(x.y5.length:Int):=by grind
 obtain⟨o,ho⟩:=aK (show k.toNat<x.y5.length by omega);have e:cJ x k=fR o:=by simp_all[cJ,if_neg,cH]
 rw[e];simp only[go_sem,aC ho,T];refine aH fun i X=>?_
 have I:j≠i:=aV R X;simp only[go_sem];refine aG (aB _ _ _) (by simp[nI]) ?_;generalize A:aI (aI H0 i _) i _=H1;have E:H1 i=some ⟨60,16,[bE o]⟩:=by rw[<-A,aB];rfl
 have R:H1 j=some ⟨125,4,[[int 0,int 0,int 0,int 0]]⟩:=by rw[<-A,aF _ _ _ _ I,aF _ _ _ _ I];exact R
 clear A X;simp only[go_sem,E];refine aA (fun Z=>?_) (fun Z=>?_)
 ·have e:fR o=(bK,9):=if_pos Z;rw[e];simp only[go_sem];refine aG R (by simp) ?_;simp only[go_sem];exact .refl _
 simp only[go_sem,E];refine aA (fun h3=>?_) (fun h3=>?_)
 ·have e:fR o=(bK,23):=by simp_all[fR]
  rw[e];simp only[go_sem];refine aG R (by simp) ?_;simp only[go_sem];exact .refl _
 have e:fR o=(⟨o.η,if(o.now != -1)=true then 1 else 0,0,0⟩,0):=by simp_all[fR]
 rw[e];simp only[go_sem,E];refine aH fun q O=>?_
 have F:j≠q:=aV R O;have J:i≠q:=aV E O;simp only[go_sem];refine aG (aB _ _ _) (by simp) ?_;generalize A:aI (aI H1 q _) q _=H2;have U:H2 q=some ⟨125,4,[[int o.η,int 0,int 0,int 0]]⟩:=by rw[<-A,aB];rfl
 have E:H2 i=some ⟨60,16,[bE o]⟩:=by rw[<-A,aF _ _ _ _ J,aF _ _ _ _ J];exact E
 have R:H2 j=some ⟨125,4,[[int 0,int 0,int 0,int 0]]⟩:=by rw[<-A,aF _ _ _ _ F,aF _ _ _ _ F];exact R
 clear A O;simp only[go_sem,E,U];refine aA (fun Y=>?_) (fun Y=>?_)
 ·simp only[go_sem];refine bP so3 U ⟨by simp,rfl,by simp⟩ ?_;simp only[go_sem];refine aG (by rw[aF _ _ _ _ F];exact R) (by simp) ?_;simp only[go_sem];rw[if_pos Y];exact .refl _
 ·simp only[go_sem,U];refine aG R (by simp) ?_;simp only[go_sem];rw[if_neg (by grind)];exact .refl _
def aAB(s:Score):Int:=IntKind.i64.wrap (IntKind.i64.wrap (IntKind.i64.wrap (IntKind.i64.wrap (IntKind.i64.wrap (IntKind.i64.wrap (s.cost*16)+s.moved)*16)+s.other)*65536)+s.work)
def gT(s:Score):Int×Int:=if(decide (s.cost<0)||decide (s.moved<0)||decide (s.other<0)||decide (s.work<0))=true then(0,2)
 else if(decide (s.cost>1073741824)||decide (s.moved>=16)||decide (s.other>=16)||decide (s.work>=65536))=true then(0,4)else(aAB s,0)
def QM(s:Score):Bool:=decide (s.cost>=0)&&decide (s.cost<=1073741824)&&decide (s.moved>=0)&&decide (s.moved<=15)&&decide (s.other>=0)&&decide (s.other<=15)&&decide (s.work>=0)&&decide (s.work<=65535)
def afH(s:Score):PC prog 115 [.agg (bD s)] (boo (QM s)):=by refine pcd func115 rfl rfl ?_;simp only[go_sem];exact .refl _
def KA(s:Score):PC prog 50 [.agg (bD s)] (.tup [int (gT s).1,int (gT s).2]):=by
 unfold gT;refine pcd func50 rfl rfl ?_;simp only[go_sem];refine aA (fun E=>?_) (fun E=>?_)
 ·rw[if_pos E];simp only[go_sem];exact .refl _
 rw[if_neg (by grind)];simp only[go_sem];refine aL (afH s) ?_;simp only[go_sem];have e:(!QM s)=(decide (s.cost>1073741824)||decide (s.moved>=16)||decide (s.other>=16)||decide (s.work>=65536)):=by
  unfold QM
  grind
 rw[<-e];refine aA (fun A=>?_) (fun A=>?_)
 ·rw[if_pos A];simp only[go_sem];exact .refl _
 rw[if_neg (by grind)];simp only[go_sem];exact .refl _
def CX(s:Score):PC prog 137 [.agg (bD s)] (.agg (bD s)):=by
 refine pcd func137 rfl rfl ?_;simp only[go_sem];refine aH fun j A=>?_
 simp only[go_sem];refine aG (aB _ _ _) (by simp) ?_;simp only[go_sem];exact .refl _
def D2(s:Score):PC prog 76 [.agg (bD s)] (.tup [int (gT s).1,int (gT s).2]):=by
 refine pcd func76 rfl rfl ?_;simp only[go_sem];refine aL (CX s) ?_;simp only[go_sem];refine aH fun j F=>?_
 simp only[go_sem];refine bW F (by simp[cP]) fun O (R:O j=some (⟨203,4,[bD s]⟩)) N=>?_
 clear N F;simp only[go_sem,R];refine⟨fun ρ H=>∃(k:Nat),k<=4/\ρ 1=.rp (bD s) 0/\ρ 9=.agg (bD s)/\ρ 10=int k/\(∀e∈[s.cost,s.moved,s.other,s.work].take k,¬e<0),fun ρ _=>4-aT (ρ 10),⟨0,Xaa _,rfl,rfl,(by rfl),by simp⟩,?_⟩;rintro ρ H ⟨k,hk,J,X,E,hz⟩;simp only[go_sem,E];refine aA (fun A=>?_) (fun I=>?_)
 ·have A:k<4:=by grind
  obtain⟨e,Y⟩:=aK (l:=[s.cost,s.moved,s.other,s.work]) (show k<[s.cost,s.moved,s.other,s.work].length from A);have hg:(bD s).getD k .any=int e:=by
   have:bD s=[s.cost,s.moved,s.other,s.work].map fun n=>int n:=rfl
   grind
  simp only[go_sem,X,E];refine⟨by omega,by omega,?_⟩;rw[Nat.mul_one,hg];simp only[go_sem,];refine aA (fun T=>?_) (fun T=>?_)
  ·simp only[go_sem];have Z:=Xab Y;simp only[List.mem_cons,List.not_mem_nil,or_false]at Z;have e:gT s=(0,2):=if_pos (by grind);rw[e];exact .refl _
  ·simp only[go_sem,J,X,E,aQ k];refine⟨⟨k+1,A,rfl,dW (p:=fun e:Int=>¬e<0) Y (by grind) hz⟩,by grind[aJ]⟩
 have I:k=4:=by grind
 subst I;have T:¬(decide (s.cost<0)||decide (s.moved<0)||decide (s.other<0)||decide (s.work<0))=true:=by simp_all
 unfold gT;rw[if_neg T];simp only[go_sem,J,];refine aA (fun U=>?_) (fun U=>?_)
 ·rw[if_pos U];simp only[go_sem];exact .refl _
 rw[if_neg (by grind)];simp only[go_sem,J,];exact .refl _
end Nu
end Go.Proofs.YtkfhgjihlbilpaaGreatDoor
