import Derived.Lib.LaidIn
import Derived.MakeChecks
import Derived.Stop.LaidErr
import Derived.Test.YtpagaknmdfgfkaaGreatDoorPb12
set_option linter.unusedSimpArgs false
set_option linter.unusedVariables false
set_option linter.defProp false
set_option maxRecDepth 100000
namespace Go.Proofs.YtpagaknmdfgfkaaGreatDoor
open Go.Aw Go.Aw.D Go.Proofs Ty
namespace Nu
open Go.Proofs.Tryz
open Go.Nu
def yE:List Int->List Int->Int->Int×Int
 | n::a,c::l,t=>if n<=0 then yE a l t else if c=0 then(0,24)else yE a l (eV t ((n+c-1).tdiv c))
 | _,_,t=>(t,0)
def BI(a c:List Int):Int×Int:=if a.length≠c.length then(0,2)else if c.any (fun n=>decide (n<0))=true then(0,2)else yE a c 0
def Mid(n:Int):Prop:= -1099511627776<=n/\n<=1099511627776
def adS(a c:List Int)(hl:a.length<=1048576)(ae:c.length<=1048576)(ha:∀n∈a,Mid n)(hc:∀n∈c,Mid n):
  PC prog 188 [.sl (a.map bC),.sl (c.map bC)] (.tup [int (BI a c).1,int (BI a c).2]):=by
 refine pcd func188 rfl rfl ?_;simp only[go_sem];refine aA (fun V=>?_) (fun V=>?_)
 ·have V:a.length≠c.length:=neN V;simp only[go_sem];rw[show BI a c=(0,2)from if_pos V];exact .refl _
 have V:a.length=c.length:=eqN V;have e0:BI a c=if c.any (fun n=>decide (n<0))=true then(0,2)else yE a c 0:=if_neg (by simp[V])
 rw[e0];simp only[go_sem,Xab];refine⟨fun ρ H=>∃(k:Nat),k<=c.length/\ρ 0=.sl (a.map bC)/\ρ 1=.sl (c.map bC)/\ρ 17=.sl (c.map bC)/\ρ 18=int (c.length:Nat)/\ρ 19=int k/\(∀n∈c.take k,0<=n),fun ρ _=>c.length-aR (ρ 19),⟨0,Xaa _,rfl,rfl,rfl,rfl,(by simp only[go_sem];rfl),by simp⟩,?_⟩;rintro ρ H ⟨k,hk,e0,Z,aa,ab,X,hz⟩;simp only[go_sem,ab,X];refine aA (fun E=>?_) (fun F=>?_)
 ·have E:=ltB E;obtain⟨n,O⟩:=aK E;have b1:=inB E;simp only[go_sem,aa,X,aD O,b1];refine aA (fun I=>?_) (fun I=>?_)
  ·simp only[go_sem];rw[if_pos (xC O I)];exact .refl _
  ·simp only[go_sem,e0,Z,aa,ab,X,aQ k];exact⟨⟨k+1,E,rfl,gR O (by simpa using I) hz⟩,by simp only[aN];omega⟩
 have F:=geB hk F;subst F;rw[Xad]at hz;rw[if_neg (by rw[vM fun n O=>by simpa using hz n O];simp)];simp only[go_sem,e0,Xab];refine⟨fun ρ H=>∃(k:Nat) (t:Int),k<=a.length/\ρ 1=.sl (c.map bC)/\ρ 26=.sl (a.map bC)/\ρ 27=int (a.length:Nat)/\ρ 28=int k/\ρ 8=int t/\yE a c 0=yE (a.drop k) (c.drop k) t,fun ρ _=>a.length-aR (ρ 28),⟨0,0,Xaa _,by simp only[go_sem,Z,],by simp only[go_sem,],by simp only[go_sem,],(by simp only[go_sem,];rfl),rfl,rfl⟩,?_⟩;rintro ρ H ⟨k,t,hk,Z,Y,U,J,e8,hi⟩;simp only[go_sem,U,J];refine aA (fun E=>?_) (fun F=>?_)
 ·have E:=ltB E;obtain⟨n,O⟩:=aK E;obtain⟨m,hm⟩:=aK (l:=c) (k:=k) (by omega);have b1:=inB E;have b2:=inB (show k<c.length by omega);have ac:=ha n (Xac O);have ad:=hc m (Xac hm);have af:=hz m (Xac hm);unfold Mid at ac ad;rw[Hj O,Hj hm,yE]at hi;simp only[go_sem,Z,Y,J,aD O,aD hm,b1,b2];refine aA (fun I=>?_) (fun I=>?_)
  ·rw[if_pos (by simpa using I)]at hi;simp only[go_sem,Z,Y,U,J,e8,aQ k];exact⟨⟨k+1,t,E,rfl,rfl,hi⟩,by simp only[aN];omega⟩
  have I:¬n<=0:=by simpa using I
  rw[if_neg I]at hi;simp only[go_sem,];refine aA (fun h0=>?_) (fun h0=>?_)
  ·rw[if_pos (by simpa using h0)]at hi;rw[hi];simp only[go_sem];exact .refl _
  have h0:m≠0:=by simpa using h0
  rw[if_neg h0]at hi;have w1:IntKind.i64.wrap (n+m)=n+m:=aW (by omega);have w2:IntKind.i64.wrap (n+m-1)=n+m-1:=aW (by omega);have w3:IntKind.i64.wrap ((n+m-1).tdiv m)=(n+m-1).tdiv m:=aW (by have h1:=Int.tdiv_nonneg (a:=n+m-1) (b:=m) (by omega) (by omega);have h2:=Int.tdiv_le_self m (a:=n+m-1) (by omega);omega);simp only[go_sem,Z,Y,U,J,e8,w1,w2,w3,aQ k];exact⟨h0,⟨k+1,_,E,rfl,rfl,hi⟩,by simp only[aN];omega⟩
 ·have F:=geB hk F;subst F;have ea:a.drop a.length=[]:=Xcl;have:yE a c 0=(t,0):=by rw[hi,ea];unfold yE;rfl
  rw[this];simp only[go_sem,e8];exact .refl _
def BU(l:List Order)(dim:Nat)(i:Int):Int:=(nL l i).load.getD dim 0
def fQ(l:List Order)(ms:List Int)(dim:Nat):Int:=(ms.map (BU l dim)).sum
def lC(l:List VType)(dim:Nat):Int:=l.foldl (fun c t=>eV c (t.cap.getD dim 0)) 0
def xT(x:Instance)(ms:List Int)(dim:Nat):Int:=if(BI [fQ x.orders ms dim] [lC x.types dim]).2≠0 then 0 else(BI [fQ x.orders ms dim] [lC x.types dim]).1
structure LoadsOk(x:Instance)(d:Nat):Prop where
 dims:d<=3
 orders:x.orders.length<=62
 types:x.types.length<=1048576
 load:∀o∈x.orders,o.load.length=d/\∀n∈o.load,0<=n/\n<=1000
 cap:∀t∈x.types,t.cap.length=d/\∀n∈t.cap,0<=n/\n<=1000
def FS{x:Instance}{d dim:Nat}(h:LoadsOk x d)(J:dim<d){i:Int}(hi:0<=i/\i<(x.orders.length:Int)):0<=BU x.orders dim i/\BU x.orders dim i<=1000:=by obtain⟨n,rfl⟩:=Int.eq_ofNat_of_zero_le hi.1;obtain⟨o,E⟩:=aK (show n<x.orders.length by omega);unfold BU;rw[lA E];obtain⟨h1,I⟩:=h.load o (Xac E);obtain⟨v,F⟩:=aK (show dim<o.load.length by omega);rw[List.getD,F];exact I v (Xac F)
def sO{x:Instance}{d dim:Nat}(h:LoadsOk x d)(E:dim<d):∀{ms:List Int},KJ x.orders ms->0<=fQ x.orders ms dim/\fQ x.orders ms dim<=1000*ms.length
 | [],_=>by simp[fQ]
 | i::ms,hm=>by
  have h1:=FS h E (hm i (by simp));have F:=sO h E (ms:=ms) fun j I=>hm j (by simp[I])
  unfold fQ at F |-;rw[Xbf,List.sum_cons,Xah];omega
def OC(l:List Order)(ms:List Int)(i:Int)(dim:Nat):fQ l (ms++[i]) dim=fQ l ms dim+BU l dim i:=by simp[fQ]
def BN(l:List VType)(t:VType)(dim:Nat):lC (l++[t]) dim=eV (lC l dim) (t.cap.getD dim 0):=by simp[lC]
def alM{a b c:Int}(h1:0<=a/\a<=c)(E:0<=b/\b<=c):0<=eV a b/\eV a b<=c:=by unfold eV;split <;> omega
def Cn{x:Instance}{d dim:Nat}(h:LoadsOk x d)(J:dim<d):∀k,0<=lC (x.types.take k) dim/\lC (x.types.take k) dim<=1000
 | 0=>by simp[lC]
 | k+1=>by
  have ih:=Cn h J k;rcases Xav k x.types.length with F|F
  ·obtain⟨t,E⟩:=aK F;rw[bA E,BN];obtain⟨h1,O⟩:=h.cap t (Xac E);obtain⟨v,I⟩:=aK (show dim<t.cap.length by omega);refine alM ih ?_;rw[List.getD,I];exact O v (Xac I)
  ·rw[Xan (by omega)]at ih |-;exact ih
def amZ(x:Instance)(ms:List Int)(dim d:Nat)(h:LoadsOk x d)(hd:dim<d)(hm:KJ x.orders ms)(hl:ms.length<=63):
  PC prog 122 [.agg (aC x),.sl (ms.map bC),int dim] (int (xT x ms dim)):=by
 have aj:=h.orders;have ak:=h.types;refine pcd func122 rfl rfl ?_;simp only[go_sem];refine⟨fun ρ H=>∃(k:Nat),k<=ms.length/\ρ 2=int dim/\ρ 3=.rp (aC x) 0/\ρ 8=int 0/\ρ 15=.sl (ms.map bC)/\ρ 16=int (ms.length:Nat)/\ρ 17=int k/\ρ 7=int (fQ x.orders (ms.take k) dim),fun ρ _=>ms.length-aR (ρ 17),⟨0,Xaa _,rfl,rfl,rfl,rfl,rfl,(by simp only[go_sem];rfl),by simp only[go_sem];rfl⟩,?_⟩;rintro ρ H ⟨k,hk,e2,e3,V,ae,X,ab,O⟩;simp only[go_sem,X,ab];refine aA (fun E=>?_) (fun F=>?_)
 ·have E:=ltB E;obtain⟨i,hi⟩:=aK E;have b1:=inB E;have aa:=hm i (Xac hi);have ao:=FS h hd aa;have am:=sO h hd (ms:=ms.take k) fun j hj=>hm j (List.mem_of_mem_take hj)
  have Y:=OC x.orders (ms.take k) i dim;rw[<-bA hi]at Y;obtain⟨n,rfl⟩:=Int.eq_ofNat_of_zero_le aa.1;have U:n<x.orders.length:=by omega
  obtain⟨o,I⟩:=aK U;obtain⟨ap,an⟩:=h.load o (Xac I);obtain⟨v,hv⟩:=aK (show dim<o.load.length by omega);have ad:BU x.orders dim (n:Int)=v:=by unfold BU;rw[lA I,List.getD,hv];rfl
  have b2:=inB U;have b3:=inB (show dim<o.load.length by omega);have al:(ms.take k).length<=63:=by rw[Xas];omega
  have w1:IntKind.i64.wrap (fQ x.orders (ms.take k) dim+v)=fQ x.orders (ms.take (k+1)) dim:=by rw[Y,ad,aW (by omega)]
  simp only[go_sem,e2,e3,V,ae,X,ab,O,aD hi,b1,aD I,b2,aD hv,b3,w1,aQ k];exact⟨⟨k+1,E,rfl,rfl⟩,by simp only[aN];omega⟩
 have F:=geB hk F;subst F;rw[Xad]at O;simp only[go_sem,e3,Xab];refine⟨fun ρ H=>∃(k:Nat),k<=x.types.length/\ρ 2=int dim/\ρ 7=int (fQ x.orders ms dim)/\ρ 34=.sl (x.types.map bF)/\ρ 35=int (x.types.length:Nat)/\ρ 36=int k/\ρ 8=int (lC (x.types.take k) dim),fun ρ _=>x.types.length-aR (ρ 36),⟨0,Xaa _,by simp only[go_sem,e2,],O,by simp only[go_sem,],by simp only[go_sem,],(by simp only[go_sem,];rfl),by simp only[go_sem,V];rfl⟩,?_⟩;rintro ρ H ⟨k,hk,e2,O,Z,ac,J,V⟩;simp only[go_sem,ac,J];refine aA (fun E=>?_) (fun F=>?_)
 ·have E:=ltB E;obtain⟨t,ht⟩:=aK E;have b1:=inB E;obtain⟨h1,h2⟩:=h.cap t (Xac ht);obtain⟨v,hv⟩:=aK (show dim<t.cap.length by omega);have b3:=inB (show dim<t.cap.length by omega);simp only[go_sem,Z,J,aD ht,b1];refine aL fun j af=>?_
  simp only[go_sem,];refine cJ af (by simp[iP]) fun ag (R:ag j=some (lB t)) N=>?_
  simp only[go_sem,e2,V,R];simp only[go_sem,e2,O,Z,ac,J,aD hv,b3,aQ k];refine⟨⟨k+1,E,rfl,?_⟩,by simp only[aN];omega⟩;rw[bA ht,BN,List.getD,hv];rfl
 have F:=geB hk F;subst F;rw[Xad]at V;have hL:=sO h hd hm;have hC:=Cn h hd x.types.length;rw[Xad]at hC;simp only[go_sem,O,V];have ah:∀n∈[fQ x.orders ms dim],Mid n:=fun n U=>by rw[Xaw.1 U];unfold Mid;omega
 have ai:∀n∈[lC x.types dim],Mid n:=fun n U=>by rw[Xaw.1 U];unfold Mid;omega
 refine aG (adS [fQ x.orders ms dim] [lC x.types dim] (by simp) (by simp) ah ai) ?_;unfold xT;generalize BI [fQ x.orders ms dim] [lC x.types dim]=T;simp only[go_sem];refine aA (fun hb=>?_) (fun hb=>?_)
 ·simp only[go_sem];rw[if_pos (by simpa using hb)];exact .refl _
 ·simp only[go_sem];rw[if_neg (by simpa using hb)];exact .refl _
def Ar{n:Nat}{set:Int}(h:rM n set=true):∃s:Nat,set=(s:Int)/\s<2^n:=by
 unfold rM at h;simp only[Xai,decide_eq_true_eq,Xat]at h;obtain⟨s,rfl⟩:=Int.eq_ofNat_of_zero_le h.1;refine⟨s,rfl,?_⟩;have I:((2:Int)^n)=((2^n:Nat):Int):=by norm_cast
 have E:=h.2;rw[I]at E;have F:s/2^n=0:=by exact_mod_cast E
 exact(Nat.div_eq_zero_iff_lt (Nat.two_pow_pos n)).1 F
def MQ{n s:Nat}:rM n (s:Int)=decide (s<2^n):=by
 unfold rM;have F:((2:Int)^n)=((2^n:Nat):Int):=by norm_cast
 rw[F,Xap];simp only[Xai,decide_eq_true_eq,Xat];constructor
 ·rintro⟨_,h⟩;have E:s/2^n=0:=by exact_mod_cast h
  exact(Nat.div_eq_zero_iff_lt (Nat.two_pow_pos n)).1 E
 ·intro h;refine⟨by omega,?_⟩;have E:s/2^n=0:=Nat.div_eq_of_lt h
  exact_mod_cast E
def Hv{s n:Nat}(h:s<2^n)(V:n<=62):∀i∈cZ (s:Int),0<=i/\i<(n:Int):=by
 intro i hi;unfold cZ qO at hi;obtain⟨j,U,rfl⟩:=Xbe.1 hi;obtain⟨F,E⟩:=List.mem_filter.1 U;have J:=Xar.1 F;rw[jL (by omega)]at E;refine⟨by omega,?_⟩;rcases Xav j n with O|I
 ·omega
 ·rw[Xcv (Xbs h (Xau (by decide) I))]at E;cases E
def BQ(x:Instance)(ms:List Int)(k:Nat):Int:=(List.range k).foldl (fun n dim=>eV n (xT x ms dim)) 1
def E6(x:Instance)(ms:List Int)(k:Nat):BQ x ms (k+1)=eV (BQ x ms k) (xT x ms k):=by unfold BQ;rw[Xbi,Xbn];rfl
def Gw(x:Instance)(set:Int):Bool:=decide (set<=0)|| !rM x.orders.length set|| !decide (set.toNat &&& yT x=set.toNat)
def yI(x:Instance)(d:Nat)(set:Int):Int:=if Gw x set=true then 0 else if Zb x (cZ set)=false then 1 else BQ x (cZ set) d
def QC(q:Order->Bool)(l:List Order):Mc q l<2^l.length:=Eo _ _
def aiD(x:Instance)(d:Nat)(set:Int)(h:LoadsOk x d)(ht:x.types≠[]):PC prog 70 [.agg (aC x),int set] (int (yI x d set)):=by
 have E:=h.orders;have ab:=h.dims;have ad:yT x<2^x.orders.length:=QC _ _;have ac:2^x.orders.length<=2^62:=Xau (by decide) E;refine pcd func70 rfl rfl ?_;simp only[go_sem];refine⟨_,fun _=>(O0 x set E).q rfl,?_⟩;simp only[go_sem];refine⟨_,fun _=>(auB x E).q rfl,?_⟩;simp only[go_sem];refine⟨boo (decide (set.toNat &&& yT x=set.toNat)),fun hg=>?_,?_⟩
 ·simp at hg;obtain⟨s,rfl,hs⟩:=Ar hg.2;exact(Y4 s (yT x) (by omega) (by omega)).q rfl
 simp only[go_sem];apply aA <;> intro J
 ·simp only[go_sem];rw[show yI x d set=0 from if_pos J];exact .refl _
 have e0:yI x d set=if Zb x (cZ set)=false then 1 else BQ x (cZ set) d:=if_neg (by unfold Gw;rw[J];simp)
 rw[e0];obtain⟨s,rfl,hs⟩:=Ar (n:=x.orders.length) (set:=set) (by simp at J;exact J.1.2);have hm:KJ x.orders (cZ (s:Int)):=Hv hs E;have Z:(cZ (s:Int)).length<=63:=nQ _ _;simp only[go_sem];refine aG (mU s) ?_;simp only[go_sem];refine aG (T3 x (cZ s) hm (by omega)) ?_;simp only[go_sem];obtain⟨t,r,F⟩:=List.exists_cons_of_ne_nil ht;have O:((x.types.length:Int) == 0)=false:=by rw[F];rw[beq_eq_false_iff_ne];simp;omega
 simp only[go_sem,O];apply aA <;> intro J
 ·simp only[go_sem];rw[if_pos (by simpa using J)];exact .refl _
 rw[if_neg (by simpa using J)];have b1:=inB (show 0<x.types.length by rw[F];simp);have Y:x.types[0]?=some t:=by rw[F];rfl
 have aa:=aD (f:=bF) Y;have hd:=(h.cap t (by rw[F];simp)).1;subst hd;simp only[go_sem,Xab,aa];refine⟨by omega,?_⟩;refine⟨fun ρ H=>∃(k:Nat),k<=t.cap.length/\ρ 2=.rp (aC x) 0/\ρ 6=.sl ((cZ s).map bC)/\ρ 41=int (t.cap.length:Nat)/\ρ 42=int k/\ρ 5=int (BQ x (cZ s) k),fun ρ _=>t.cap.length-aR (ρ 42),⟨0,Xaa _,rfl,rfl,rfl,(by simp only[go_sem];rfl),by simp only[go_sem];rfl⟩,?_⟩;rintro ρ H ⟨k,hk,e2,e6,U,I,e5⟩;simp only[go_sem,U,I];refine jQ hk (fun V=>?_) (fun X=>?_)
 ·simp only[go_sem,e2,e6,I,e5];refine aG (amZ x (cZ s) k _ h V hm Z) ?_;simp only[go_sem,e2,e6,U,I,aQ k];exact⟨⟨k+1,V,rfl,by rw[E6]⟩,by simp only[aN];omega⟩
 ·subst X;simp only[go_sem,e5];exact .refl _
def pT(x:Instance)(d:Nat)(one:Cut):Int:=
 if one.kind=1 then(if(!rM x.orders.length one.set|| !((uN 63 one.set.toNat:Nat):Int) == 3)=true then 2 else if one.n≠1 then 27 else 0)
 else if one.kind=2 then(if(!rM x.orders.length one.set||one.set == 0)=true then 2 else if(decide (one.n<1)||decide (one.n>yI x d one.set))=true then 27 else 0)
 else 8
def afG(x:Instance)(d:Nat)(E:Cut)(h:LoadsOk x d)(U:x.types≠[]):PC prog 41 [.agg (aC x),.agg (dV E)] (int (pT x d E)):=by
 have I:=h.orders;refine pcd func41 rfl rfl ?_;simp only[go_sem];unfold pT;apply aA <;> intro h1
 ·rw[if_pos (by simpa using h1)];simp only[go_sem];refine aG (O0 x E.set I) ?_;simp only[go_sem];refine⟨int (uN 63 E.set.toNat:Nat),fun J=>?_,?_⟩
  ·simp at J;obtain⟨s,V,_⟩:=Ar J;rw[V];exact(aeL s).q rfl
  simp only[go_sem];apply aA <;> intro F
  ·rw[if_pos (by exact F)];simp only[go_sem];exact .refl _
  rw[if_neg (by rw[show(!rM x.orders.length E.set|| !((uN 63 E.set.toNat:Nat):Int) == 3)=false from F];simp)];simp only[go_sem];apply aA <;> intro F
  ·rw[if_pos (by simpa using F)];simp only[go_sem];exact .refl _
  ·rw[if_neg (by simpa using F)];simp only[go_sem];exact .refl _
 rw[if_neg (by simpa using h1)];simp only[go_sem];apply aA <;> intro O
 ·rw[if_pos (by simpa using O)];simp only[go_sem];refine aG (O0 x E.set I) ?_;simp only[go_sem];apply aA <;> intro F
  ·rw[if_pos (by exact F)];simp only[go_sem];exact .refl _
  rw[if_neg (by rw[show(!rM x.orders.length E.set||E.set == 0)=false from F];simp)];simp only[go_sem];refine dR ?_;simp only[go_sem];refine⟨_,fun _=>(aiD x d E.set h U).q rfl,?_⟩;simp only[go_sem];apply aA <;> intro F
  ·rw[if_pos (by exact F)];simp only[go_sem];exact .refl _
  ·rw[if_neg (by rw[show(decide (E.n<1)||decide (E.n>yI x d E.set))=false from F];simp)];simp only[go_sem];exact .refl _
 ·rw[if_neg (by simpa using O)];simp only[go_sem];exact .refl _
def EP(one:Cut):Int×Int:=if one.kind=1 then(1,1)else if one.kind=2 then(3,one.n)else(0,0)
def awG(E:Cut):PC prog 124 [.agg (dV E)] (.tup [int (EP E).1,int (EP E).2]):=by
 refine pcd func124 rfl rfl ?_;simp only[go_sem];unfold EP;apply aA <;> intro h1
 ·rw[if_pos (by simpa using h1)];simp only[go_sem];exact .refl _
 rw[if_neg (by simpa using h1)];simp only[go_sem];apply aA <;> intro F
 ·rw[if_pos (by simpa using F)];simp only[go_sem];refine dR ?_;simp only[go_sem];exact .refl _
 ·rw[if_neg (by simpa using F)];simp only[go_sem];exact .refl _
def fJ(l:List Int):List AV:=[.sl (l.map bC)]
def jR(ll:List (List Int))(d:Int):Bool:= !(decide (d<0)||decide (d>3))&&ll.all fun l=> !((l.length:Int) != d)
def ID(ll:List (List Int))(d:Int)(V:ll.length<=1048576):PC prog 240 [.sl (ll.map fJ),int d] (boo (jR ll d)):=by
 refine pcd func240 rfl rfl ?_;simp only[go_sem];apply aA <;> intro F
 ·simp only[go_sem];exact cB (by unfold jR;rw[F];rfl)
 have Z:jR ll d=ll.all fun l=> !((l.length:Int) != d):=by unfold jR;rw[F];rfl
 rw[Z];simp only[go_sem];refine⟨fun ρ _=>∃k:Nat,k<=ll.length/\ρ 0=.sl (ll.map fJ)/\ρ 1=int d/\ρ 5=int k/\∀l∈ll.take k,((l.length:Int) != d)=false,fun ρ _=>ll.length-aR (ρ 5),⟨0,Xaa _,rfl,rfl,rfl,by simp⟩,?_⟩;rintro ρ H ⟨k,X,h0,h1,O,U⟩;simp only[go_sem,h0,O];refine jQ X (fun E=>?_) (fun J=>?_)
 ·obtain⟨u,I⟩:=aK E;have Y:=inB E;simp only[go_sem,h0,h1,O,aD I,Y,fJ];refine aA (fun F=>?_) (fun F=>?_)
  ·simp only[go_sem];refine cB ?_
   symm
   rw[List.all_eq_false];exact⟨u,Xac I,by rw[F];simp⟩
  ·simp only[go_sem,h0,h1,O,aQ k];exact⟨⟨k+1,E,rfl,gR (p:=fun l:List Int=>((l.length:Int) != d)=false) I F U⟩,by simp only[aN];omega⟩
 ·subst J;rw[Xad]at U;simp only[go_sem];refine cB ?_
  symm
  rw[Xaj];intro l V;rw[U l V];rfl
def lP(ll:List (List Int))(i:Nat):Int:=ll.foldl (fun s l=>IntKind.i64.wrap (s+l.getD i 0)) 0
def Aq{ll:List (List Int)}{k i:Nat}{l:List Int}(h:ll[k]?=some l):lP (ll.take (k+1)) i=IntKind.i64.wrap (lP (ll.take k) i+l.getD i 0):=by unfold lP;rw[bA h,Xbn];rfl
def wE(ll:List (List Int))(d:Int):List Int×Int:=if jR ll d=true then((List.range d.toNat).map (lP ll),0)else([],2)
def CE{ll:List (List Int)}{d:Int}(h:jR ll d=true):0<=d/\d<=3/\∀l∈ll,(l.length:Int)=d:=by simp only[jR,Xai,Xay,Xag,decide_eq_false_iff_not,Xaj]at h;refine⟨by omega,by omega,fun l E=>?_⟩;have:=h.2 l E;simpa using this
def aoB(ll:List (List Int))(d:Int)(hl:ll.length<=1048576):PC prog 201 [.sl (ll.map fJ),int d] (.tup [.sl ((wE ll d).1.map bC),int (wE ll d).2]):=by
 refine pcb (fun t=>t == 6) func201 rfl rfl ?_;simp only[go_sem];refine aG (ID ll d hl) ?_;simp only[go_sem];apply aA <;> intro hb
 ·simp only[go_sem];have:wE ll d=([],2):=by unfold wE;rw[if_neg (by simpa using hb)]
  rw[this];exact .refl _
 have V:jR ll d=true:=by simpa using hb
 obtain⟨d0,d3,hd⟩:=CE V;have hs:wE ll d=((List.range d.toNat).map (lP ll),0):=by unfold wE;rw[if_pos V]
 rw[hs];simp only[go_sem];refine aL fun j J=>?_
 simp only[go_sem];refine⟨fun ρ H=>∃i:Nat,i<=d.toNat/\ρ 0=.sl (ll.map fJ)/\ρ 1=int d/\ρ 7=int i/\∃j,ρ 6=.os j/\H j=some (⟨3,1,((List.range i).map (lP ll)).map bC⟩:Row),fun ρ _=>d.toNat-aR (ρ 7),⟨0,Xaa _,rfl,rfl,rfl,j,rfl,aB _ _ _⟩,?_⟩;rintro ρ H ⟨i,hi,h0,h1,O,j,U,J⟩;simp only[go_sem,h1,O];refine aA (fun F=>?_) (fun I=>?_)
 ·have F:i<d.toNat:=by simp at F;omega
  simp only[go_sem];refine⟨fun ρ H=>∃k:Nat,k<=ll.length/\ρ 0=.sl (ll.map fJ)/\ρ 1=int d/\ρ 6=.os j/\ρ 7=int i/\ρ 8=int (lP (ll.take k) i)/\ρ 9=int k/\H j=some (⟨3,1,((List.range i).map (lP ll)).map bC⟩:Row),fun ρ _=>ll.length-aR (ρ 9),⟨0,Xaa _,h0,h1,U,O,by simp only[go_sem];rfl,by simp only[go_sem];rfl,J⟩,?_⟩;rintro ρ H ⟨k,hk,h0,h1,U,O,h8,h9,J⟩;simp only[go_sem,h0,h9];refine jQ hk (fun E=>?_) (fun X=>?_)
  ·obtain⟨u,Y⟩:=aK E;have b1:=inB E;have aa:=hd u (Xac Y);obtain⟨v,hv⟩:=aK (show i<u.length by omega);have b2:=inB (show i<u.length by omega);have Z:u.getD i 0=v:=by simp[List.getD,hv]
   simp only[go_sem,h0,h1,U,O,h8,h9,aD Y,b1,fJ,aD hv,b2,aQ k];refine⟨⟨k+1,E,by rw[Aq Y,Z],rfl,J⟩,by simp only[aN];omega⟩
  ·subst X;rw[Xad]at h8;simp only[go_sem,U,h8];refine aZ J ⟨rfl,rfl⟩ ⟨rfl,trivial⟩ (by simp;omega) (fun j' ab=>?_);simp only[go_sem,h0,h1,O,aQ i];refine⟨⟨i+1,F,rfl,j',rfl,?_⟩,msr F⟩;rw[Xbi,Xal,Xal];exact aB _ _ _
 ·have I:i=d.toNat:=by simp at I;omega
  subst I;simp only[go_sem,U];exact .tup _ _ (.cons _ _ _ _ (.row _ _ _ J (ConvE.refl _)) (ConvL.refl _))
def atV(i:Nat)(hi:i<=62):PC prog 200 [int i] (int (2^i:Nat)):=by
 refine pcd func200 rfl rfl ?_;simp only[go_sem];refine⟨fun ρ H=>∃(k:Nat),k<=i/\ρ 0=int i/\ρ 4=int k/\ρ 3=int (2^k:Nat),fun ρ _=>i-aR (ρ 4),⟨0,Xaa _,rfl,(by simp only[go_sem];rfl),by simp only[go_sem];rfl⟩,?_⟩;rintro ρ H ⟨k,V,J,O,I⟩;simp only[go_sem,J,O];refine jQ V (fun E=>?_) (fun F=>?_)
 ·have X:(2:Nat)^(k+1)<=2^62:=Xau (by decide) (by omega);have U:(2:Nat)^(k+1)=2*2^k:=by rw[Xbk,Nat.mul_comm]
  have w1:IntKind.i64.wrap (2*((2^k:Nat):Int))=((2^(k+1):Nat):Int):=by rw[U];rw[U]at X;rw[aW (by omega)];rfl
  simp only[go_sem,J,O,I,w1,aQ k];exact⟨⟨k+1,E,rfl,rfl⟩,by simp only[aN];omega⟩
 ·subst F;simp only[go_sem,I];exact .refl _
def auJ(s:Nat)(i:Int)(J:s<2^63):PC prog 140 [int s,int i] (boo (dN s i)):=by
 refine pcd func140 rfl rfl ?_;simp only[go_sem];refine⟨int (2^i.toNat:Nat),fun E=>?_,?_⟩
 ·simp at E;obtain⟨n,rfl⟩:=Int.eq_ofNat_of_zero_le E.1;exact(atV n (by omega)).q rfl
 have I:0<2^i.toNat:=Nat.two_pow_pos _;have w1:IntKind.i64.wrap ((s:Int).tdiv ((2^i.toNat:Nat):Int))=((s/2^i.toNat:Nat):Int):=by have:s/2^i.toNat<=s:=Xcq _ _;rw[show((s:Int).tdiv ((2^i.toNat:Nat):Int))=((s/2^i.toNat:Nat):Int)from rfl];generalize s/2^i.toNat=q at *;exact aW (by omega)
 simp only[go_sem,w1];refine⟨fun _=>by omega,fun _=>by decide,?_⟩;refine cB ?_;unfold dN;have F:((2:Int)^i.toNat)=((2^i.toNat:Nat):Int):=by norm_cast
 rw[F];rfl
def Dw(s:Nat)(X:s<2^63):PC prog 80 [int s] (.sl ((cZ s).map bC)):=by
 refine pcb (fun t=>t == 3) func80 rfl rfl ?_;simp only[go_sem];refine aL fun j Z=>?_
 simp only[go_sem];refine⟨fun ρ H=>∃k:Nat,k<=63/\ρ 0=int s/\ρ 4=int k/\∃j,ρ 3=.os j/\H j=some (pA (qO s k)),fun ρ _=>63-aR (ρ 4),⟨0,Xaa _,rfl,by simp only[go_sem];rfl,j,rfl,aB _ _ _⟩,?_⟩;rintro ρ H ⟨k,Y,h0,I,j,J,R⟩;simp only[go_sem,I];refine aA (fun E=>?_) (fun F=>?_)
 ·have E:k<63:=by simp at E;omega
  simp only[go_sem,h0,I];refine aG (auJ s k X) ?_;simp only[go_sem];apply aA <;> intro O
  ·simp only[go_sem,I,J];refine aZ R ⟨rfl,rfl⟩ ⟨rfl,trivial⟩ (by have:=nQ s k;simp[pA];omega) (fun U V=>?_);simp only[go_sem,h0,I,aQ k];refine⟨⟨k+1,E,rfl,U,rfl,?_⟩,msr E⟩;rw[oN,if_pos O,aB];simp only[pA,Xal,Xbf,Xbv];rfl
  ·simp only[go_sem,h0,I,J,aQ k];refine⟨⟨k+1,E,rfl,j,rfl,?_⟩,msr E⟩;rw[oN,if_neg (by rw[O];simp),Xak];exact R
 ·have F:k=63:=by simp at F;omega
  subst F;simp only[go_sem,J];exact .row _ _ _ R (ConvE.refl _)
def Vh(l:List Order)(i:Int):Bool:=decide (i>=(l.length:Int))||(nL l i).off|| !((nL l i).penalty == -1)
def E7(l:List Order)(ms:List Int):Bool:= !ms.any (Vh l)&&decide (0<ms.length)
def akN(x:Instance)(ms:List Int)(hm:∀i∈ms,0<=i)(hl:ms.length<=1048576):PC prog 141 [.agg (aC x),.sl (ms.map bC)] (boo (E7 x.orders ms)):=by
 refine pcd func141 rfl rfl ?_;simp only[go_sem];refine⟨fun ρ H=>∃(k:Nat),k<=ms.length/\ρ 1=.sl (ms.map bC)/\ρ 2=.rp (aC x) 0/\ρ 5=int k/\(∀i∈ms.take k,Vh x.orders i=false),fun ρ _=>ms.length-aR (ρ 5),⟨0,Xaa _,rfl,rfl,(by simp only[go_sem];rfl),by simp⟩,?_⟩;rintro ρ H ⟨k,hk,I,V,U,hz⟩;simp only[go_sem,I,U];refine jQ hk (fun E=>?_) (fun X=>?_)
 ·obtain⟨i,hi⟩:=aK E;have O:=inB E;have Y:=hm i (Xac hi);obtain⟨n,rfl⟩:=Int.eq_ofNat_of_zero_le Y;have hg:n<x.orders.length->(x.orders.map bH).getD n []=bH (nL x.orders n):=fun h=>by obtain⟨o,ho⟩:=aK h;rw[aD ho,lA ho]
  by_cases hn:n<x.orders.length
  ·have b2:=inB hn;simp only[go_sem,O];refine kI (by rfl) (by kernel_rfl) ?_;simp only[go_sem,I,V,U,aD hi,O,hg hn,b2];refine aA (fun F=>?_) (fun F=>?_)
   ·simp only[go_sem];refine cB ?_;unfold E7;rw[xC hi F];rfl
   ·simp only[go_sem,I,V,U,aQ k];exact⟨⟨k+1,E,rfl,gR (p:=fun i=>Vh x.orders i=false) hi F hz⟩,by simp only[aN];omega⟩
  ·have J:decide ((n:Int)>=(x.orders.length:Int))=true:=by simp;omega
   have Z:Vh x.orders (n:Int)=true:=by unfold Vh;rw[J];rfl
   simp only[go_sem,O];refine kI (by rfl) (by kernel_rfl) ?_;have aa:(x.orders.map bH).getD n []=[]:=by rw[List.getD,List.getElem?_eq_none (by rw[Xab];omega)];rfl
   have ab:∀b:Bool,wU true (boo b) .any=boo b:=fun b=>by cases b <;> rfl
   simp only[go_sem,I,V,U,aD hi,O,J,aa,List.getD_nil];refine aA (fun F=>?_) (fun F=>by cases F);simp only[go_sem];refine cB ?_;unfold E7;rw[xC hi Z];rfl
 ·subst X;rw[Xad]at hz;simp only[go_sem,I,Xab];refine cB ?_;unfold E7;rw[vM hz,Xap];simp
def Zu(x:Instance)(ms:List Int)(hm:KJ x.orders ms)(hl:ms.length<=1048576):PC prog 142 [.agg (aC x),.sl (ms.map bC)] (boo (Zb x ms)):=by
 refine pcd func142 rfl rfl ?_;simp only[go_sem];unfold Zb;generalize hp:(fun i=>decide ((nL x.orders i).pick.place>=0))=p;generalize hq:(fun i=>decide ((nL x.orders i).drop.place>=0))=q;refine⟨fun ρ H=>∃(k:Nat),k<=ms.length/\ρ 1=.sl (ms.map bC)/\ρ 2=.rp (aC x) 0/\ρ 7=int k/\ρ 5=boo ((ms.take k).any p)/\ρ 6=boo ((ms.take k).any q),fun ρ _=>ms.length-aR (ρ 7),⟨0,Xaa _,rfl,rfl,(by simp only[go_sem];rfl),by simp only[go_sem];rfl,by simp only[go_sem];rfl⟩,?_⟩;rintro ρ H ⟨k,hk,J,e2,X,Z,U⟩;simp only[go_sem,J,X,];refine jQ hk (fun E=>?_) (fun V=>?_)
 ·obtain⟨i,hi⟩:=aK E;have O:=inB E;have I:=hm i (Xac hi);obtain⟨n,rfl⟩:=Int.eq_ofNat_of_zero_le I.1;have hn:n<x.orders.length:=by omega
  obtain⟨o,F⟩:=aK hn;have b2:=inB hn;have Y:p (n:Int)=decide (o.pick.place>=0):=by rw[<-hp];simp only[lA F]
  have aa:q (n:Int)=decide (o.drop.place>=0):=by rw[<-hq];simp only[lA F]
  simp only[go_sem,O];refine kI (by rfl) (by kernel_rfl) ?_;simp only[go_sem,J,e2,X,Z,aD hi,O,aD F,b2];refine kI (by rfl) (by kernel_rfl) ?_;simp only[go_sem,J,e2,X,U,aD hi,O,aD F,b2,aQ k];refine⟨⟨k+1,E,rfl,?_,?_⟩,by simp only[aN];omega⟩
  ·rw[bA hi,List.any_append,List.any_cons,List.any_nil,Y];simp
  ·rw[bA hi,List.any_append,List.any_cons,List.any_nil,aa];simp
 ·subst V;rw[Xad]at Z U;simp only[go_sem,Z,U];exact .refl _
def Wu(x:Instance)(d dim:Nat)(h:LoadsOk x d)(hd:dim<d):PC prog 144 [.agg (aC x),int dim] (int (lC x.types dim)):=by
 have aa:=h.types;refine pcd func144 rfl rfl ?_;simp only[go_sem];refine⟨fun ρ H=>∃(k:Nat),k<=x.types.length/\ρ 1=int dim/\ρ 2=.rp (aC x) 0/\ρ 6=int k/\ρ 5=int (lC (x.types.take k) dim),fun ρ _=>x.types.length-aR (ρ 6),⟨0,Xaa _,rfl,rfl,(by simp only[go_sem];rfl),by simp only[go_sem];rfl⟩,?_⟩;rintro ρ H ⟨k,hk,V,I,J,U⟩;simp only[go_sem,I,J];refine jQ hk (fun E=>?_) (fun Y=>?_)
 ·obtain⟨t,O⟩:=aK E;have b1:=inB E;obtain⟨h1,h2⟩:=h.cap t (Xac O);obtain⟨v,hv⟩:=aK (show dim<t.cap.length by omega);have Z:=inB (show dim<t.cap.length by omega);have F:lC (x.types.take (k+1)) dim=eV (lC (x.types.take k) dim) v:=by rw[bA O,BN,List.getD,hv];rfl
  have ab:decide ((dim:Int)<(t.cap.length:Int))=true:=by simpa using Z.2
  simp only[go_sem,V,I,J,U,aD O,b1,aD hv,Z];refine aA (fun X=>?_) (fun X=>?_)
  ·simp only[go_sem,V,I,J,aD O,b1,aD hv,Z,aQ k];refine⟨⟨k+1,E,rfl,?_⟩,by simp only[aN];omega⟩;rw[F];unfold eV;rw[if_pos (by simpa using X)]
  ·simp only[go_sem,V,I,J,U,aQ k];refine⟨⟨k+1,E,rfl,?_⟩,by simp only[aN];omega⟩;rw[F];unfold eV;rw[if_neg (by simpa using X)]
 ·subst Y;rw[Xad]at U;simp only[go_sem,U];exact .refl _
def jZ(l:List Order)(ms:List Int):List (List Int):=ms.map fun i=>(nL l i).load
def IB{ll:List (List Int)}{i:Nat}(h:∀l∈ll,0<=l.getD i 0/\l.getD i 0<=1000):∀k,k<=1048576->lP (ll.take k) i=((ll.take k).map fun l=>l.getD i 0).sum/\0<=lP (ll.take k) i/\lP (ll.take k) i<=1000*k
 | 0,_=>by simp[lP]
 | k+1,hk=>by
  have ih:=IB h k (by omega);rcases Xav k ll.length with F|I
  ·obtain⟨l,E⟩:=aK F;have:=h l (Xac E);have e:lP (ll.take (k+1)) i=lP (ll.take k) i+l.getD i 0:=by rw[Aq E,aW (by omega)]
   refine⟨?_,by omega,by omega⟩;rw[e,bA E,Xal,List.sum_append,ih.1];simp
  ·rw[Xan (by omega)]at ih |-;exact⟨ih.1,ih.2.1,by omega⟩
def adZ(x:Instance)(d:Nat)(s:Nat)(h:LoadsOk x d)(hs:s<2^x.orders.length):
  PC prog 143 [.sl (x.orders.map bH),int s,int d] (.tup [.sl (((List.range d).map fun dim=>fQ x.orders (cZ s) dim).map bC),int 0]):=by
 have ae:=h.dims;have I:=h.orders;have hm:KJ x.orders (cZ (s:Int)):=Hv hs I;have ah:(cZ (s:Int)).length<=63:=nQ _ _;have af:2^x.orders.length<=2^62:=Xau (by decide) I;refine pcb (fun t=>t == 9) func143 rfl rfl ?_;simp only[go_sem];refine⟨_,fun _=>(Fs (d:Int) 0 3).q rfl,?_⟩;have aa:inR (d:Int) 0 3=true:=by unfold inR;simp;omega
 have ad:decide ((s:Int)<0)=false:=by simp
 simp only[go_sem,aa,ad];refine aA (fun X=>by simp at X) (fun X=>?_);simp only[go_sem];refine aG (Dw s (by omega)) ?_;simp only[go_sem];refine aL fun j hj=>?_
 simp only[go_sem];refine⟨fun ρ H=>∃(k:Nat) (j:Nat),k<=(cZ (s:Int)).length/\ρ 0=.sl (x.orders.map bH)/\ρ 2=int d/\ρ 8=.sl ((cZ (s:Int)).map bC)/\ρ 10=int k/\ρ 9=.os j/\H j=some (⟨89,1,(jZ x.orders ((cZ (s:Int)).take k)).map fJ⟩:Row),fun ρ _=>(cZ (s:Int)).length-aR (ρ 10),⟨0,j,Xaa _,rfl,rfl,rfl,(by simp only[go_sem];rfl),rfl,aB _ _ _⟩,?_⟩;rintro ρ H ⟨k,j,hk,e0,e2,Z,F,e9,R⟩;simp only[go_sem,Z,F];refine jQ hk (fun O=>?_) (fun ab=>?_)
 ·obtain⟨i,hi⟩:=aK O;have b1:=inB O;have J:=hm i (Xac hi);obtain⟨n,rfl⟩:=Int.eq_ofNat_of_zero_le J.1;have hn:n<x.orders.length:=by omega
  obtain⟨o,Y⟩:=aK hn;have b2:=inB hn;simp only[go_sem,e0,Z,F,aD hi,b1];refine aA (fun X=>by simp at X;omega) (fun X=>?_);simp only[go_sem,e0,Z,F,e9,aD hi,b1,aD Y,b2];refine aZ R ⟨rfl,rfl⟩ ⟨rfl,trivial⟩ (by simp[jZ];omega) (fun j' ag=>?_);simp only[go_sem,e0,e2,Z,F,aQ k];refine⟨⟨k+1,j',O,rfl,rfl,?_⟩,by simp only[aN];omega⟩;rw[aB];simp only[jZ,bA hi,Xal,Xbf,Xbv,lA Y,fJ]
 ·subst ab;rw[Xad]at R;simp only[go_sem,e2,e9];refine PC.useF [j] (.cons _ _ _ _ (.row _ _ _ (by simp only[Xaw,if_true];exact R) (ConvE.refl _)) (.cons _ _ _ _ (.refl _) .nil)) (aoB (jZ x.orders (cZ (s:Int))) (d:Int) (by simp[jZ];omega)) ?_;have ac:jR (jZ x.orders (cZ (s:Int))) (d:Int)=true:=by unfold jR;rw[Xai];refine⟨by simp;omega,Xaj.2 fun l V=>?_⟩;unfold jZ at V;obtain⟨i,hi,rfl⟩:=Xbe.1 V;have J:=hm i hi;obtain⟨n,rfl⟩:=Int.eq_ofNat_of_zero_le J.1;obtain⟨o,Y⟩:=aK (show n<x.orders.length by omega);rw[lA Y,(h.load o (Xac Y)).1];simp
  have U:wE (jZ x.orders (cZ (s:Int))) (d:Int)=((List.range d).map fun dim=>fQ x.orders (cZ (s:Int)) dim,0):=by
   unfold wE;rw[if_pos ac,Xaq]
   congr 1
   refine List.map_congr_left fun dim E=>?_
   have E:=Xar.1 E;have:=(IB (ll:=jZ x.orders (cZ (s:Int))) (i:=dim) (fun l V=>by unfold jZ at V;obtain⟨i,hi,rfl⟩:=Xbe.1 V;exact FS h E (hm i hi)) (jZ x.orders (cZ (s:Int))).length (by simp[jZ];omega)).1;rw[Xad]at this;rw[this];unfold jZ fQ BU;rw[List.map_map];rfl
  rw[U];simp only[go_sem];exact .refl _
def mT{s:Nat}{i:Int}:i∈cZ (s:Int)↔∃j:Nat,j<63/\s.testBit j=true/\i=(j:Int):=by
 unfold cZ qO;rw[Xbe];constructor
 ·rintro⟨j,F,rfl⟩;obtain⟨h1,E⟩:=List.mem_filter.1 F;have I:=Xar.1 h1;rw[jL (by omega)]at E;exact⟨j,I,E,rfl⟩
 ·rintro⟨j,h1,E,rfl⟩;refine⟨j,List.mem_filter.2 ⟨Xar.2 h1,?_⟩,rfl⟩;rw[jL (by omega)];exact E
def Yf{s:Nat}(J:s<2^63):(0<(cZ (s:Int)).length)↔0<s:=by
 constructor
 ·intro h;rcases Xcu s with rfl|h0
  ·obtain⟨i,hi⟩:=List.exists_mem_of_length_pos h;obtain⟨j,_,I,_⟩:=mT.1 hi;simp at I
  ·exact h0
 ·intro h;obtain⟨j,F⟩:=Nat.exists_testBit_of_ne_zero (x:=s) (by omega);have E:j<63:=by
   rcases Xav j 63 with h1|h1
   ·exact h1
   ·rw[Xcv (Xbs J (Xau (by decide) h1))]at F;cases F
  exact List.length_pos_of_mem (mT.2 ⟨j,E,F,rfl⟩)
def Z2{x:Instance}{s:Nat}(hx:x.orders.length<=62)(Y:s<2^63)(h0:0<s):E7 x.orders (cZ (s:Int))= !Gw x (s:Int):=by
 unfold E7 Gw;rw[decide_eq_true ((Yf Y).2 h0),Xbm,MQ,Xaq,show decide ((s:Int)<=0)=false by simp;omega,Xbt];rw[Xap];simp only[Xay,Xag,Xbq,decide_eq_true_eq,Xbb];have I:∀j:Nat,j<63->(Vh x.orders (j:Int)=false↔(yT x).testBit j=true):=by
  intro j F;unfold yT Mc Vh;rw[DA];rcases Xav j x.orders.length with U|Z
  ·obtain⟨o,X⟩:=aK U;rw[lA X,Jk X,decide_eq_true U,show decide ((j:Int)>=(x.orders.length:Int))=false by simp;omega];simp
  ·rw[show decide ((j:Int)>=(x.orders.length:Int))=true by simp;omega,show decide (j<x.orders.length)=false by simp;omega];simp
 have J:∀j,s.testBit j=true->j<63:=fun j F=>by
  rcases Xav j 63 with h1|h1
  ·exact h1
  ·rw[Xcv (Xbs Y (Xau (by decide) h1))]at F;cases F
 constructor
 ·intro h;have O:∀j,s.testBit j=true->(yT x).testBit j=true:=fun j F=>(I j (J j F)).1 (by have:=h (j:Int) (mT.2 ⟨j,J j F,F,rfl⟩);simpa using this)
  have E:s &&& yT x=s:=by
   apply Nat.eq_of_testBit_eq;intro j;rw[Nat.testBit_and];cases F:s.testBit j with
   | false=>rfl
   | true=>rw[O j F];rfl
  refine⟨?_,E⟩;have aa:yT x<2^x.orders.length:=QC _ _;have:s &&& yT x<=yT x:=Nat.and_le_right;omega
 ·rintro⟨_,E⟩ i hi;obtain⟨j,h1,V,rfl⟩:=mT.1 hi;have h3:(yT x).testBit j=true:=by rw[<-E,Nat.testBit_and]at V;exact(Bool.and_eq_true_iff.1 V).2
  simpa using(I j h1).2 h3
def Gu{x:Instance}{d dim:Nat}{ms:List Int}(h:LoadsOk x d)(O:dim<d)(Y:KJ x.orders ms):
  0<=xT x ms dim/\(lC x.types dim<1->xT x ms dim=0)/\(1<=lC x.types dim->∀n:Int,0<=n->(xT x ms dim<=n↔fQ x.orders ms dim<=n*lC x.types dim))/\xT x ms dim<=fQ x.orders ms dim:=by
 have Z:=(sO h O Y).1;have U:=(Cn h O x.types.length).1;rw[Xad]at U;unfold xT BI;generalize fQ x.orders ms dim=L at *;generalize lC x.types dim=C at *;have J:([C].any fun n=>decide (n<0))=false:=by simp;exact U
 simp only[Xah,List.length_nil,ne_eq,not_true,if_false,J,Xaz,yE];by_cases h0:L<=0
 ·have:L=0:=by omega
  subst this;simp only[Xbp,if_true];simp;intro E n I;exact⟨fun _=>Int.mul_nonneg I (by omega),fun _=>I⟩
 ·rw[if_neg h0];by_cases E:C=0
  ·rw[if_pos E];simp;omega
  ·rw[if_neg E];have X:eV 0 ((L+C-1).tdiv C)=(L+C-1)/C:=by have h1:(L+C-1).tdiv C=(L+C-1)/C:=Xbz (by omega);have V:0<=(L+C-1)/C:=Int.ediv_nonneg (by omega) (by omega);rw[h1];unfold eV;split <;> omega
   simp only[X,not_true,if_false];have V:0<=(L+C-1)/C:=Int.ediv_nonneg (by omega) (by omega);refine⟨V,fun h=>by omega,fun h1 n I=>?_,?_⟩
   ·have F:(L+C-1)/C<=n↔(L+C-1)/C<n+1:=by omega
    rw[F,Int.ediv_lt_iff_lt_mul (by omega),Int.add_mul,Int.one_mul];omega
   ·have F:(L+C-1)/C<=L↔(L+C-1)/C<L+1:=by omega
    rw[F,Int.ediv_lt_iff_lt_mul (by omega),Int.add_mul,Int.one_mul];have:L*1<=L*C:=Int.mul_le_mul_of_nonneg_left (by omega) (by omega);omega
def Nx{x:Instance}{d:Nat}{ms:List Int}(h:LoadsOk x d)(E:KJ x.orders ms)(F:ms.length<=63):∀k,k<=d->1<=BQ x ms k/\BQ x ms k<=63001
 | 0,_=>by simp[BQ]
 | k+1,hk=>by have ih:=Nx h E F k (by omega);have h1:=Gu h (dim:=k) (by omega) E;have I:=sO h (dim:=k) (by omega) E;rw[E6];unfold eV;split <;> omega
def YK(x:Instance)(d:Nat)(set:Int)(h:LoadsOk x d)(ht:x.types≠[])(ar:set<9223372036854775808):PC prog 81 [.agg (aC x),int set] (int (yI x d set)):=by
 have V:=h.orders;have ax:=h.dims;have av:=h.types;obtain⟨t,r,O⟩:=List.exists_cons_of_ne_nil ht;have ac:((x.types.length:Int) == 0)=false:=by rw[O];rw[beq_eq_false_iff_ne];simp;omega
 refine pcd func81 rfl rfl ?_;simp only[go_sem];simp only[go_sem,ac];apply aA <;> intro X
 ·simp only[go_sem];have:Gw x set=true:=by unfold Gw;rw[show decide (set<=0)=true by simpa using X];rfl
  rw[show yI x d set=0 from if_pos this];exact .refl _
 obtain⟨s,rfl⟩:=Int.eq_ofNat_of_zero_le (a:=set) (by simp at X;omega);have al:0<s:=by simp at X;omega
 have aa:s<2^63:=by omega
 simp only[go_sem];refine aG (Dw s aa) ?_;simp only[go_sem];have ag:(cZ (s:Int)).length<=63:=nQ _ _;refine aG (akN x (cZ (s:Int)) (fun i hi=>by obtain⟨j,_,_,rfl⟩:=mT.1 hi;omega) (by omega)) ?_;rw[Z2 V aa al];simp only[go_sem];apply aA <;> intro ah
 ·simp only[go_sem];rw[show yI x d (s:Int)=0 from if_pos (by simpa using ah)];exact .refl _
 have J:Gw x (s:Int)=false:=by simpa using ah
 have e0:yI x d (s:Int)=if Zb x (cZ (s:Int))=false then 1 else BQ x (cZ (s:Int)) d:=if_neg (by rw[J];simp)
 rw[e0];have ae:s<2^x.orders.length:=by unfold Gw at J;simp only[Xag,Xbq]at J;obtain⟨s',aw,E⟩:=Ar J.1.2;omega
 have hm:KJ x.orders (cZ (s:Int)):=Hv ae V;simp only[go_sem];refine aG (Zu x (cZ (s:Int)) hm (by omega)) ?_;simp only[go_sem];apply aA <;> intro af
 ·simp only[go_sem];rw[if_pos (by simpa using af)];exact .refl _
 rw[if_neg (by simpa using af)];have b1:=inB (show 0<x.types.length by rw[O];simp);have ap:x.types[0]?=some t:=by rw[O];rfl
 have aq:=aD (f:=bF) ap;have hd:=(h.cap t (by rw[O];simp)).1;subst hd;have ak:=adZ x _ s h ae;simp only[go_sem];refine lQ [(0,true),(1,true),(2,true),(3,true),(4,true),(5,true),(6,true),(7,true),(8,true),(9,false),(10,true),(11,true),(12,true),(13,true),(14,true)] (by kernel_rfl) ?_;simp only[go_sem,Xab,aq];refine⟨by omega,?_⟩;refine aG ak ?_;simp only[go_sem];have ay:((List.range t.cap.length).map fun dim=>fQ x.orders (cZ (s:Int)) dim).length=t.cap.length:=by simp
 refine⟨fun ρ H=>∃(k:Nat),k<=t.cap.length/\ρ 2=.rp (aC x) 0/\ρ 7=.sl (((List.range t.cap.length).map fun dim=>fQ x.orders (cZ (s:Int)) dim).map bC)/\ρ 8=int 0/\ρ 9=int k/\ρ 6=int (BQ x (cZ (s:Int)) k),fun ρ _=>t.cap.length-aR (ρ 9),⟨0,Xaa _,rfl,rfl,rfl,(by simp only[go_sem];rfl),by simp only[go_sem];rfl⟩,?_⟩;rintro ρ H ⟨k,hk,e2,Z,e8,U,Y⟩;simp only[go_sem,Z,e8,U];refine aA (fun E=>?_) (fun ab=>?_)
 ·have ai:k<t.cap.length:=by simpa using E
  clear E;have E:=ai;have hR:=Nx h hm ag (k+1) (by omega);have hK:=Nx h hm ag k (by omega);obtain⟨q0,q1,q2,_⟩:=Gu h E hm;have hL:=sO h E hm;have hC:=Cn h E x.types.length;rw[Xad]at hC;have F:=E6 x (cZ (s:Int)) k;have am:((List.range t.cap.length).map fun dim=>fQ x.orders (cZ (s:Int)) dim)[k]?=some (fQ x.orders (cZ (s:Int)) k):=by rw[List.getElem?_map,List.getElem?_range E];rfl
  have ao:=aD (f:=bC) am;generalize hG:((List.range t.cap.length).map fun dim=>fQ x.orders (cZ (s:Int)) dim)=G at *;have bG:0<=(k:Int)/\(k:Int)<(G.length:Int):=by omega
  simp only[go_sem,e2,U];refine aG (Wu x _ k h E) ?_;simp only[go_sem];generalize fQ x.orders (cZ (s:Int)) k=L at *;generalize lC x.types k=C at *;generalize xT x (cZ (s:Int)) k=T at *;apply aA <;> intro hc
  ·have hT:=q1 (by simpa using hc);simp only[go_sem,e2,Z,e8,U,Y,aQ k];refine⟨⟨k+1,E,rfl,?_⟩,msr E⟩;rw[F,hT];unfold eV;rw[if_neg (by omega)]
  have hc:1<=C:=by simp at hc;omega
  simp only[go_sem];refine⟨fun ρ H=>∃out:Int,BQ x (cZ (s:Int)) k<=out/\out<=BQ x (cZ (s:Int)) (k+1)/\ρ 2=.rp (aC x) 0/\ρ 7=.sl (G.map bC)/\ρ 8=int 0/\ρ 9=int k/\ρ 10=int C/\ρ 6=int out,fun ρ _=>(BQ x (cZ (s:Int)) (k+1)).toNat-aR (ρ 6),
   ⟨BQ x (cZ (s:Int)) k,Xbp _,by rw[F];unfold eV;split <;> omega,by simp only[go_sem,e2,],by simp only[go_sem,Z,],by simp only[go_sem,e8,],U,by simp only[go_sem],Y⟩,?_⟩
  clear e2 Z e8 U Y;rintro ρ H ⟨out,az,I,e2,Z,e8,U,ad,Y⟩;have au:out*C<=63001*1000:=Int.le_trans (Int.mul_le_mul_of_nonneg_right (by omega:out<=63001) (by omega)) (Int.mul_le_mul_of_nonneg_left hC.2 (by omega));have aj:0<=out*C:=Int.mul_nonneg (by omega) (by omega);have w1:IntKind.i64.wrap (out*C)=out*C:=aW (by omega);simp only[go_sem,Z,U,ad,Y,ao,bG,w1];apply aA <;> intro X
  ·have X:L>out*C:=by simpa using X
   have hT:¬T<=out:=fun h=>by have:=(q2 hc out (by omega)).1 h;omega
   have w2:IntKind.i64.wrap (out+1)=out+1:=aW (by omega);have an:out+1<=BQ x (cZ (s:Int)) (k+1):=by rw[F]at I |-;unfold eV at I |-;split at I <;> split <;> omega
   simp only[go_sem,e2,Z,e8,U,ad,Y,w2];exact⟨⟨out+1,by omega,an,rfl⟩,by simp only[aN];omega⟩
  ·have X:¬L>out*C:=by simpa using X
   have hT:T<=out:=(q2 hc out (by omega)).2 (by omega);simp only[go_sem,e2,Z,e8,U,Y,aQ k];refine⟨⟨k+1,E,rfl,?_⟩,msr E⟩;have:out=BQ x (cZ (s:Int)) (k+1):=by rw[F]at I |-;unfold eV at I |-;split at I <;> split <;> omega
   rw[this]
 ·have ab:k=t.cap.length:=by simp at ab;omega
  subst ab;simp only[go_sem,Y];exact .refl _
def Y9{n s:Nat}(I:n<=62)(J:s<2^63):rM n (s:Int)= !((cZ (s:Int)).any fun i=>decide (i>=(n:Int))):=by
 rw[MQ,Xap];simp only[Xay,decide_eq_true_eq,Xbb];constructor
 ·intro h i hi;have:=Hv h I i hi;omega
 ·intro h;refine Nat.lt_pow_two_of_testBit _ fun j O=>?_
  cases F:s.testBit j with
  | false=>rfl
  | true=>
   have E:j<63:=by
    rcases Xav j 63 with h1|h1
    ·exact h1
    ·rw[Xcv (Xbs J (Xau (by decide) h1))]at F;cases F
   have:=h (j:Int) (mT.2 ⟨j,E,F,rfl⟩);omega
def abE(x:Instance)(d:Nat)(E:Cut)(h:LoadsOk x d)(ht:x.types≠[])(af:E.set<9223372036854775808):PC prog 46 [.agg (aC x),.agg (dV E)] (int (pT x d E)):=by
 have V:=h.orders;refine pcd func46 rfl rfl ?_;simp only[go_sem];unfold pT;apply aA <;> intro h1
 ·have h1:E.kind≠1/\E.kind≠2:=by simpa using h1
  simp only[go_sem];rw[if_neg h1.1,if_neg h1.2];exact .refl _
 have F:E.kind=1\/E.kind=2:=by
  simp at h1;by_cases e:E.kind=1
  ·exact .inl e
  ·exact .inr (h1 e)
 simp only[go_sem];apply aA <;> intro h2
 ·have he:rM x.orders.length E.set=false:=by unfold rM;rw[show decide (E.set>=0)=false by simpa using h2];rfl
  simp only[go_sem];rw[he];rcases F with F|F
  ·rw[if_pos F,if_pos (by rfl)];exact .refl _
  ·rw[if_neg (by omega),if_pos F,if_pos (by rfl)];exact .refl _
 obtain⟨s,hs⟩:=Int.eq_ofNat_of_zero_le (a:=E.set) (by simpa using h2);have O:s<2^63:=by omega
 have ab:(cZ (s:Int)).length=uN 63 s:=Ip s 63 (Xaf _);have ad:=Ci 63 s;have ae:=Yf O;have X:=Y9 V O;rw[hs,Xaq,<-ab];simp only[go_sem,hs];refine aG (Dw s O) ?_;simp only[go_sem];refine⟨fun ρ H=>∃(k:Nat),k<=(cZ (s:Int)).length/\ρ 2=.rp (aC x) 0/\ρ 3=.rp (dV E) 0/\ρ 5=.sl ((cZ (s:Int)).map bC)/\ρ 6=int k/\(∀i∈(cZ (s:Int)).take k,decide (i>=(x.orders.length:Int))=false),fun ρ _=>(cZ (s:Int)).length-aR (ρ 6),⟨0,Xaa _,rfl,rfl,rfl,(by simp only[go_sem];rfl),by simp⟩,?_⟩;rintro ρ H ⟨k,hk,e2,Z,Y,e6,hz⟩;simp only[go_sem,Y,e6];refine aA (fun J=>?_) (fun U=>?_)
 ·have J:=ltB J;obtain⟨i,hi⟩:=aK J;have b1:=inB J;simp only[go_sem];refine dR ?_;simp only[go_sem,e2,Y,e6,aD hi,b1];apply aA <;> intro I
  ·rw[X,xC hi I];simp only[go_sem];rcases F with F|F
   ·rw[if_pos F,if_pos (by rfl)];exact .refl _
   ·rw[if_neg (by omega),if_pos F,if_pos (by rfl)];exact .refl _
  ·simp only[go_sem,e2,Z,Y,e6,aQ k];exact⟨⟨k+1,J,rfl,gR (p:=fun i=>decide (i>=(x.orders.length:Int))=false) hi I hz⟩,msr J⟩
 have U:=geB hk U;subst U;rw[Xad]at hz;rw[X,vM hz];have ag:(cZ (s:Int)).length<=63:=nQ _ _;simp only[go_sem,Z,];apply aA <;> intro h1
 ·rw[if_pos (by simpa using h1)];simp only[go_sem,Y,Xab];apply aA <;> intro I
  ·rw[if_pos (by simpa using I)];simp only[go_sem];exact .refl _
  rw[if_neg (by simpa using I)];simp only[go_sem,Z,];apply aA <;> intro I
  ·rw[if_pos (by simpa using I)];simp only[go_sem];exact .refl _
  ·rw[if_neg (by simpa using I)];simp only[go_sem];exact .refl _
 have h1:E.kind≠1:=by simpa using h1
 rw[if_neg h1,if_pos (F.resolve_left h1)];simp only[go_sem,Y,Xab];have ac:(((cZ (s:Int)).length:Int) == 0)=((s:Int) == 0):=by rw[Xap,Xat,Xat];omega
 rw[ac];apply aA <;> intro I
 ·rw[if_pos (by rw[I];rfl)];simp only[go_sem];exact .refl _
 rw[if_neg (by rw[I];simp)];have aa:=YK x d (s:Int) h ht (by omega);simp only[go_sem];refine dR ?_;simp only[go_sem,e2,Z,hs];refine⟨_,fun _=>aa.q rfl,?_⟩;simp only[go_sem];apply aA <;> intro I
 ·rw[if_pos (by exact I)];simp only[go_sem];exact .refl _
 ·rw[if_neg (by rw[show(decide (E.n<1)||decide (E.n>yI x d (s:Int)))=false from I];simp)];simp only[go_sem];exact .refl _
end Nu
namespace Nu
open Go.Nu Go.So
structure Broken where
 cut:Cut
 by_:ByteArray
def LB(x:Broken):List AV:=[.v (.int .i64 x.cut.kind),.v (.int .i64 x.cut.set),.v (.int .i64 x.cut.n),.v (.string x.by_)]
abbrev wJ(gf:Nat):AV:=.v (.func (.func gf) #[] #[])
end Nu
namespace Nu
open Go.Proofs.Tryz
open Go.Nu Go.So
abbrev TB:=Broken×Nat
def fs(L:List TB):List Broken:=L.map Prod.fst
structure CmpOk(gf:Nat)(lt:Broken->Broken->Bool)(ok:Broken->Prop):Prop where
 call:aE Tryz.prog gf=true
 cmp:∀x y,ok x->ok y->∃n:Int,decide (n<0)=lt x y/\PC Tryz.prog gf [.agg (LB x),.agg (LB y)] (int n)
end Nu
namespace Nu
open Go.Nu Go.So
section
variable{gf:Nat}{lt:Broken->Broken->Bool}{ok:Broken->Prop}
end
end Nu
namespace Nu
open Go.Nu Go.So
section
variable{gf:Nat}{lt:Broken->Broken->Bool}{ok:Broken->Prop}
end
end Nu
namespace Dec
open Go.Proofs.Tryz
def bO{H:aH}{k:IntKind}{a b:Int}(h:a=b):Conv H (.v (.int k a)) (.v (.int k b)):=h▸.refl _
def bR{H:aH}{a b:Bool}(h:a=b):Conv H (.v (.bool a)) (.v (.bool b)):=h▸.refl _
def vU(x:Instance)(n:Int):Bool:=decide (n>=0)&&decide (n<(x.orders.length:Int))
def DS(x:Instance)(n:Int):PC prog 139 [.agg (aC x),int n] (boo (vU x n)):=by refine pcd func139 rfl rfl ?_;simp only[go_sem];exact .refl _
def Jf(x:Instance)(n:Int):PC prog 112 [int n,.rp (aC x) 0] (boo (vU x n)):=by refine pcd func112 rfl rfl ?_;simp only[go_sem];exact .refl _
def eH(x:Instance)(d:Decision):Int:=
 if d.kind=1\/d.kind=2 then(if vU x d.a&&vU x d.b&&d.a != d.b then 0 else 2)
 else if d.kind=5\/d.kind=6 then(if vU x d.a then 0 else 2)
 else if d.kind=3\/d.kind=4 then(if decide (d.a>=0)&&decide (d.a<(x.types.length:Int))&&decide (d.n>=0)&&decide (d.n<=10)then 0 else 2)
 else 8
def NR(x:Instance)(d:Decision):PC prog 64 [.agg (aC x),.agg (aS d)] (int (eH x d)):=by
 refine pcd func64 rfl rfl ?_;simp only[go_sem]
 repeat' (first|(refine aG (Jf _ _) ?_)|(refine⟨_,fun _=>PC.q (Jf _ _) rfl,?_⟩)|(refine⟨_,PC.q (Jf _ _) rfl,?_⟩)|(refine aA (fun E=>?_) (fun E=>?_))|(simp only[go_sem]))
 all_goals (refine bO ?_;(try unfold eH);generalize vU x d.a=p at *;generalize vU x d.b=q at *;cases p <;> cases q <;> simp_all <;> (try omega))
def SF(x:Instance)(d:Decision):PC prog 79 [.agg (aC x),.agg (aS d)] (int (eH x d)):=by
 refine pcd func79 rfl rfl ?_;simp only[go_sem]
 repeat' (first|(refine aG (DS _ _) ?_)|(refine⟨_,fun _=>PC.q (DS _ _) rfl,?_⟩)|(refine⟨_,PC.q (DS _ _) rfl,?_⟩)|(refine aA (fun E=>?_) (fun E=>?_))|(simp only[go_sem]))
 all_goals (refine bO ?_;(try unfold eH);generalize vU x d.a=p at *;generalize vU x d.b=q at *;cases p <;> cases q <;> simp_all <;> (try omega))
def gW:List Int->Int
 | []=>0
 | e::r=>if e != 0 then e else gW r
def oM{l:List Int}{k:Nat}{e:Int}(h:∀e∈l.take k,e=0)(E:l[k]?=some e)(I:(e != 0)=true):gW l=e:=by
 induction l generalizing k with
 | nil=>simp at E
 | cons a r ih=>
  cases k with
  | zero=>simp at E;subst E;simp only[gW];rw[if_pos I]
  | succ k=>have h0:=h a (by simp);subst h0;simp only[gW];exact ih (k:=k) (fun e F=>h e (by simp[F])) (by simpa using E)
def mX{l:List Int}(h:∀e∈l,e=0):gW l=0:=by
 induction l with
 | nil=>rfl
 | cons a r ih=>have h0:=h a (by simp);subst h0;simp only[gW];exact ih fun e E=>h e (by simp[E])
def xW{l:List Int}(h:gW l=0):∀e∈l,e=0:=by
 induction l with
 | nil=>simp
 | cons a r ih=>
  simp only[gW]at h;split at h
  ·rename_i E;simp at E;exact absurd h E
  ·rename_i E;simp at E;intro e F;rcases Xbg.1 F with rfl|F;exact E;exact ih h e F
def nN(x:Instance)(l:List Decision):Int:=if decide ((l.length:Int)>1024)then 4 else gW (l.map (eH x))
def afK(x:Instance)(l:List Decision)(hl:l.length<=1048576):PC prog 36 [.agg (aC x),.sl (l.map aS)] (int (nN x l)):=by
 refine pcd func36 rfl rfl ?_;simp only[go_sem];apply aA <;> intro O
 ·simp only[go_sem];exact bO (by unfold nN;rw[if_pos O])
 ·have hc:nN x l=gW (l.map (eH x)):=by unfold nN;rw[if_neg (by rw[O];simp)]
  rw[hc];simp only[go_sem];refine⟨fun ρ _=>∃k:Nat,k<=l.length/\ρ 2=.rp (aC x) 0/\ρ 11=.sl (l.map aS)/\ρ 12=int l.length/\ρ 13=int k/\∀e∈(l.map (eH x)).take k,e=0,fun ρ _=>l.length-aR (ρ 13),⟨0,Xaa _,rfl,rfl,rfl,rfl,by simp⟩,?_⟩;rintro ρ H ⟨k,hk,Z,V,U,I,X⟩;simp only[go_sem,U,I];refine aA (fun E=>?_) (fun F=>?_)
  ·have E:=aT E;obtain⟨d,Y⟩:=aK E;have b1:=inB E;simp only[go_sem,V,I,aD Y,b1];refine aL fun j hj=>?_
   simp only[go_sem];refine aI (aB _ _ _) (by simp[mM]) ?_;simp only[go_sem,Z,];refine aG (NR x d) ?_;simp only[go_sem];apply aA <;> intro O
   ·simp only[go_sem];exact bO (oM X (by simp[Y]) O).symm
   ·simp only[go_sem,Z,V,U,I,aQ k];refine⟨⟨k+1,E,rfl,?_⟩,msr E⟩;rw[bA (x:=eH x d) (by simp[Y])];intro e J;rcases Xba.1 J with J|J
    ·exact X e J
    ·simp at J;subst J;simpa using O
  ·have F:=aV hk F;subst F;simp only[go_sem];exact bO (mX (by rw[Xan (by simp)]at X;exact X)).symm
def XH(x:Instance)(l:List Decision)(hl:l.length<=1048576):PC prog 45 [.agg (aC x),.sl (l.map aS)] (int (nN x l)):=by
 refine pcd func45 rfl rfl ?_;simp only[go_sem];apply aA <;> intro J
 ·simp only[go_sem];exact bO (by unfold nN;rw[if_pos J])
 ·have hc:nN x l=gW (l.map (eH x)):=by unfold nN;rw[if_neg (by rw[J];simp)]
  rw[hc];simp only[go_sem];refine⟨fun ρ _=>∃k:Nat,k<=l.length/\ρ 2=.rp (aC x) 0/\ρ 1=.sl (l.map aS)/\ρ 5=int k/\∀e∈(l.map (eH x)).take k,e=0,fun ρ _=>l.length-aR (ρ 5),⟨0,Xaa _,rfl,rfl,rfl,by simp⟩,?_⟩;rintro ρ H ⟨k,Y,X,h1,V,O⟩;simp only[go_sem,h1,V];refine aA (fun E=>?_) (fun F=>?_)
  ·have E:=aT E;obtain⟨d,U⟩:=aK E;have Z:=inB E;simp only[go_sem];refine dR ?_;simp only[go_sem,X,h1,V,aD U,Z];refine⟨_,(SF x d).q rfl,?_⟩;simp only[go_sem];apply aA <;> intro J
   ·simp only[go_sem];exact bO (oM O (by simp[U]) J).symm
   ·simp only[go_sem,X,h1,V,aQ k];refine⟨⟨k+1,E,rfl,?_⟩,msr E⟩;rw[bA (x:=eH x d) (by simp[U])];intro e I;rcases Xba.1 I with I|I
    ·exact O e I
    ·simp at I;subst I;simpa using J
  ·have F:=aV Y F;subst F;simp only[go_sem];exact bO (mX (by rw[Xan (by simp)]at O;exact O)).symm
def dN(set i:Int):Bool:=decide (i>=0)&&decide (i<=62)&&((set/2^i.toNat)%2 == 1)
def Gt(set i:Int):PC prog 118 [int set,int i] (boo (dN set i)):=Sq.yJ set i
def mH(set i:Int):Bool:=(set/2^i.toNat)%2 == 1
def pQ(set i:Int)(V:0<=set)(X:set<=9223372036854775807)(hi:i<=9223372036854775807):PC prog 246 [int set,int i] (boo (mH set i)):=by
 refine pcd func246 rfl rfl ?_;simp only[go_sem];refine⟨fun ρ _=>∃k:Nat,(k:Int)<=max i 0/\ρ 1=int i/\ρ 5=int k/\ρ 0=int (set/2^k),fun ρ _=>i.toNat-aR (ρ 5),⟨0,by omega,rfl,rfl,by simp[Fx,upd]⟩,?_⟩;rintro ρ H ⟨k,Z,h1,U,h0⟩;have E:0<=set/2^k:=Int.ediv_nonneg V (Int.le_of_lt (Int.pow_pos (by decide)));simp only[go_sem,h1,U];refine aA (fun I=>?_) (fun F=>?_)
 ·have I:(k:Int)<i:=by simpa using I
  have Y:IntKind.i64.wrap ((k:Int)+1)=((k+1:Nat):Int):=by rw[aW (by omega)];omega
  simp only[go_sem,h1,U,h0,Y,aN];refine⟨by omega,⟨k+1,by omega,rfl,?_⟩,by omega⟩;rw[Xbz E,Int.pow_succ,<-Int.ediv_ediv_of_nonneg (Int.le_of_lt (Int.pow_pos (by decide)))];have J:set/2^k<=set:=Int.ediv_le_self _ V;generalize set/2^k=m at E J;exact congrArg (fun z=>AV.v (Value.int .i64 z)) (aW (by omega))
 ·have F:i<=(k:Int):=by simpa using F
  have O:k=i.toNat:=by omega
  subst O;simp only[go_sem,h0];refine⟨by omega,bR ?_⟩;rw[Xck E];rfl
def fI(d:Decision)(set:Int):Bool:=
 if d.kind=1 then dN set d.a == dN set d.b else if d.kind=2 then !dN set d.a|| !dN set d.b else if d.kind=6 then !dN set d.a else true
def ahG(d:Decision)(set:Int):PC prog 67 [.agg (aS d),int set] (boo (fI d set)):=by
 refine pcd func67 rfl rfl ?_;simp only[go_sem];refine dR ?_
 repeat' (first|(refine aG (Gt _ _) ?_)|(refine⟨_,fun _=>PC.q (Gt _ _) rfl,?_⟩)|(refine⟨_,PC.q (Gt _ _) rfl,?_⟩)|(refine aA (fun E=>?_) (fun E=>?_))|(simp only[go_sem]))
 all_goals (refine bR ?_;unfold fI;simp_all)
def eF(d:Decision)(set:Int):Bool:=
 if d.kind=1 then mH set d.a != mH set d.b else if d.kind=2 then mH set d.a&&mH set d.b else if d.kind=6 then mH set d.a else false
def tY(d:Decision):Prop:=CF 0 d
def YI(d:Decision)(set:Int)(U:tY d)(I:0<=set)(E:set<=9223372036854775807):PC prog 204 [.agg (aS d),int set] (boo (eF d set)):=by
 have J:d.a<=9223372036854775807:=U.2.1.2;have F:d.b<=9223372036854775807:=U.2.2.1.2;refine pcd func204 rfl rfl ?_;simp only[go_sem];apply aA <;> intro O
 ·simp only[go_sem];refine dR ?_
  repeat' (first|(refine aG (pQ _ _ I E J) ?_)|(refine⟨_,fun _=>PC.q (pQ _ _ I E J) rfl,?_⟩)|(refine⟨_,PC.q (pQ _ _ I E J) rfl,?_⟩)|(refine aG (pQ _ _ I E F) ?_)|(refine⟨_,fun _=>PC.q (pQ _ _ I E F) rfl,?_⟩)|(refine⟨_,PC.q (pQ _ _ I E F) rfl,?_⟩)|(refine aA (fun O=>?_) (fun O=>?_))|(simp only[go_sem]))
  all_goals (refine bR ?_;unfold eF;generalize mH set d.a=p at *;generalize mH set d.b=q at *;cases p <;> cases q <;> simp_all)
 ·simp only[go_sem]
  repeat' (first|(refine aG (pQ _ _ I E J) ?_)|(refine⟨_,fun _=>PC.q (pQ _ _ I E J) rfl,?_⟩)|(refine⟨_,PC.q (pQ _ _ I E J) rfl,?_⟩)|(refine aG (pQ _ _ I E F) ?_)|(refine⟨_,fun _=>PC.q (pQ _ _ I E F) rfl,?_⟩)|(refine⟨_,PC.q (pQ _ _ I E F) rfl,?_⟩)|(refine aA (fun O=>?_) (fun O=>?_))|(simp only[go_sem]))
  all_goals (refine bR ?_;unfold eF;generalize mH set d.a=p at *;generalize mH set d.b=q at *;cases p <;> cases q <;> simp_all)
def tF(p:Decision->Bool)(l:List Decision):Bool:=l.all p
def xB{α:Type}{p:α->Bool}{l:List α}{k:Nat}{x:α}(F:l[k]?=some x)(E:p x=false):l.all p=false:=by rw[List.all_eq_false];exact⟨x,Xac F,by simp[E]⟩
def Bq{α:Type}{p:α->Bool}{l:List α}(h:∀x∈l.take l.length,p x=true):l.all p=true:=by rw[Xad]at h;rw[Xaj];exact h
def vY{α:Type}{p:α->Bool}{l:List α}{k:Nat}{x:α}(I:l[k]?=some x)(F:p x=true)(h:∀x∈l.take k,p x=true):∀x∈l.take (k+1),p x=true:=by
 rw[bA I];intro y E;rcases Xba.1 E with E|E
 ·exact h y E
 ·simp at E;subst E;exact F
def aO{α:Type}{p:α->Prop}{l:List α}{k:Nat}{x:α}(I:l[k]?=some x)(F:p x)(h:∀x∈l.take k,p x):∀x∈l.take (k+1),p x:=by
 rw[bA I];intro y E;rcases Xba.1 E with E|E
 ·exact h y E
 ·simp at E;subst E;exact F
def ajP(l:List Decision)(c:Column)(hl:l.length<=1048576):PC prog 40 [.sl (l.map aS),.agg (aU c)] (boo (l.all fun d=>fI d c.set)):=by
 refine pcd func40 rfl rfl ?_;simp only[go_sem];refine⟨fun ρ _=>∃k:Nat,k<=l.length/\ρ 3=.rp (aU c) 0/\ρ 7=.sl (l.map aS)/\ρ 8=int l.length/\ρ 9=int k/\∀d∈l.take k,fI d c.set=true,fun ρ _=>l.length-aR (ρ 9),⟨0,Xaa _,rfl,rfl,rfl,rfl,by simp⟩,?_⟩;rintro ρ H ⟨k,Z,Y,O,V,J,X⟩;simp only[go_sem,V,J];refine aA (fun E=>?_) (fun F=>?_)
 ·have E:=aT E;obtain⟨d,I⟩:=aK E;have b1:=inB E;simp only[go_sem,O,J,aD I,b1];refine aL fun j hj=>?_
  simp only[go_sem];refine aI (aB _ _ _) (by simp[mM]) ?_;simp only[go_sem,Y,];refine aG (ahG d _) ?_;simp only[go_sem];apply aA <;> intro U
  ·simp only[go_sem];exact bR (xB I (by simpa using U)).symm
  ·simp only[go_sem,Y,O,V,J,aQ k];exact⟨⟨k+1,E,rfl,vY I (by simpa using U) X⟩,msr E⟩
 ·have F:=aV Z F;subst F;simp only[go_sem];exact bR (Bq X).symm
def Vm(l:List Decision)(c:Column)(hl:l.length<=1048576)(O:∀d∈l,tY d)(hs:0<=c.set)(J:c.set<=9223372036854775807):PC prog 146 [.sl (l.map aS),.agg (aU c)] (boo (l.all fun d=> !eF d c.set)):=by
 refine pcd func146 rfl rfl ?_;simp only[go_sem];refine⟨fun ρ _=>∃k:Nat,k<=l.length/\ρ 3=.rp (aU c) 0/\ρ 0=.sl (l.map aS)/\ρ 5=int k/\∀d∈l.take k,eF d c.set=false,fun ρ _=>l.length-aR (ρ 5),⟨0,Xaa _,rfl,rfl,rfl,by simp⟩,?_⟩;rintro ρ H ⟨k,Z,Y,h0,U,X⟩;simp only[go_sem,h0,U];refine aA (fun E=>?_) (fun F=>?_)
 ·have E:=aT E;obtain⟨d,I⟩:=aK E;have b1:=inB E;simp only[go_sem];refine dR ?_;simp only[go_sem,Y,h0,U,aD I,b1];refine⟨_,(YI d _ (O d (Xac I)) hs J).q rfl,?_⟩;apply aA <;> intro V
  ·simp only[go_sem];exact bR (xB (p:=fun d=> !eF d c.set) I (by simpa using V)).symm
  ·simp only[go_sem,Y,h0,U,aQ k];exact⟨⟨k+1,E,rfl,aO (p:=fun d=>eF d c.set=false) I (by simpa using V) X⟩,msr E⟩
 ·have F:=aV Z F;subst F;simp only[go_sem];exact bR (Bq fun d I=>by rw[X d I];rfl).symm
end Dec
namespace Sq
open Go.Proofs.Tryz
open Go.Proofs.YtpagaknmdfgfkaaGreatDoor.Nu (ltB geB)
open Mv (bO bR aO)
def mN(x:Instance)(i:Int):List Visit:=match x.orders[i.toNat]? with|some o=>cN o i|none=>[]
def CB(x:Instance)(i:Int):(mN x i).length<=2:=by
 unfold mN;split
 ·unfold cN;rw[Xae];split <;> split <;> simp
 ·exact Xaa _
def WB(x:Instance)(i:Int)(hi:0<=i/\i<(x.orders.length:Int)):PC prog 283 [.agg (aC x),int i] (.sl ((mN x i).map aF)):=by obtain⟨o,E⟩:=aK (show i.toNat<x.orders.length by omega);have:=Jl x i o hi E;unfold mN;rw[E];exact this
def FT(x:Instance)(o:Int)(l:List Visit)(q:Pair):Bool:=q.b == o&&((decide (q.a<0)||decide (q.a>=(x.orders.length:Int)))|| !gY l (mN x q.a))
def sZ(x:Instance)(o:Int)(l:List Visit):Bool:= !x.before.any (FT x o l)
def abC(x:Instance)(o:Int)(l:List Visit)(hl:l.length<=1048576)(hb:x.before.length<=1048576):PC prog 282 [.agg (aC x),int o,.sl (l.map aF)] (boo (sZ x o l)):=by
 refine pcd func282 rfl rfl ?_;simp only[go_sem];refine⟨fun ρ H=>∃(k:Nat),k<=x.before.length/\ρ 1=int o/\ρ 2=.sl (l.map aF)/\ρ 3=.rp (aC x) 0/\ρ 7=int k/\(∀q∈x.before.take k,FT x o l q=false),fun ρ _=>x.before.length-aR (ρ 7),⟨0,Xaa _,rfl,rfl,rfl,(by simp only[go_sem];rfl),by simp⟩,?_⟩;rintro ρ H ⟨k,Z,X,Y,O,U,V⟩;simp only[go_sem,O,U];refine aA (fun E=>?_) (fun F=>?_)
 ·have E:=ltB (by simpa using E);obtain⟨q,J⟩:=aK E;have b1:=inB E;have aa:=CB x q.a;simp only[go_sem,X,Y,O,U,aD J,b1];refine⟨by decide,by decide,.nf (.sl ((mN x q.a).map aF)),fun h=>(WB x q.a (by have:=h.2;simp only[Xag,decide_eq_false_iff_not]at this;omega)).qn,?_⟩;simp only[go_sem];refine⟨boo (gY l (mN x q.a)),fun _=>(ED l (mN x q.a) hl (by omega)).q rfl,?_⟩;simp only[go_sem];apply aA <;> intro I
  ·have I:FT x o l q=true:=I;simp only[go_sem];refine bR ?_;unfold sZ;rw[Xao.2 ⟨q,Xac J,I⟩];rfl
  ·have I:FT x o l q=false:=I;simp only[go_sem,X,Y,O,U,aQ k];exact⟨⟨k+1,E,rfl,aO (p:=fun q=>FT x o l q=false) J I V⟩,msr E⟩
 have F:=geB Z (by simpa using F);subst F;rw[Xad]at V;simp only[go_sem];refine bR ?_;unfold sZ;rw[Xbb.2 (fun q J=>by rw[V q J];simp)];rfl
def FD(a b:Visit):Bool:=decide (a.order<b.order)||((a.order == b.order&& !a.drop)&&b.drop)
def Y5(a b:Visit):PC prog 331 [.agg (aF a),.agg (aF b)] (boo (FD a b)):=by refine pcd func331 rfl rfl ?_;simp only[go_sem];exact .refl _
def Bm(l V:List Visit)(k:Nat):List Visit:=match V[k]? with
 | some v=>if(decide (bJ l v<0)&&((k:Int) == 0||decide (bJ l (V.getD 0 ⟨0,false⟩)>=0)))=true then[v]else[]
 | none=>[]
def C9(l V:List Visit)(m:Nat):List Visit:=(List.range m).flatMap (Bm l V)
def IV(x:Instance)(set:Int)(l:List Visit)(i:Nat):Bool:=(!rG set i||NI x i)|| !sZ x i l
def zB(x:Instance)(set:Int)(l:List Visit)(i:Nat):List Visit:=if IV x set l i=true then[]else C9 l (mN x i) (mN x i).length
def tK(x:Instance)(set:Int)(l:List Visit)(k:Nat):List Visit:=(List.range k).flatMap (zB x set l)
def xS(x:Instance)(set:Int)(l:List Visit):List Visit:=tK x set l x.orders.length
def I8(l V:List Visit)(m:Nat):C9 l V (m+1)=C9 l V m++Bm l V m:=by unfold C9;rw[Xbi,Xcd];simp
def CU(x:Instance)(set:Int)(l:List Visit)(k:Nat):tK x set l (k+1)=tK x set l k++zB x set l k:=by unfold tK;rw[Xbi,Xcd];simp
def ZA(l V:List Visit)(k:Nat):(Bm l V k).length<=1:=by
 unfold Bm;split
 ·split <;> simp
 ·simp
def Fv(l V:List Visit):∀m,(C9 l V m).length<=m
 | 0=>Xaf _
 | m+1=>by rw[I8,Xae];have:=Fv l V m;have:=ZA l V m;omega
def Af(x:Instance)(set:Int)(l:List Visit):∀k,(tK x set l k).length<=2*k
 | 0=>Xaf _
 | k+1=>by
  rw[CU,Xae];have:=Af x set l k;have E:(zB x set l k).length<=2:=by
   unfold zB;split
   ·simp
   ·exact Xam (Fv _ _ _) (CB _ _)
  omega
def ahK(x:Instance)(set:Int)(l:List Visit)(hl:l.length<=1048576)(hb:x.before.length<=1048576)(hx:x.orders.length<=100000):PC prog 241 [.agg (aC x),int set,.sl (l.map aF)] (.sl ((xS x set l).map aF)):=by
 refine pcb (fun t=>t == 7) func241 rfl rfl ?_;simp only[go_sem];refine fO fun j ae aj (R:ae j=some (KT [])) N=>?_
 simp only[go_sem];refine⟨fun ρ H=>∃(k:Nat) (j:Nat),k<=x.orders.length/\ρ 1=int set/\ρ 2=.sl (l.map aF)/\ρ 3=.rp (aC x) 0/\ρ 8=int k/\ρ 7=.os j/\H j=some (KT (tK x set l k)),fun ρ _=>x.orders.length-aR (ρ 8),⟨0,j,Xaa _,rfl,rfl,rfl,(by simp only[go_sem];rfl),rfl,R⟩,?_⟩;rintro ρ H ⟨k,j,hk,Y,X,U,O,e7,R⟩;simp only[go_sem,U,O];refine aA (fun E=>?_) (fun Z=>?_)
 ·have E:=ltB (by simpa using E);obtain⟨o,ho⟩:=aK E;have b1:=inB E;have hs:=CU x set l k;have ai:=Af x set l k;have ag:NI x k=o.off:=by unfold NI;rw[ho]
  have ad:IV x set l k=((!rG set k||o.off)|| !sZ x k l):=by unfold IV;rw[ag]
  have hA:zB x set l k=if IV x set l k=true then[]else C9 l (mN x (k:Nat)) (mN x (k:Nat)).length:=rfl
  rw[hA,ad]at hs;generalize tK x set l k=L at *;simp only[go_sem,Y,O];refine aG (CI set (k:Nat)) ?_;simp only[go_sem,X,U,O,aD ho,b1];refine⟨boo (sZ x (k:Nat) l),fun _=>(abC x (k:Nat) l hl hb).q rfl,?_⟩;simp only[go_sem];apply aA <;> intro hc
  ·rw[if_pos hc,Xak]at hs;simp only[go_sem,Y,X,U,O,e7,aQ k];refine⟨⟨k+1,j,E,rfl,rfl,?_⟩,msr E⟩;rw[hs];exact R
  rw[if_neg (by rw[hc];simp)]at hs;simp only[go_sem,U,O];refine aG (WB x (k:Nat) (by omega)) ?_;have hV:=CB x (k:Nat);generalize mN x (k:Nat)=V at *;simp only[go_sem];refine⟨fun ρ H=>∃m j:Nat,m<=V.length/\ρ 1=int set/\ρ 2=.sl (l.map aF)/\ρ 3=.rp (aC x) 0/\ρ 8=int (k:Nat)/\ρ 9=.sl (V.map aF)/\ρ 10=int (m:Nat)/\ρ 7=.os j/\H j=some (KT (L++C9 l V m)),fun ρ _=>V.length-aR (ρ 10),⟨0,j,Xaa _,by simp only[go_sem,Y,],by simp only[go_sem,X,],by simp only[go_sem,U,],O,by simp only[go_sem],(by simp only[go_sem];rfl),e7,by simpa[C9]using R⟩,?_⟩;rintro ρ H ⟨m,j,hm,Y,X,U,O,e9,F,e7,R⟩;simp only[go_sem,e9,F,Xab];refine aA (fun I=>?_) (fun aa=>?_)
  ·have I:=ltB (by simpa using I);obtain⟨v,hv⟩:=aK I;obtain⟨v0,ac⟩:=aK (l:=V) (k:=0) (by omega);have b2:=inB I;have b3:(0:Int)<=0/\(0:Int)<((V.length:Nat):Int):=by omega
   have J:=I8 l V m;have al:=Fv l V m;have ah:V.getD 0 ⟨0,false⟩=v0:=by rw[List.getD,ac];rfl
   have af:Bm l V m=if(decide (bJ l v<0)&&((m:Int) == 0||decide (bJ l v0>=0)))=true then[v]else[]:=by unfold Bm;rw[hv,ah]
   rw[af]at J;generalize C9 l V m=SM at *;simp only[go_sem,X,e9,F,aD hv,b2];refine aG (sM l v hl) ?_;simp only[go_sem,X,e9,F,aD ac,b3,Xab];refine⟨_,fun _=>(sM l v0 hl).q rfl,?_⟩;simp only[go_sem];apply aA <;> intro ab
   ·rw[if_pos ab]at J;simp only[go_sem,e7,e9,F,aD hv,b2,Xab];refine aZ R ⟨rfl,rfl⟩ (by simp only[go_sem]) (by simp;omega) (fun j2 ak=>?_);simp only[go_sem,Y,X,U,O,e9,F,aQ m];refine⟨⟨m+1,j2,I,rfl,rfl,?_⟩,by simp only[aN];omega⟩;rw[J,<-Xax,aB];exact congrArg some (It _ _)
   ·rw[if_neg (by rw[ab];simp),Xak]at J;simp only[go_sem,Y,X,U,e7,O,e9,F,aQ m];refine⟨⟨m+1,j,I,rfl,rfl,?_⟩,by simp only[aN];omega⟩;rw[J];exact R
  have aa:=geB hm (by simpa using aa);subst aa;simp only[go_sem,Y,X,U,e7,O,aQ k];refine⟨⟨k+1,j,E,rfl,rfl,?_⟩,msr E⟩;rw[hs];exact R
 have Z:=geB hk (by simpa using Z);subst Z;simp only[go_sem,e7];exact .row _ _ _ R (ConvE.refl _)
def OI(u v:Visit):Bool:=u.order == v.order&&(u.drop == v.drop&&true)
def xX:List Visit->List Visit->Bool
 | [],b=>decide (0<b.length)
 | _::_,[]=>false
 | u::l,v::m=>if(!OI u v)=true then FD u v else xX l m
def VG(a b:List Visit)(h:a=[]\/b=[]):xX a b=decide (a.length<b.length):=by
 rcases h with rfl|rfl
 ·cases b <;> rfl
 ·cases a with
  | nil=>rfl
  | cons u l=>simp[xX]
def acK(a b:List Visit)(ha:a.length<=1048576)(hb:b.length<=1048576):PC prog 287 [.sl (a.map aF),.sl (b.map aF)] (boo (xX a b)):=by
 refine pcd func287 rfl rfl ?_;simp only[go_sem];refine⟨fun ρ _=>∃k:Nat,k<=a.length/\k<=b.length/\ρ 0=.sl (a.map aF)/\ρ 1=.sl (b.map aF)/\ρ 5=int k/\xX a b=xX (a.drop k) (b.drop k),fun ρ _=>a.length-aR (ρ 5),⟨0,Xaa _,Xaa _,rfl,rfl,(by simp only[go_sem];rfl),rfl⟩,?_⟩;rintro ρ H ⟨k,ab,aa,O,J,U,E⟩;simp only[go_sem,O,J,U,Xab];refine aA (fun X=>?_) (fun F=>?_)
 ·simp only[Xai,decide_eq_true_eq]at X;obtain⟨u,V⟩:=aK (l:=a) (k:=k) (by omega);obtain⟨v,Y⟩:=aK (l:=b) (k:=k) (by omega);have Z:=inB (show k<a.length by omega);have b2:=inB (show k<b.length by omega);rw[tH V,tH Y]at E;have E:xX a b=if(!OI u v)=true then FD u v else xX (a.drop (k+1)) (b.drop (k+1)):=E
  simp only[go_sem];refine dR ?_;simp only[go_sem,O,J,U,aD V,aD Y,Z,b2,Xab];apply aA <;> intro I
  ·have I:(!OI u v)=true:=I;rw[if_pos I]at E;simp only[go_sem];refine dR ?_;simp only[go_sem,O,J,U,aD V,aD Y,Z,b2,Xab];refine⟨_,(Y5 u v).q rfl,?_⟩;simp only[go_sem];exact bR E.symm
  ·have I:(!OI u v)=false:=I;rw[if_neg (by rw[I];simp)]at E;simp only[go_sem,O,J,U,aQ k];exact⟨⟨k+1,by omega,by omega,rfl,E⟩,by simp only[aN];omega⟩
 ·have F : a.length <= k \/ b.length <= k := by simp only[Xcx,decide_eq_false_iff_not]at F;omega
  have hn:a.drop k=[]\/b.drop k=[]:=by
   rcases F with h|h
   ·exact .inl (Xcf h)
   ·exact .inr (Xcf h)
  rw[VG _ _ hn,Xbj,Xbj]at E;simp only[go_sem,O,J,Xab];refine bR ?_;rw[E,decide_eq_decide];omega
end Sq
namespace Rx
open Go.Nu Go.So
open Sq (W fV eZ dN NetOk fP)
open Nu (ltB geB CR BP nX BF)
open Mv (bO bR aO)
def ajL(a:Int)(kind:Nat)(n:Int):Int:=if(decide (a>=0)&&a != (kind:Int))=true then W (n+1)else n
structure RsOk(w:Rs):Prop where
 net:Sq.NetB w.x.net
 near:NearB w.near
 len:w.near.length=w.x.orders.length
 dlen:w.dual.length=w.x.orders.length
 dual:∀a∈w.dual,a.size<=1048576
end Rx
end Go.Proofs.YtpagaknmdfgfkaaGreatDoor
section
namespace Go.Aw
end Go.Aw
namespace Go.Proofs.YtpagaknmdfgfkaaGreatDoor.Rx
open Go.Aw Go.Aw.D Go.Proofs Ty Go.Nu Go.So
open Sq (W fV eZ dN NetOk fP)
open Nu (ltB geB CR BP nX BF)
open Mv (bO bR aO)
def stR(o:Order)(d:Bool):Stop:=if d=true then o.drop else o.pick
def HA(o:Order)(d:Bool):Bool:= !d|| !CY o
end Go.Proofs.YtpagaknmdfgfkaaGreatDoor.Rx
end
namespace Go.Proofs.YtpagaknmdfgfkaaGreatDoor
open Go.Aw Go.Aw.D Go.Proofs Ty
namespace Rx
open Go.Nu Go.So
open Sq (W fV eZ dN NetOk)
open Nu (ltB geB)
open Mv (bO bR aO)
def smP:List ByteArray:=[⟨#[72,117,98]⟩,⟨#[65]⟩,⟨#[66]⟩]
structure SmH(H:aH)(i0 j1 ja jo jp jb:Nat)(ty:AV)(arcs:List Arc)(os:List Order):Prop where
 r0:∃cs,H i0=some ⟨30,6,[cs]⟩
 ne:i0≠j1
 r1:H j1=some ⟨30,6,[[.sl (smP.map Go.Aw.D.fE),.os ja,ty,.os jo,.os jp,.os jb]]⟩
 ra:H ja=some ⟨88,6,arcs.map gD⟩
 ro:H jo=some ⟨93,16,os.map bH⟩
 rp:H jp=some ⟨169,2,[]⟩
 rb:H jb=some ⟨169,2,[]⟩
end Rx
namespace Rx
open Go.Nu Go.So
open Sq (W fV eZ dN NetOk)
def CD{x:Instance}{o:Nat}(E:o<x.orders.length):fV x.orders (o:Nat)=Sq.gS (dO x o) (o:Nat):=by
 have F:cK ((o:Nat):Int) x.orders.length=false:=by unfold cK;simp;omega
 unfold fV;rw[if_neg (by rw[F];simp)];show(match x.orders[(((o:Nat):Int)).toNat]? with|some o_1=>_|none=>_)=_;rw[Xaq,gO E]
structure MinOf(b:Int)(M:Arc->Prop)(l:List Arc)(r:Int):Prop where
 le:r<=b
 lb:∀c∈l,M c->r<=c.miles
 at':r=b\/∃c∈l,M c/\r=c.miles
end Rx
namespace Rx
open Go.Nu Go.So
open Sq (W fV eZ dN NetOk fP rZ)
open Nu (ltB geB CR BP nX BF)
open Mv (bO bR aO)
structure Same(w a:Rs):Prop where
 ex:∃c f l,a={ w with count:=c,found:=f,least:=l }
 sz:a.least.size<=1048576
structure RInv(n D:Nat)(p:RP):Prop where
 mem:p.memory<2^60
 board:p.board<2^n
 load:p.load.length=D
 moms:p.moms.length<=2^(p.visits+1)
 dual:p.dual.size<=8194
structure RsB(D:Nat)(w:Rs):Prop where
 ok:RsOk w
 dim:∀o,o<w.x.orders.length->(dO w.x o).load.length=D
 cap:w.t.cap.length=D
 D:D<=1048576
 n:w.x.orders.length<=60
 most:w.most<=16
end Rx
namespace Rx
open Go.Nu Go.So
open Sq (W fV eZ dN NetOk)
open Nu (ltB geB)
open Mv (bO bR aO)
end Rx
namespace Rx
open Go.Nu Go.So
open Sq (W fV eZ dN NetOk fP rZ)
open Nu (ltB geB CR BP nX BF qZ)
open Mv (bO bR aO)
structure XR(D:Nat)(x:Instance):Prop where
 net:Sq.NetB x.net
 dim:∀o,o<x.orders.length->(dO x o).load.length=D
 cap:∀k,k<x.types.length->(mZ x k).cap.length=D
 D:D<=1048576
 n:x.orders.length<=8
end Rx
namespace Rx
open Sq
def akA{x:Instance}(h:Acc x):NetB x.net:=⟨by have:=h.arcs;omega,fun a E=>by have F:=ON (h.arc a E).travel;have:=(h.arc a E).slow;exact⟨by have:=F.len;omega,by omega,fun p I=>by have:=F.pt p I;unfold anC;omega⟩⟩
def avE(x:Instance):Nat:=(kN x.types).toNat
end Rx
namespace Rx
open Sq
def mil(n:Network)(t:VType)(place goal:Int):Int:=(fP n t.profile place goal 0).2.1
def both(t:VType)(l:List Clk):List Clk:=l.flatMap fun c=>[c,aqP t c]
structure Cr(k:Nat)(cs:List Clk)(R:List Mom):Prop where
 sub:∀c∈cs,(⟨c.ready,c.since⟩:Mom)∈R
 dom:∀m∈R,∃c∈cs,c.ready=m.time/\c.since<=m.driven
 rng:∀m∈R,(0<=m.time/\m.time<=8192)/\ -(12288*(k:Int))<=m.driven/\m.driven<=4096
section
variable{n:Network}{t:VType}{place goal:Int}{k:Nat}{cs:List Clk}{R:List Mom}
end
end Rx
namespace Rx
open Sq
open Go.Nu (vR)
structure Ctx(x:Instance)(k:Nat)(near:List Int):Prop where
 acc:Acc x
 kind:k<x.types.length
 n:x.orders.length<=8
 len:near.length=x.orders.length
 mil:∀c∈x.net.arcs,0<=c.miles/\c.miles<=10000
 money:(0<=(mZ x k).fixed/\(mZ x k).fixed<=100000)/\(0<=(mZ x k).perMile/\(mZ x k).perMile<=100)/\0<=(mZ x k).perTick/\(mZ x k).perTick<=100
 led:∀o∈x.orders,-1<=o.last/\ -1<=o.now
structure Rel(x:Instance)(t:VType)(p:Part)(q:RP):Prop where
 place:p.place=q.place
 memory:p.memory=q.memory
 board:p.board=q.board
 visits:p.visits=q.visits
 load:p.load=q.load
 ll:q.load.length=avE x
 mem:q.memory<2^x.orders.length
 clk:∃R,Cr p.visits p.clocks R/\q.moms=aoE t R
section
variable{x:Instance}{k:Nat}{near:List Int}{du:Option (List ByteArray)}{dl:List ByteArray}{M:Nat}{cn:Int}{lim fnd:Bool}{le:ByteArray}{p:Part}{q:RP}{o:Nat}{d:Bool}
abbrev wOf(x:Instance)(k:Nat)(near:List Int)(du:Option (List ByteArray))(M:Nat):Wk:=⟨x,k,mZ x k,near,du,M⟩
structure Adds(x:Instance)(k:Nat)(dl:List ByteArray)(p p':Part)(q q':RP)(o:Nat)(d:Bool)(B:ByteArray)(miles:Int):Prop where
 rng:0<=miles/\miles<=10000
 value:p'.value=anZ B (W (W ((mZ x k).perMile*miles)*16777216))
 miles:q'.miles=W (q.miles+miles)
 dual:q'.dual=if HA (dO x o) d=true then(vR q.dual (dl.getD o ByteArray.empty)).1 else q.dual
 moved:q'.moved=if HA (dO x o) d=true then ajL (dO x o).now k q.moved else q.moved
 other:q'.other=if HA (dO x o) d=true then ajL (dO x o).last k q.other else q.other
end
end Rx
namespace Rx
open Go.Nu
def Sm(A D:Nat)(x:Rat):Prop:=x.den<=D/\x.num.natAbs<=A*x.den
def EE:Nat:=10^60
structure Vl(v:Nat)(a:ByteArray)(r:Rat):Prop where
 eq:a=lM r
 sm:Sm (v*EE) (EE^v) r
end Rx
namespace Rx
open Sq
open Go.Nu
def aeA(w:Wk)(p:Part):List ByteArray:=if(amP w p).2.2=true then[atK w p (amP w p).1 (amP w p).2.1]else[]
def aiO(w:Wk)(vs:List Visit):Nat->Part->List ByteArray
 | 0,p=>aeA w p
 | f+1,p=>aeA w p++vs.flatMap fun v=>if(Yl w p v).2=true then aiO w vs f (Yl w p v).1 else[]
structure DuB(n:Nat)(du:Option (List ByteArray))(dl:List ByteArray):Prop where
 len:dl.length=n
 some:∀l,du=some l->l=dl
 none:du=none->∀a∈dl,a=dec 0
 right:∀a∈dl,Vl 1 a (tO a)
structure Val(x:Instance)(k:Nat)(p:Part)(q:RP)(v d:Rat):Prop where
 own:Vl (3*q.visits+1) p.value v
 ref:Vl (q.visits+1) q.dual d
 eq:v=((((mZ x k).perMile*q.miles)*16777216+(q.moved*16+q.other)*65536:Int):Rat)-d
 miles:0<=q.miles/\q.miles<=10000*(q.visits:Int)
 moved:0<=q.moved/\q.moved<=(q.visits:Int)
 other:0<=q.other/\q.other<=(q.visits:Int)
section
variable{x:Instance}{k:Nat}{near:List Int}{du:Option (List ByteArray)}{dl:List ByteArray}{M:Nat}{cn:Int}{lim fnd:Bool}{le:ByteArray}{p p':Part}{q q':RP}{o:Nat}{dr:Bool}{v d:Rat}{miles:Int}
end
end Rx
namespace Rx
open Sq
open Go.Nu
section
variable{x:Instance}{k:Nat}{near:List Int}{du:Option (List ByteArray)}{dl:List ByteArray}{M:Nat}{cn:Int}{lim fnd:Bool}{le:ByteArray}{p p':Part}{q q':RP}{o:Nat}{dr:Bool}{v d:Rat}{miles:Int}
def aoF{O:Order}{i:Nat}{v:Visit}(h:v∈gS O (i:Nat)):∃d,v=⟨(i:Nat),d⟩/\(stR O d).place>=0:=by
 unfold gS at h;rcases Xba.1 h with h|h
 ·split at h
  ·next E=>exact⟨false,by simpa using h,by simpa[stR]using E⟩
  ·cases h
 ·split at h
  ·next E=>exact⟨true,by simpa using h,by simpa[stR]using E⟩
  ·cases h
end
end Rx
namespace Rx
open Sq
open Go.Nu
structure Cap(n:Int)(t:Nat)(r:Int):Prop where
 lo:n<=r
 hi:r<=n+t
 eq:n+t<=8192->r=n+t
 gt:n+t>8192->r>8192
end Rx
namespace Rx
open Sq
open Go.Nu
structure Min(l:List ByteArray)(found:Bool)(best:ByteArray):Prop where
 no:found=false->l=[]/\best=ByteArray.empty
 yes:found=true->best∈l/\∀r∈l,¬FW r best<0
section
variable{x:Instance}{k:Nat}{near:List Int}{du:Option (List ByteArray)}{dl:List ByteArray}{M:Nat}{cn:Int}{lim fnd:Bool}{le:ByteArray}{p p':Part}{q q':RP}{o:Nat}{dr:Bool}{v d:Rat}{miles:Int}
def Ok(x:Instance)(k:Nat)(M:Nat)(p:Part):Prop:=∃q,Rel x (mZ x k) p q/\(∃v d,Val x k p q v d)/\q.visits<=M
def Vis(x:Instance)(v:Visit):Prop:=∃i d,v=⟨(i:Nat),d⟩/\i<x.orders.length/\(stR (dO x i) d).place>=0/\(dO x i).off=false
end
end Rx
namespace Rx
open Sq
open Go.Nu
structure Good(x:Instance)(k M:Nat)(p:Part):Prop where
 ok:Ok x k M p
 lb:∀n∈p.load,-(1000*(p.visits:Int))<=n/\n<=1000*(p.visits:Int)
 sb:∀c∈p.clocks,(mZ x k).start<=c.ready
structure Dom(fl:Bool)(p q:Part):Prop where
 place:p.place=q.place
 board:p.board=q.board
 mem:∀i,p.memory.testBit i=true->q.memory.testBit i=true
 visits:p.visits<=q.visits
 pos:0<q.visits->0<p.visits
 ll:p.load.length=q.load.length
 load:∀i,p.load.getD i 0<=q.load.getD i 0
 val:fl=true->tO p.value<=tO q.value
 clk:∀d∈q.clocks,∃c∈p.clocks,c.ready=d.ready/\c.since<=d.since
def duV(du:Option (List ByteArray))(o:Nat):Rat:=match du with|none=>0|some l=>tO (l.getD o ByteArray.empty)
section
variable{x:Instance}{k:Nat}{near near':List Int}{du du':Option (List ByteArray)}{dl dl':List ByteArray}{M:Nat}{cn:Int}{lim fnd:Bool}{le:ByteArray}{p p':Part}{q q':RP}{o:Nat}{dr:Bool}{v d:Rat}{miles:Int}
end
end Rx
namespace Rx
open Sq
open Go.Nu
section
variable{x:Instance}{k:Nat}{near near':List Int}{du du':Option (List ByteArray)}{dl dl':List ByteArray}{M:Nat}{cn:Int}{lim fnd:Bool}{le:ByteArray}{p q:Part}{a b:RP}{o:Nat}{dr:Bool}{v d:Rat}{miles:Int}{fl:Bool}
end
end Rx
namespace Rx
open Sq
open Go.Nu
section
variable{x:Instance}{k:Nat}{near near':List Int}{du du':Option (List ByteArray)}{dl dl':List ByteArray}{M:Nat}{cn:Int}{lim fnd:Bool}{le:ByteArray}{p q:Part}{a b:RP}{o:Nat}{dr:Bool}{v d:Rat}{miles:Int}{fl:Bool}
def Sub(w:Wk)(T:List ByteArray)(p:Part):Prop:=∀r∈aiO w (abL w.x) (w.most-p.visits) p,r∈T
structure SInv(x:Instance)(k:Nat)(near:List Int)(du:Option (List ByteArray))(M:Nat)(T:List ByteArray)(s:Srch):Prop where
 kn:∀u∈s.known,Good x k M u/\0<u.visits/\Sub (wOf x k near du M) T u
 mem:s.found=true->s.best∈T
 no:s.found=false->s.best=ByteArray.empty
 min:∀u∈s.known,∀r∈aeA (wOf x k near du M) u,s.found=true/\¬FW r s.best<0
structure SExt(x:Instance)(k:Nat)(near:List Int)(du:Option (List ByteArray))(M:Nat)(T:List ByteArray)(r:Nat)(s t:Srch):Prop where
 kn:∀u∈s.known,u∈t.known
 mo:∀u∈s.more,u∈t.more
 nw:∀u∈t.known,u∈s.known\/u∈t.more
 nm:∀u∈t.more,u∈s.more\/(Good x k M u/\Sub (wOf x k near du M) T u/\u.visits=r+1)
end
end Rx
namespace Rx
open Go.Nu Go.So
open Sq (W fV eZ dN NetOk)
open Nu (ltB geB qZ)
open Mv (bO bR aO)
end Rx
namespace Rx
open Go.Nu Go.So
open Sq (W fV eZ dN NetOk rZ)
open Nu (ltB geB qZ)
open Mv (bO bR aO)
abbrev GC(x:Instance)(k:Nat)(near:List Int)(du:Option (List ByteArray)):List ByteArray:=aiO (wOf x k near du (abL x).length) (abL x) (abL x).length (atG (wOf x k near du (abL x).length))
end Rx
namespace Nu.Ps
open Go.Nu Go.So
section
variable{gf:Nat}{lt:Priced->Priced->Bool}{ok:Priced->Prop}
end
end Nu.Ps
end Go.Proofs.YtpagaknmdfgfkaaGreatDoor
section
namespace Go.Aw.D
open Go.Aw Go.RowKit Go.Proofs Go.Proofs.YtpagaknmdfgfkaaGreatDoor Go.WideShapes Go.ChangeShapes
def Od:List (String×DataW Unit):=[("math/bits.deBruijn32tab",Go.Proofs.YtpagaknmdfgfkaaGreatDoor.Rows.laid_math_bits_deBruijn32tab),("math/bits.deBruijn64tab",Go.Proofs.YtpagaknmdfgfkaaGreatDoor.Rows.laid_math_bits_deBruijn64tab),("internal/strconv.uint64pow10",Go.Proofs.YtpagaknmdfgfkaaGreatDoor.Rows.laid_internal_strconv_uint64pow10)]
theorem akL:(Go.Proofs.YtpagaknmdfgfkaaGreatDoor.Rows.laid_math_bits_deBruijn64tab:DataW Unit)=Lib.tabData .u8 (Lib.deBruijn64tab.map fun z:Nat=>(z:Int)):=by kernel_rfl
theorem ahW:(Go.Proofs.YtpagaknmdfgfkaaGreatDoor.Rows.laid_internal_strconv_uint64pow10:DataW Unit)=Lib.tabData .u64 Lib.pow10Tab:=by kernel_rfl
theorem ZY{W:World}(h:laidMetH Tryz.prog Od W):Ow W:=by
 have h0:laidMet Tryz.prog Od W:=(Go.MakeChecks.laidMetH_plain Tryz.prog Od W (by kernel_rfl))▸h;have h1:=laidMet.tail h0;have F:=laidMet.tail h1;rw[akL]at h1;rw[ahW]at F;have b:=Lib.tabIs_of_head (g:=3) (by kernel_rfl) (by kernel_rfl) (t:=387) (e:=5) (n:=64) Tryz.underlying387 Tryz.underlying5 (by kernel_rfl) (by kernel_rfl) h1;have p:=Lib.tabIs_of_head (g:=1) (by kernel_rfl) (by kernel_rfl) (t:=364) (e:=341) (n:=20) Tryz.underlying364 Tryz.underlying341 (by kernel_rfl) (by kernel_rfl) F;unfold Lib.TabIs World.var? at b p;rw[show Tryz.prog.globalNamed "math/bits.deBruijn64tab" = some 3 by kernel_rfl]at b;rw[show Tryz.prog.globalNamed "internal/strconv.uint64pow10" = some 1 by kernel_rfl]at p;intro t E;simp only[YJ,List.mem_cons,List.not_mem_nil,or_false]at E;rcases E with rfl|rfl
 . exact p
 . have:Ur=((Lib.deBruijn64tab.map fun z:Nat=>(z:Int)).map fun z=>Value.int .u8 z).toArray:=by simp[Ur]
   rw[this];exact b
end Go.Aw.D
end
