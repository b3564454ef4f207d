import Derived.Lib.LaidIn
import Derived.MakeChecks
import Derived.Stop.LaidErr
import Derived.Test.YtpagaknmdfgfkaaGreatDoorPn12
set_option linter.unusedSimpArgs false
set_option linter.unusedVariables false
set_option linter.defProp false
set_option maxRecDepth 100000
namespace Go.Proofs.YtpagaknmdfgfkaaGreatDoor
open Go.Aw Go.Aw.D Go.Proofs Ty
namespace Nu
open Go.Proofs.Tryz
open Go.Nu
def xC(p:Nat->Bool):Nat->Nat
 | 0=>0
 | k+1=>xC p k+(if p k=true then 2^k else 0)
def EK(p:Nat->Bool):∀k,xC p k<2^k
 | 0=>by simp[xC]
 | k+1=>by have:=EK p k;rw[xC,Xbj];split <;> omega
def Du(p:Nat->Bool):∀k i,(xC p k).testBit i=(decide (i<k)&&p i)
 | 0,i=>by simp[xC]
 | k+1,i=>by
  have E:=EK p k;have ih:=Du p k i;rw[xC];have F:xC p k+(if p k=true then 2^k else 0)=xC p k ||| (if p k=true then 2^k else 0):=by
   split
   ·rw[Xcl,Nat.or_comm];have:=Nat.two_pow_add_eq_or_of_lt E 1;simpa using this
   ·simp
  rw[F,Nat.testBit_or,ih];by_cases h:p k=true
  ·rw[if_pos h,Nat.testBit_two_pow];by_cases e:k=i
   ·subst e;simp[h]
   ·have:(decide (i<k+1))=decide (i<k):=by rw[Xar];simp;omega
    rw[this];simp[e]
  ·rw[if_neg h];by_cases e:k=i
   ·subst e;simp[h]
   ·have:(decide (i<k+1))=decide (i<k):=by rw[Xar];simp;omega
    rw[this];simp
def avB{a k:Nat}(h:a<2^k):a ||| 2^k=a+2^k:=by rw[Nat.or_comm,Xcl];have:=Nat.two_pow_add_eq_or_of_lt h 1;simpa using this.symm
def Ji{a b:Nat}(F:a<2^63)(E:b<2^63):xR .or .i64 (a:Int) (b:Int)=((a ||| b:Nat):Int):=by
 have h:((BitVec.ofInt 64 (a:Int) ||| BitVec.ofInt 64 (b:Int)).toNat:Int)=((a ||| b:Nat):Int):=by
  rw[BitVec.toNat_or,BitVec.toNat_ofInt,BitVec.toNat_ofInt];have h1:((a:Int)%((2^64:Nat):Int)).toNat=a:=by omega
  have I:((b:Int)%((2^64:Nat):Int)).toNat=b:=by omega
  rw[h1,I]
 refine Eq.trans (congrArg IntKind.i64.wrap h) ?_;have:=Nat.or_lt_two_pow F E;exact aU (by omega)
def Iy{i:Nat}(h:i<=62):shV .shl .i64 1 (i:Int)=((2^i:Nat):Int):=by
 show IntKind.i64.wrap (1*2^min ((i:Int)).toNat 64)=_;have:min ((i:Int)).toNat 64=i:=by omega
 rw[this,Int.one_mul];have E:(2:Nat)^i<=2^62:=Xau (by decide) h;have F:((2:Int)^i)=((2^i:Nat):Int):=by norm_cast
 rw[F];generalize 2^i=m at E;exact aU (by omega)
theorem jF{s:Nat}{i:Nat}(h1:i<=62):dO (s:Int) (i:Int)=s.testBit i:=by
 rw[Xdb];unfold dO;have E:((2:Int)^i)=((2^i:Nat):Int):=by norm_cast
 rw[Xao,E];have:((s:Int)/((2^i:Nat):Int))=((s/2^i:Nat):Int):=rfl;rw[this];generalize s/2^i=m;rw[Xar];simp only[Xav,decide_eq_true_eq,Xak];omega
def U4{a b:Nat}(ha:a<2^63)(hb:b<2^63):(xR .andNot .i64 (a:Int) (b:Int) == 0)=decide (a &&& b=a):=by
 have e:xR .andNot .i64 (a:Int) (b:Int)=((a-(a &&& b):Nat):Int):=by
  have h1:((a:Int)%((2^64:Nat):Int)).toNat=a:=by omega
  have h2:((b:Int)%((2^64:Nat):Int)).toNat=b:=by omega
  have h:((BitVec.ofInt 64 (a:Int) &&& ~~~(BitVec.ofInt 64 (b:Int))).toNat:Int)=((a-(a &&& b):Nat):Int):=by
   have E:a &&& b<=a:=Nat.and_le_left;have O:BitVec.ofInt 64 (a:Int) &&& ~~~(BitVec.ofInt 64 (b:Int))=BitVec.ofNat 64 (a-(a &&& b)):=by
    have T:BitVec.ofInt 64 (a:Int)=BitVec.ofNat 64 a:=by apply BitVec.eq_of_toNat_eq;rw[BitVec.toNat_ofInt,BitVec.toNat_ofNat,h1,Xbk (by omega)]
    have Y:BitVec.ofInt 64 (b:Int)=BitVec.ofNat 64 b:=by apply BitVec.eq_of_toNat_eq;rw[BitVec.toNat_ofInt,BitVec.toNat_ofNat,h2,Xbk (by omega)]
    rw[T,Y];have J:(BitVec.ofNat 64 a &&& ~~~BitVec.ofNat 64 b) &&& BitVec.ofNat 64 (a &&& b)=0#64:=by apply BitVec.eq_of_getLsbD_eq;intro i F;simp only[BitVec.getLsbD_and,BitVec.getLsbD_not,BitVec.getLsbD_ofNat,Nat.testBit_and,F,decide_true,Xaz];cases a.testBit i <;> cases b.testBit i <;> simp
    have Z:(BitVec.ofNat 64 a &&& ~~~BitVec.ofNat 64 b) ||| BitVec.ofNat 64 (a &&& b)=BitVec.ofNat 64 a:=by apply BitVec.eq_of_getLsbD_eq;intro i F;simp only[BitVec.getLsbD_or,BitVec.getLsbD_and,BitVec.getLsbD_not,BitVec.getLsbD_ofNat,Nat.testBit_and,F,decide_true,Xaz];cases a.testBit i <;> cases b.testBit i <;> rfl
    have X:=congrArg BitVec.toNat ((BitVec.add_eq_or_of_and_eq_zero _ _ J).trans Z);rw[BitVec.toNat_add,BitVec.toNat_ofNat,BitVec.toNat_ofNat,Xbk (by omega:a<2^64),Xbk (by omega:a &&& b<2^64)]at X;apply BitVec.eq_of_toNat_eq;rw[BitVec.toNat_ofNat,Xbk (by omega)];have hl:=(BitVec.ofNat 64 a &&& ~~~BitVec.ofNat 64 b).isLt;have I:(BitVec.ofNat 64 a &&& ~~~BitVec.ofNat 64 b).toNat<=a:=by rw[BitVec.toNat_and,BitVec.toNat_ofNat,Xbk (by omega:a<2^64)];exact Nat.and_le_left
    omega
   rw[O,BitVec.toNat_ofNat,Xbk (by omega)]
  refine Eq.trans (congrArg IntKind.i64.wrap h) ?_;exact aU (by omega)
 rw[e,Xar];have E:a &&& b<=a:=Nat.and_le_left;simp only[Xav,decide_eq_true_eq];omega
def ZE(a b:Nat)(F:a<2^63)(E:b<2^63):PC prog 119 [int a,int b] (boo (decide (a &&& b=a))):=by refine pcd func119 rfl rfl ?_;simp only[go_sem];exact cB (U4 F E)
def GM(q:Order->Bool)(l:List Order)(i:Nat):Bool:=match l[i]? with|some o=> !o.off&&q o|none=>false
def J9{q:Order->Bool}{l:List Order}{i:Nat}{o:Order}(h:l[i]?=some o):GM q l i=(!o.off&&q o):=by unfold GM;rw[h]
def Nd(q:Order->Bool)(l:List Order):Nat:=xC (GM q l) l.length
def alT{g:Nat}{q:Order->Bool}(x:Instance)(hx:x.orders.length<=62)(Z:aE prog g=true)(hg:∀o∈x.orders,PC prog g [.agg (bJ o)] (boo (q o))):
  PC prog 181 [.agg (aD x),.v (.func (.func g) #[] #[])] (int (Nd q x.orders:Nat)):=by
 refine pcd func181 rfl rfl ?_;simp only[go_sem];unfold Nd;generalize hp:GM q x.orders=p;refine⟨fun ρ H=>∃(k:Nat),k<=x.orders.length/\ρ 1=.v (.func (.func g) #[] #[])/\ρ 9=.sl (x.orders.map bJ)/\ρ 10=int (x.orders.length:Nat)/\ρ 11=int k/\ρ 5=int (xC p k:Nat),fun ρ _=>x.orders.length-aR (ρ 11),⟨0,Xaa _,rfl,rfl,by simp only[go_sem],(by simp only[go_sem];rfl),by simp only[go_sem];rfl⟩,?_⟩;rintro ρ H ⟨k,hk,T,e9,J,F,e5⟩;simp only[go_sem,J,F];refine aA (fun E=>?_) (fun I=>?_)
 ·have E:=ltB E;obtain⟨o,X⟩:=aK E;have b1:=inB E;have O:p k=(!o.off&&q o):=by rw[<-hp];exact J9 X
  have aa:=EK p k;have ab:2^k<=2^62:=Xau (by decide) (by omega);simp only[go_sem,e9,F,aC X,b1];refine aN fun j hj=>?_
  simp only[go_sem,];refine aI (aB _ _ _) (by simp[bJ]) ?_;simp only[go_sem,T,Z];refine⟨_,fun _=>(hg o (Xac X)).q rfl,?_⟩;simp only[go_sem,];refine aA (fun Y=>?_) (fun Y=>?_)
  ·have q1:=Iy (i:=k) (by omega);have q2:=Ji (a:=xC p k) (b:=2^k) (by omega) (by omega);simp only[go_sem,T,e9,J,F,e5,q1,q2,aQ k];refine⟨by omega,⟨k+1,E,rfl,?_⟩,by simp only[aL];omega⟩;rw[avB aa,xC,O,if_pos Y]
  ·simp only[go_sem,T,e9,J,F,e5,aQ k];refine⟨⟨k+1,E,rfl,?_⟩,by simp only[aL];omega⟩;rw[xC,O,if_neg (by rw[Y];simp),Nat.add_zero]
 ·have I:=geB hk I;subst I;simp only[go_sem,e5];exact .refl _
def amY(x:Instance):Nat:=Nd (fun _=>true) x.orders
def zB(x:Instance):Nat:=Nd (fun o=>o.penalty == -1) x.orders
def asQ(o:Order):PC prog 189 [.agg (bJ o)] (boo true):=by refine pcd func189 rfl rfl ?_;simp only[go_sem];exact .refl _
def aqJ(o:Order):PC prog 182 [.agg (bJ o)] (boo (o.penalty == -1)):=by refine pcd func182 rfl rfl ?_;simp only[go_sem];exact .refl _
def arH(x:Instance)(E:x.orders.length<=62):PC prog 123 [.agg (aD x)] (int (amY x:Nat)):=by refine pcd func123 rfl rfl ?_;simp only[go_sem];refine aH (alT x E (by kernel_rfl) fun o _=>asQ o) ?_;simp only[go_sem];exact .refl _
def avV(x:Instance)(E:x.orders.length<=62):PC prog 120 [.agg (aD x)] (int (zB x:Nat)):=by refine pcd func120 rfl rfl ?_;simp only[go_sem];refine aH (alT x E (by kernel_rfl) fun o _=>aqJ o) ?_;simp only[go_sem];exact .refl _
def qY(n:Nat)(set:Int):Bool:=decide (set>=0)&&(set/2^n == 0)
def Ou(x:Instance)(set:Int)(E:x.orders.length<=62):PC prog 68 [.agg (aD x),int set] (boo (qY x.orders.length set)):=by refine pcd func68 rfl rfl ?_;simp only[go_sem];refine⟨by omega,?_⟩;refine cB ?_;rw[wD E];rfl
def Pt{g:Nat}{cap:List AV}{p:Int->Bool}(l:List Int)(hl:l.length<=1048576)(T:aE prog g=true)(hg:∀v∈l,PC prog g (int v::cap) (boo (p v))):
  ∃n:Int,decide (n>=0)=l.any p/\PC prog 231 [.sl (l.map bC),.fn g cap] (int n):=by
 refine⟨match l.findIdx? p with|some i=>(i:Int)|none=> -1,?_,?_⟩
 ·cases h:l.findIdx? p with
  | none=>have:=List.findIdx?_eq_none_iff.1 h;simp only;rw[Xbf.2 (fun x hx=>by rw[this x hx];simp)];rfl
  | some i=>obtain⟨hi,hp,_⟩:=List.findIdx?_eq_some_iff_getElem.1 h;simp only;rw[Xas.2 ⟨l[i],List.getElem_mem hi,hp⟩];simp
 ·
  refine pcd func231 rfl rfl ?_;simp only[go_sem];refine⟨fun ρ H=>∃(k:Nat),k<=l.length/\ρ 0=.sl (l.map bC)/\ρ 1=.fn g cap/\ρ 7=int (l.length:Nat)/\ρ 8=int k/\(∀u∈l.take k,p u=false),fun ρ _=>l.length-aR (ρ 8),⟨0,Xaa _,rfl,rfl,by simp only[go_sem],(by simp only[go_sem];rfl),by simp⟩,?_⟩;rintro ρ H ⟨k,hk,Z,e1,e7,O,I⟩;simp only[go_sem,e7,O];refine aA (fun E=>?_) (fun F=>?_)
  ·have E:=ltB E;obtain⟨u,J⟩:=aK E;have b1:=inB E;simp only[go_sem,Z,e1,O,aC J,b1,T];refine aH (hg u (Xac J)) ?_;simp only[go_sem,];refine aA (fun X=>?_) (fun X=>?_)
   ·simp only[go_sem,];have:l.findIdx? p=some k:=by
     have Y:k<l.length:=E;refine List.findIdx?_eq_some_iff_getElem.2 ⟨Y,?_,fun j hj=>?_⟩
     ·have:=(List.getElem?_eq_some_iff.1 J).2;rw[this];exact X
     ·have:=I l[j] (List.mem_take_iff_getElem.2 ⟨j,by omega,rfl⟩);rw[this];simp
    rw[this];exact .refl _
   ·simp only[go_sem,Z,e1,e7,O,aQ k];exact⟨⟨k+1,E,rfl,gS (p:=fun u=>p u=false) J X I⟩,by simp only[aL];omega⟩
  ·have F:=geB hk F;subst F;rw[Xad]at I;simp only[go_sem];rw[List.findIdx?_eq_none_iff.2 I];exact .refl _
def Hv{g:Nat}{cap:List AV}{p:Int->Bool}(l:List Int)(O:l.length<=1048576)(E:aE prog g=true)(F:∀v∈l,PC prog g (int v::cap) (boo (p v))):
  PC prog 184 [.sl (l.map bC),.fn g cap] (boo (l.any p)):=by
 obtain⟨n,I,J⟩:=Pt l O E F;refine pcd func184 rfl rfl ?_;simp only[go_sem];refine aH J ?_;simp only[go_sem];exact cB I
def nG(l:List Order)(i:Int):Order:=l.getD i.toNat ⟨ByteArray.empty,[],⟨0,0,0,0⟩,⟨0,0,0,0⟩,0,0,0,0,0,false⟩
def kU{l:List Order}{i:Nat}{o:Order}(h:l[i]?=some o):nG l (i:Int)=o:=by simp[nG,List.getD,h]
def KE(l:List Order)(ms:List Int):Prop:=∀i∈ms,0<=i/\i<(l.length:Int)
def Pj(x:Instance)(g:Nat)(q:Order->Int)(i:Int)(T:0<=i/\i<(x.orders.length:Int))(F:aE prog g=true)(O:∀o,PC prog g [.agg (bJ o)] (int (q o))):
  PC prog 185 [int i,.rp [.v (.func (.func g) #[] #[])] 0,.rp (aD x) 0] (boo (decide (q (nG x.orders i)>=0))):=by
 obtain⟨n,rfl⟩:=Int.eq_ofNat_of_zero_le T.1;have E:n<x.orders.length:=by omega
 obtain⟨o,I⟩:=aK E;have J:=inB E;rw[kU I];refine pcd func185 rfl rfl ?_;simp only[go_sem];refine jK (by rfl) (by kernel_rfl) ?_;simp only[go_sem,aC I,J,F];refine⟨_,(O o).q rfl,?_⟩;simp only[go_sem];exact .refl _
def QH(o:Order):PC prog 186 [.agg (bJ o)] (int o.pick.place):=by refine pcd func186 rfl rfl ?_;simp only[go_sem];exact .refl _
def Qx(o:Order):PC prog 187 [.agg (bJ o)] (int o.drop.place):=by refine pcd func187 rfl rfl ?_;simp only[go_sem];exact .refl _
def Gv(x:Instance)(g:Nat)(q:Order->Int)(ms:List Int)(I:KE x.orders ms)(O:ms.length<=1048576)(E:aE prog g=true)(F:∀o,PC prog g [.agg (bJ o)] (int (q o))):
  PC prog 183 [.v (.func (.func g) #[] #[]),.rp [.sl (ms.map bC)] 0,.rp (aD x) 0] (boo (!(ms.any fun i=>decide (q (nG x.orders i)>=0)))):=by
 refine pcd func183 rfl rfl ?_;simp only[go_sem];refine aH (Hv (p:=fun i=>decide (q (nG x.orders i)>=0)) ms O (by kernel_rfl) (fun i J=>Pj x g q i (I i J) E F)) ?_;simp only[go_sem];exact .refl _
def Y4(x:Instance)(ms:List Int):Bool:= !(ms.any fun i=>decide ((nG x.orders i).pick.place>=0))|| !(ms.any fun i=>decide ((nG x.orders i).drop.place>=0))
def Vb(x:Instance)(ms:List Int)(E:KE x.orders ms)(F:ms.length<=1048576):PC prog 121 [.agg (aD x),.sl (ms.map bC)] (boo (Y4 x ms)):=by refine pcd func121 rfl rfl ?_;simp only[go_sem];refine aH (Gv x _ (fun o=>o.pick.place) ms E F (by kernel_rfl) QH) ?_;simp only[go_sem];refine⟨_,fun _=>(Gv x _ (fun o=>o.drop.place) ms E F (by kernel_rfl) Qx).q rfl,?_⟩;simp only[go_sem];exact .refl _
def yI:List Int->List Int->Int->Int×Int
 | n::a,c::l,t=>if n<=0 then yI a l t else if c=0 then(0,24)else yI a l (eN t ((n+c-1).tdiv c))
 | _,_,t=>(t,0)
def Bm(a c:List Int):Int×Int:=if a.length≠c.length then(0,2)else if c.any (fun n=>decide (n<0))=true then(0,2)else yI a c 0
def Mid(n:Int):Prop:= -1099511627776<=n/\n<=1099511627776
def afO(a c:List Int)(hl:a.length<=1048576)(ae:c.length<=1048576)(ha:∀n∈a,Mid n)(hc:∀n∈c,Mid n):
  PC prog 188 [.sl (a.map bC),.sl (c.map bC)] (.tup [int (Bm a c).1,int (Bm a c).2]):=by
 refine pcd func188 rfl rfl ?_;simp only[go_sem];refine aA (fun hb=>?_) (fun hb=>?_)
 ·have hb:a.length≠c.length:=neN hb;simp only[go_sem];rw[show Bm a c=(0,2)from if_pos hb];exact .refl _
 have hb:a.length=c.length:=eqN hb;have e0:Bm a c=if c.any (fun n=>decide (n<0))=true then(0,2)else yI a c 0:=if_neg (by simp[hb])
 rw[e0];simp only[go_sem,Xab];refine⟨fun ρ H=>∃(k:Nat),k<=c.length/\ρ 0=.sl (a.map bC)/\ρ 1=.sl (c.map bC)/\ρ 17=.sl (c.map bC)/\ρ 18=int (c.length:Nat)/\ρ 19=int k/\(∀n∈c.take k,0<=n),fun ρ _=>c.length-aR (ρ 19),⟨0,Xaa _,rfl,rfl,rfl,rfl,(by simp only[go_sem];rfl),by simp⟩,?_⟩;rintro ρ H ⟨k,hk,e0,e1,ab,aa,Z,hz⟩;simp only[go_sem,aa,Z];refine aA (fun E=>?_) (fun F=>?_)
 ·have E:=ltB E;obtain⟨n,I⟩:=aK E;have b1:=inB E;simp only[go_sem,ab,Z,aC I,b1];refine aA (fun J=>?_) (fun J=>?_)
  ·simp only[go_sem];rw[if_pos (CQ I J)];exact .refl _
  ·simp only[go_sem,e0,e1,ab,aa,Z,aQ k];exact⟨⟨k+1,E,rfl,gS I (by simpa using J) hz⟩,by simp only[aL];omega⟩
 have F:=geB hk F;subst F;rw[Xad]at hz;rw[if_neg (by rw[wK fun n I=>by simpa using hz n I];simp)];simp only[go_sem,e0,Xab];refine⟨fun ρ H=>∃(k:Nat) (t:Int),k<=a.length/\ρ 1=.sl (c.map bC)/\ρ 26=.sl (a.map bC)/\ρ 27=int (a.length:Nat)/\ρ 28=int k/\ρ 8=int t/\yI a c 0=yI (a.drop k) (c.drop k) t,fun ρ _=>a.length-aR (ρ 28),⟨0,0,Xaa _,by simp only[go_sem,e1,],by simp only[go_sem,],by simp only[go_sem,],(by simp only[go_sem,];rfl),rfl,rfl⟩,?_⟩;rintro ρ H ⟨k,t,hk,e1,Y,X,O,e8,T⟩;simp only[go_sem,X,O];refine aA (fun E=>?_) (fun F=>?_)
 ·have E:=ltB E;obtain⟨n,I⟩:=aK E;obtain⟨m,hm⟩:=aK (l:=c) (k:=k) (by omega);have b1:=inB E;have b2:=inB (show k<c.length by omega);have ad:=ha n (Xac I);have ac:=hc m (Xac hm);have af:=hz m (Xac hm);unfold Mid at ad ac;rw[Av I,Av hm,yI]at T;simp only[go_sem,e1,Y,O,aC I,aC hm,b1,b2];refine aA (fun J=>?_) (fun J=>?_)
  ·rw[if_pos (by simpa using J)]at T;simp only[go_sem,e1,Y,X,O,e8,aQ k];exact⟨⟨k+1,t,E,rfl,rfl,T⟩,by simp only[aL];omega⟩
  have J:¬n<=0:=by simpa using J
  rw[if_neg J]at T;simp only[go_sem,];refine aA (fun h0=>?_) (fun h0=>?_)
  ·rw[if_pos (by simpa using h0)]at T;rw[T];simp only[go_sem];exact .refl _
  have h0:m≠0:=by simpa using h0
  rw[if_neg h0]at T;have w1:IntKind.i64.wrap (n+m)=n+m:=aU (by omega);have w2:IntKind.i64.wrap (n+m-1)=n+m-1:=aU (by omega);have w3:IntKind.i64.wrap ((n+m-1).tdiv m)=(n+m-1).tdiv m:=aU (by have h1:=Int.tdiv_nonneg (a:=n+m-1) (b:=m) (by omega) (by omega);have h2:=Int.tdiv_le_self m (a:=n+m-1) (by omega);omega);simp only[go_sem,e1,Y,X,O,e8,w1,w2,w3,aQ k];exact⟨h0,⟨k+1,_,E,rfl,rfl,T⟩,by simp only[aL];omega⟩
 ·have F:=geB hk F;subst F;have ea:a.drop a.length=[]:=Xcj;have:yI a c 0=(t,0):=by rw[T,ea];unfold yI;rfl
  rw[this];simp only[go_sem,e8];exact .refl _
def BT(l:List Order)(dim:Nat)(i:Int):Int:=(nG l i).load.getD dim 0
def fP(l:List Order)(ms:List Int)(dim:Nat):Int:=(ms.map (BT l dim)).sum
def lG(l:List VType)(dim:Nat):Int:=l.foldl (fun c t=>eN c (t.cap.getD dim 0)) 0
def xU(x:Instance)(ms:List Int)(dim:Nat):Int:=if(Bm [fP x.orders ms dim] [lG x.types dim]).2≠0 then 0 else(Bm [fP x.orders ms dim] [lG x.types dim]).1
structure LoadsOk(x:Instance)(d:Nat):Prop where
 dims:d<=3
 orders:x.orders.length<=62
 types:x.types.length<=1048576
 load:∀o∈x.orders,o.load.length=d/\∀n∈o.load,0<=n/\n<=1000
 cap:∀t∈x.types,t.cap.length=d/\∀n∈t.cap,0<=n/\n<=1000
def F5{x:Instance}{d dim:Nat}(h:LoadsOk x d)(O:dim<d){i:Int}(J:0<=i/\i<(x.orders.length:Int)):0<=BT x.orders dim i/\BT x.orders dim i<=1000:=by obtain⟨n,rfl⟩:=Int.eq_ofNat_of_zero_le J.1;obtain⟨o,F⟩:=aK (show n<x.orders.length by omega);unfold BT;rw[kU F];obtain⟨h1,I⟩:=h.load o (Xac F);obtain⟨v,E⟩:=aK (show dim<o.load.length by omega);rw[List.getD,E];exact I v (Xac E)
def sI{x:Instance}{d dim:Nat}(h:LoadsOk x d)(E:dim<d):∀{ms:List Int},KE x.orders ms->0<=fP x.orders ms dim/\fP x.orders ms dim<=1000*ms.length
 | [],_=>by simp[fP]
 | i::ms,hm=>by
  have h1:=F5 h E (hm i (by simp));have F:=sI h E (ms:=ms) fun j I=>hm j (by simp[I])
  unfold fP at F |-;rw[Xba,List.sum_cons,Xai];omega
def NQ(l:List Order)(ms:List Int)(i:Int)(dim:Nat):fP l (ms++[i]) dim=fP l ms dim+BT l dim i:=by simp[fP]
def BN(l:List VType)(t:VType)(dim:Nat):lG (l++[t]) dim=eN (lG l dim) (t.cap.getD dim 0):=by simp[lG]
def anO{a b c:Int}(h1:0<=a/\a<=c)(E:0<=b/\b<=c):0<=eN a b/\eN a b<=c:=by unfold eN;split <;> omega
def CK{x:Instance}{d dim:Nat}(h:LoadsOk x d)(O:dim<d):∀k,0<=lG (x.types.take k) dim/\lG (x.types.take k) dim<=1000
 | 0=>by simp[lG]
 | k+1=>by
  have ih:=CK h O k;rcases Xay k x.types.length with I|I
  ·obtain⟨t,F⟩:=aK I;rw[bA F,BN];obtain⟨h1,J⟩:=h.cap t (Xac F);obtain⟨v,E⟩:=aK (show dim<t.cap.length by omega);refine anO ih ?_;rw[List.getD,E];exact J v (Xac E)
  ·rw[Xan (by omega)]at ih |-;exact ih
def anM(x:Instance)(ms:List Int)(dim d:Nat)(h:LoadsOk x d)(hd:dim<d)(hm:KE x.orders ms)(hl:ms.length<=63):
  PC prog 122 [.agg (aD x),.sl (ms.map bC),int dim] (int (xU x ms dim)):=by
 have am:=h.orders;have al:=h.types;refine pcd func122 rfl rfl ?_;simp only[go_sem];refine⟨fun ρ H=>∃(k:Nat),k<=ms.length/\ρ 2=int dim/\ρ 3=.rp (aD x) 0/\ρ 8=int 0/\ρ 15=.sl (ms.map bC)/\ρ 16=int (ms.length:Nat)/\ρ 17=int k/\ρ 7=int (fP x.orders (ms.take k) dim),fun ρ _=>ms.length-aR (ρ 17),⟨0,Xaa _,rfl,rfl,rfl,rfl,rfl,(by simp only[go_sem];rfl),by simp only[go_sem];rfl⟩,?_⟩;rintro ρ H ⟨k,hk,e2,e3,O,aj,aa,ab,Y⟩;simp only[go_sem,aa,ab];refine aA (fun E=>?_) (fun F=>?_)
 ·have E:=ltB E;obtain⟨i,hi⟩:=aK E;have b1:=inB E;have Z:=hm i (Xac hi);have ap:=F5 h hd Z;have aq:=sI h hd (ms:=ms.take k) fun j hj=>hm j (Xco hj)
  have ae:=NQ x.orders (ms.take k) i dim;rw[<-bA hi]at ae;obtain⟨n,rfl⟩:=Int.eq_ofNat_of_zero_le Z.1;have X:n<x.orders.length:=by omega
  obtain⟨o,I⟩:=aK X;obtain⟨ao,an⟩:=h.load o (Xac I);obtain⟨v,hv⟩:=aK (show dim<o.load.length by omega);have ak:BT x.orders dim (n:Int)=v:=by unfold BT;rw[kU I,List.getD,hv];rfl
  have b2:=inB X;have b3:=inB (show dim<o.load.length by omega);have ar:(ms.take k).length<=63:=by rw[Xap];omega
  have w1:IntKind.i64.wrap (fP x.orders (ms.take k) dim+v)=fP x.orders (ms.take (k+1)) dim:=by rw[ae,ak,aU (by omega)]
  simp only[go_sem,e2,e3,O,aj,aa,ab,Y,aC hi,b1,aC I,b2,aC hv,b3,w1,aQ k];exact⟨⟨k+1,E,rfl,rfl⟩,by simp only[aL];omega⟩
 have F:=geB hk F;subst F;rw[Xad]at Y;simp only[go_sem,e3,Xab];refine⟨fun ρ H=>∃(k:Nat),k<=x.types.length/\ρ 2=int dim/\ρ 7=int (fP x.orders ms dim)/\ρ 34=.sl (x.types.map bF)/\ρ 35=int (x.types.length:Nat)/\ρ 36=int k/\ρ 8=int (lG (x.types.take k) dim),fun ρ _=>x.types.length-aR (ρ 36),⟨0,Xaa _,by simp only[go_sem,e2,],Y,by simp only[go_sem,],by simp only[go_sem,],(by simp only[go_sem,];rfl),by simp only[go_sem,O];rfl⟩,?_⟩;rintro ρ H ⟨k,hk,e2,Y,ac,ad,J,O⟩;simp only[go_sem,ad,J];refine aA (fun E=>?_) (fun F=>?_)
 ·have E:=ltB E;obtain⟨t,ht⟩:=aK E;have b1:=inB E;obtain⟨h1,h2⟩:=h.cap t (Xac ht);obtain⟨v,hv⟩:=aK (show dim<t.cap.length by omega);have b3:=inB (show dim<t.cap.length by omega);simp only[go_sem,ac,J,aC ht,b1];refine aN fun j ai=>?_
  simp only[go_sem,];refine cJ ai (by simp[jH]) fun af (R:af j=some (kY t)) N=>?_
  simp only[go_sem,e2,O,R];simp only[go_sem,e2,Y,ac,ad,J,aC hv,b3,aQ k];refine⟨⟨k+1,E,rfl,?_⟩,by simp only[aL];omega⟩;rw[bA ht,BN,List.getD,hv];rfl
 have F:=geB hk F;subst F;rw[Xad]at O;have hL:=sI h hd hm;have hC:=CK h hd x.types.length;rw[Xad]at hC;simp only[go_sem,Y,O];have ah:∀n∈[fP x.orders ms dim],Mid n:=fun n X=>by rw[Xaw.1 X];unfold Mid;omega
 have ag:∀n∈[lG x.types dim],Mid n:=fun n X=>by rw[Xaw.1 X];unfold Mid;omega
 refine aH (afO [fP x.orders ms dim] [lG x.types dim] (by simp) (by simp) ah ag) ?_;unfold xU;generalize Bm [fP x.orders ms dim] [lG x.types dim]=T;simp only[go_sem];refine aA (fun hb=>?_) (fun hb=>?_)
 ·simp only[go_sem];rw[if_pos (by simpa using hb)];exact .refl _
 ·simp only[go_sem];rw[if_neg (by simpa using hb)];exact .refl _
def Al{n:Nat}{set:Int}(h:qY n set=true):∃s:Nat,set=(s:Int)/\s<2^n:=by
 unfold qY at h;simp only[Xak,decide_eq_true_eq,Xav]at h;obtain⟨s,rfl⟩:=Int.eq_ofNat_of_zero_le h.1;refine⟨s,rfl,?_⟩;have F:((2:Int)^n)=((2^n:Nat):Int):=by norm_cast
 have E:=h.2;rw[F]at E;have I:s/2^n=0:=by exact_mod_cast E
 exact(Nat.div_eq_zero_iff_lt (Nat.two_pow_pos n)).1 I
def Lv{n s:Nat}:qY n (s:Int)=decide (s<2^n):=by
 unfold qY;have F:((2:Int)^n)=((2^n:Nat):Int):=by norm_cast
 rw[F,Xar];simp only[Xak,decide_eq_true_eq,Xav];constructor
 ·rintro⟨_,h⟩;have E:s/2^n=0:=by exact_mod_cast h
  exact(Nat.div_eq_zero_iff_lt (Nat.two_pow_pos n)).1 E
 ·intro h;refine⟨by omega,?_⟩;have E:s/2^n=0:=Nat.div_eq_of_lt h
  exact_mod_cast E
def HS{s n:Nat}(h:s<2^n)(Y:n<=62):∀i∈dD (s:Int),0<=i/\i<(n:Int):=by
 intro i J;unfold dD rN at J;obtain⟨j,T,rfl⟩:=Xbe.1 J;obtain⟨F,E⟩:=List.mem_filter.1 T;have X:=Xat.1 F;rw[jF (by omega)]at E;refine⟨by omega,?_⟩;rcases Xay j n with O|I
 ·omega
 ·rw[Xcv (Xbu h (Xau (by decide) I))]at E;cases E
def By(x:Instance)(ms:List Int)(k:Nat):Int:=(List.range k).foldl (fun n dim=>eN n (xU x ms dim)) 1
def FP(x:Instance)(ms:List Int)(k:Nat):By x ms (k+1)=eN (By x ms k) (xU x ms k):=by unfold By;rw[Xbi,Xbm];rfl
def GY(x:Instance)(set:Int):Bool:=decide (set<=0)|| !qY x.orders.length set|| !decide (set.toNat &&& zB x=set.toNat)
def yB(x:Instance)(d:Nat)(set:Int):Int:=if GY x set=true then 0 else if Y4 x (dD set)=false then 1 else By x (dD set) d
def TJ(q:Order->Bool)(l:List Order):Nd q l<2^l.length:=EK _ _
def agL(x:Instance)(d:Nat)(set:Int)(h:LoadsOk x d)(ht:x.types≠[]):PC prog 70 [.agg (aD x),int set] (int (yB x d set)):=by
 have E:=h.orders;have ad:=h.dims;have ae:zB x<2^x.orders.length:=TJ _ _;have ac:2^x.orders.length<=2^62:=Xau (by decide) E;refine pcd func70 rfl rfl ?_;simp only[go_sem];refine⟨_,fun _=>(Ou x set E).q rfl,?_⟩;simp only[go_sem];refine⟨_,fun _=>(avV x E).q rfl,?_⟩;simp only[go_sem];refine⟨boo (decide (set.toNat &&& zB x=set.toNat)),fun hg=>?_,?_⟩
 ·simp at hg;obtain⟨s,rfl,hs⟩:=Al hg.2;exact(ZE s (zB x) (by omega) (by omega)).q rfl
 simp only[go_sem];apply aA <;> intro I
 ·simp only[go_sem];rw[show yB x d set=0 from if_pos I];exact .refl _
 have e0:yB x d set=if Y4 x (dD set)=false then 1 else By x (dD set) d:=if_neg (by unfold GY;rw[I];simp)
 rw[e0];obtain⟨s,rfl,hs⟩:=Al (n:=x.orders.length) (set:=set) (by simp at I;exact I.1.2);have hm:KE x.orders (dD (s:Int)):=HS hs E;have ab:(dD (s:Int)).length<=63:=nU _ _;simp only[go_sem];refine aH (oH s) ?_;simp only[go_sem];refine aH (Vb x (dD s) hm (by omega)) ?_;simp only[go_sem];obtain⟨t,r,F⟩:=List.exists_cons_of_ne_nil ht;have T:((x.types.length:Int) == 0)=false:=by rw[F];rw[beq_eq_false_iff_ne];simp;omega
 simp only[go_sem,T];apply aA <;> intro I
 ·simp only[go_sem];rw[if_pos (by simpa using I)];exact .refl _
 rw[if_neg (by simpa using I)];have b1:=inB (show 0<x.types.length by rw[F];simp);have Z:x.types[0]?=some t:=by rw[F];rfl
 have aa:=aC (f:=bF) Z;have hd:=(h.cap t (by rw[F];simp)).1;subst hd;simp only[go_sem,Xab,aa];refine⟨by omega,?_⟩;refine⟨fun ρ H=>∃(k:Nat),k<=t.cap.length/\ρ 2=.rp (aD x) 0/\ρ 6=.sl ((dD s).map bC)/\ρ 41=int (t.cap.length:Nat)/\ρ 42=int k/\ρ 5=int (By x (dD s) k),fun ρ _=>t.cap.length-aR (ρ 42),⟨0,Xaa _,rfl,rfl,rfl,(by simp only[go_sem];rfl),by simp only[go_sem];rfl⟩,?_⟩;rintro ρ H ⟨k,hk,e2,e6,X,J,e5⟩;simp only[go_sem,X,J];refine jC hk (fun O=>?_) (fun Y=>?_)
 ·simp only[go_sem,e2,e6,J,e5];refine aH (anM x (dD s) k _ h O hm ab) ?_;simp only[go_sem,e2,e6,X,J,aQ k];exact⟨⟨k+1,O,rfl,by rw[FP]⟩,by simp only[aL];omega⟩
 ·subst Y;simp only[go_sem,e5];exact .refl _
def pW(x:Instance)(d:Nat)(one:Cut):Int:=
 if one.kind=1 then(if(!qY x.orders.length one.set|| !((uR 63 one.set.toNat:Nat):Int) == 3)=true then 2 else if one.n≠1 then 27 else 0)
 else if one.kind=2 then(if(!qY x.orders.length one.set||one.set == 0)=true then 2 else if(decide (one.n<1)||decide (one.n>yB x d one.set))=true then 27 else 0)
 else 8
def agK(x:Instance)(d:Nat)(E:Cut)(h:LoadsOk x d)(X:x.types≠[]):PC prog 41 [.agg (aD x),.agg (dS E)] (int (pW x d E)):=by
 have I:=h.orders;refine pcd func41 rfl rfl ?_;simp only[go_sem];unfold pW;apply aA <;> intro h1
 ·rw[if_pos (by simpa using h1)];simp only[go_sem];refine aH (Ou x E.set I) ?_;simp only[go_sem];refine⟨int (uR 63 E.set.toNat:Nat),fun O=>?_,?_⟩
  ·simp at O;obtain⟨s,T,_⟩:=Al O;rw[T];exact(aeV s).q rfl
  simp only[go_sem];apply aA <;> intro F
  ·rw[if_pos (by exact F)];simp only[go_sem];exact .refl _
  rw[if_neg (by rw[show(!qY x.orders.length E.set|| !((uR 63 E.set.toNat:Nat):Int) == 3)=false from F];simp)];simp only[go_sem];apply aA <;> intro F
  ·rw[if_pos (by simpa using F)];simp only[go_sem];exact .refl _
  ·rw[if_neg (by simpa using F)];simp only[go_sem];exact .refl _
 rw[if_neg (by simpa using h1)];simp only[go_sem];apply aA <;> intro J
 ·rw[if_pos (by simpa using J)];simp only[go_sem];refine aH (Ou x E.set I) ?_;simp only[go_sem];apply aA <;> intro F
  ·rw[if_pos (by exact F)];simp only[go_sem];exact .refl _
  rw[if_neg (by rw[show(!qY x.orders.length E.set||E.set == 0)=false from F];simp)];simp only[go_sem];refine dK ?_;simp only[go_sem];refine⟨_,fun _=>(agL x d E.set h X).q rfl,?_⟩;simp only[go_sem];apply aA <;> intro F
  ·rw[if_pos (by exact F)];simp only[go_sem];exact .refl _
  ·rw[if_neg (by rw[show(decide (E.n<1)||decide (E.n>yB x d E.set))=false from F];simp)];simp only[go_sem];exact .refl _
 ·rw[if_neg (by simpa using J)];simp only[go_sem];exact .refl _
def N2(one:Cut):Int×Int:=if one.kind=1 then(1,1)else if one.kind=2 then(3,one.n)else(0,0)
def axE(E:Cut):PC prog 124 [.agg (dS E)] (.tup [int (N2 E).1,int (N2 E).2]):=by
 refine pcd func124 rfl rfl ?_;simp only[go_sem];unfold N2;apply aA <;> intro h1
 ·rw[if_pos (by simpa using h1)];simp only[go_sem];exact .refl _
 rw[if_neg (by simpa using h1)];simp only[go_sem];apply aA <;> intro F
 ·rw[if_pos (by simpa using F)];simp only[go_sem];refine dK ?_;simp only[go_sem];exact .refl _
 ·rw[if_neg (by simpa using F)];simp only[go_sem];exact .refl _
def fD(l:List Int):List AV:=[.sl (l.map bC)]
def jI(ll:List (List Int))(d:Int):Bool:= !(decide (d<0)||decide (d>3))&&ll.all fun l=> !((l.length:Int) != d)
def Ke(ll:List (List Int))(d:Int)(X:ll.length<=1048576):PC prog 240 [.sl (ll.map fD),int d] (boo (jI ll d)):=by
 refine pcd func240 rfl rfl ?_;simp only[go_sem];apply aA <;> intro F
 ·simp only[go_sem];exact cB (by unfold jI;rw[F];rfl)
 have Y:jI ll d=ll.all fun l=> !((l.length:Int) != d):=by unfold jI;rw[F];rfl
 rw[Y];simp only[go_sem];refine⟨fun ρ _=>∃k:Nat,k<=ll.length/\ρ 0=.sl (ll.map fD)/\ρ 1=int d/\ρ 5=int k/\∀l∈ll.take k,((l.length:Int) != d)=false,fun ρ _=>ll.length-aR (ρ 5),⟨0,Xaa _,rfl,rfl,rfl,by simp⟩,?_⟩;rintro ρ H ⟨k,Z,h0,h1,I,J⟩;simp only[go_sem,h0,I];refine jC Z (fun E=>?_) (fun O=>?_)
 ·obtain⟨u,T⟩:=aK E;have b1:=inB E;simp only[go_sem,h0,h1,I,aC T,b1,fD];refine aA (fun F=>?_) (fun F=>?_)
  ·simp only[go_sem];refine cB ?_
   symm
   rw[List.all_eq_false];exact⟨u,Xac T,by rw[F];simp⟩
  ·simp only[go_sem,h0,h1,I,aQ k];exact⟨⟨k+1,E,rfl,gS (p:=fun l:List Int=>((l.length:Int) != d)=false) T F J⟩,by simp only[aL];omega⟩
 ·subst O;rw[Xad]at J;simp only[go_sem];refine cB ?_
  symm
  rw[Xaj];intro l X;rw[J l X];rfl
def lK(ll:List (List Int))(i:Nat):Int:=ll.foldl (fun s l=>IntKind.i64.wrap (s+l.getD i 0)) 0
def zQ{ll:List (List Int)}{k i:Nat}{l:List Int}(h:ll[k]?=some l):lK (ll.take (k+1)) i=IntKind.i64.wrap (lK (ll.take k) i+l.getD i 0):=by unfold lK;rw[bA h,Xbm];rfl
def wF(ll:List (List Int))(d:Int):List Int×Int:=if jI ll d=true then((List.range d.toNat).map (lK ll),0)else([],2)
def CU{ll:List (List Int)}{d:Int}(h:jI ll d=true):0<=d/\d<=3/\∀l∈ll,(l.length:Int)=d:=by simp only[jI,Xak,Xax,Xag,decide_eq_false_iff_not,Xaj]at h;refine⟨by omega,by omega,fun l E=>?_⟩;have:=h.2 l E;simpa using this
def apI(ll:List (List Int))(d:Int)(hl:ll.length<=1048576):PC prog 201 [.sl (ll.map fD),int d] (.tup [.sl ((wF ll d).1.map bC),int (wF ll d).2]):=by
 refine pcb (fun t=>t == 6) func201 rfl rfl ?_;simp only[go_sem];refine aH (Ke ll d hl) ?_;simp only[go_sem];apply aA <;> intro hb
 ·simp only[go_sem];have:wF ll d=([],2):=by unfold wF;rw[if_neg (by simpa using hb)]
  rw[this];exact .refl _
 have T:jI ll d=true:=by simpa using hb
 obtain⟨d0,d3,hd⟩:=CU T;have hs:wF ll d=((List.range d.toNat).map (lK ll),0):=by unfold wF;rw[if_pos T]
 rw[hs];simp only[go_sem];refine aN fun j J=>?_
 simp only[go_sem];refine⟨fun ρ H=>∃i:Nat,i<=d.toNat/\ρ 0=.sl (ll.map fD)/\ρ 1=int d/\ρ 7=int i/\∃j,ρ 6=.os j/\H j=some (⟨3,1,((List.range i).map (lK ll)).map bC⟩:Row),fun ρ _=>d.toNat-aR (ρ 7),⟨0,Xaa _,rfl,rfl,rfl,j,rfl,aB _ _ _⟩,?_⟩;rintro ρ H ⟨i,hi,h0,h1,O,j,Y,J⟩;simp only[go_sem,h1,O];refine aA (fun F=>?_) (fun I=>?_)
 ·have F:i<d.toNat:=by simp at F;omega
  simp only[go_sem];refine⟨fun ρ H=>∃k:Nat,k<=ll.length/\ρ 0=.sl (ll.map fD)/\ρ 1=int d/\ρ 6=.os j/\ρ 7=int i/\ρ 8=int (lK (ll.take k) i)/\ρ 9=int k/\H j=some (⟨3,1,((List.range i).map (lK ll)).map bC⟩:Row),fun ρ _=>ll.length-aR (ρ 9),⟨0,Xaa _,h0,h1,Y,O,by simp only[go_sem];rfl,by simp only[go_sem];rfl,J⟩,?_⟩;rintro ρ H ⟨k,hk,h0,h1,Y,O,Z,h9,J⟩;simp only[go_sem,h0,h9];refine jC hk (fun E=>?_) (fun X=>?_)
  ·obtain⟨u,hu⟩:=aK E;have b1:=inB E;have ab:=hd u (Xac hu);obtain⟨v,hv⟩:=aK (show i<u.length by omega);have b2:=inB (show i<u.length by omega);have aa:u.getD i 0=v:=by simp[List.getD,hv]
   simp only[go_sem,h0,h1,Y,O,Z,h9,aC hu,b1,fD,aC hv,b2,aQ k];refine⟨⟨k+1,E,by rw[zQ hu,aa],rfl,J⟩,by simp only[aL];omega⟩
  ·subst X;rw[Xad]at Z;simp only[go_sem,Y,Z];refine aY J ⟨rfl,rfl⟩ ⟨rfl,trivial⟩ (by simp;omega) (fun j' ac=>?_);simp only[go_sem,h0,h1,O,aQ i];refine⟨⟨i+1,F,rfl,j',rfl,?_⟩,msr F⟩;rw[Xbi,Xam,Xam];exact aB _ _ _
 ·have I:i=d.toNat:=by simp at I;omega
  subst I;simp only[go_sem,Y];exact .tup _ _ (.cons _ _ _ _ (.row _ _ _ J (ConvE.refl _)) (ConvL.refl _))
def asY(i:Nat)(Z:i<=62):PC prog 200 [int i] (int (2^i:Nat)):=by
 refine pcd func200 rfl rfl ?_;simp only[go_sem];refine⟨fun ρ H=>∃(k:Nat),k<=i/\ρ 0=int i/\ρ 4=int k/\ρ 3=int (2^k:Nat),fun ρ _=>i-aR (ρ 4),⟨0,Xaa _,rfl,(by simp only[go_sem];rfl),by simp only[go_sem];rfl⟩,?_⟩;rintro ρ H ⟨k,X,I,T,J⟩;simp only[go_sem,I,T];refine jC X (fun E=>?_) (fun F=>?_)
 ·have Y:(2:Nat)^(k+1)<=2^62:=Xau (by decide) (by omega);have O:(2:Nat)^(k+1)=2*2^k:=by rw[Xbj,Nat.mul_comm]
  have w1:IntKind.i64.wrap (2*((2^k:Nat):Int))=((2^(k+1):Nat):Int):=by rw[O];rw[O]at Y;rw[aU (by omega)];rfl
  simp only[go_sem,I,T,J,w1,aQ k];exact⟨⟨k+1,E,rfl,rfl⟩,by simp only[aL];omega⟩
 ·subst F;simp only[go_sem,J];exact .refl _
def atA(s:Nat)(i:Int)(I:s<2^63):PC prog 140 [int s,int i] (boo (dO s i)):=by
 refine pcd func140 rfl rfl ?_;simp only[go_sem];refine⟨int (2^i.toNat:Nat),fun E=>?_,?_⟩
 ·simp at E;obtain⟨n,rfl⟩:=Int.eq_ofNat_of_zero_le E.1;exact(asY n (by omega)).q rfl
 have J:0<2^i.toNat:=Nat.two_pow_pos _;have w1:IntKind.i64.wrap ((s:Int).tdiv ((2^i.toNat:Nat):Int))=((s/2^i.toNat:Nat):Int):=by have:s/2^i.toNat<=s:=Xcp _ _;rw[show((s:Int).tdiv ((2^i.toNat:Nat):Int))=((s/2^i.toNat:Nat):Int)from rfl];generalize s/2^i.toNat=q at *;exact aU (by omega)
 simp only[go_sem,w1];refine⟨fun _=>by omega,fun _=>by decide,?_⟩;refine cB ?_;unfold dO;have F:((2:Int)^i.toNat)=((2^i.toNat:Nat):Int):=by norm_cast
 rw[F];rfl
def Dv(s:Nat)(X:s<2^63):PC prog 80 [int s] (.sl ((dD s).map bC)):=by
 refine pcb (fun t=>t == 3) func80 rfl rfl ?_;simp only[go_sem];refine aN fun j hj=>?_
 simp only[go_sem];refine⟨fun ρ H=>∃k:Nat,k<=63/\ρ 0=int s/\ρ 4=int k/\∃j,ρ 3=.os j/\H j=some (rE (rN s k)),fun ρ _=>63-aR (ρ 4),⟨0,Xaa _,rfl,by simp only[go_sem];rfl,j,rfl,aB _ _ _⟩,?_⟩;rintro ρ H ⟨k,Z,h0,I,j,J,R⟩;simp only[go_sem,I];refine aA (fun E=>?_) (fun F=>?_)
 ·have E:k<63:=by simp at E;omega
  simp only[go_sem,h0,I];refine aH (atA s k X) ?_;simp only[go_sem];apply aA <;> intro O
  ·simp only[go_sem,I,J];refine aY R ⟨rfl,rfl⟩ ⟨rfl,trivial⟩ (by have:=nU s k;simp[rE];omega) (fun T Y=>?_);simp only[go_sem,h0,I,aQ k];refine⟨⟨k+1,E,rfl,T,rfl,?_⟩,msr E⟩;rw[oB,if_pos O,aB];simp only[rE,Xam,Xba,Xbz];rfl
  ·simp only[go_sem,h0,I,J,aQ k];refine⟨⟨k+1,E,rfl,j,rfl,?_⟩,msr E⟩;rw[oB,if_neg (by rw[O];simp),Xah];exact R
 ·have F:k=63:=by simp at F;omega
  subst F;simp only[go_sem,J];exact .row _ _ _ R (ConvE.refl _)
def V2(l:List Order)(i:Int):Bool:=decide (i>=(l.length:Int))||(nG l i).off|| !((nG l i).penalty == -1)
def Fl(l:List Order)(ms:List Int):Bool:= !ms.any (V2 l)&&decide (0<ms.length)
def acO(x:Instance)(ms:List Int)(hm:∀i∈ms,0<=i)(hl:ms.length<=1048576):PC prog 141 [.agg (aD x),.sl (ms.map bC)] (boo (Fl x.orders ms)):=by
 refine pcd func141 rfl rfl ?_;simp only[go_sem];refine⟨fun ρ H=>∃(k:Nat),k<=ms.length/\ρ 1=.sl (ms.map bC)/\ρ 2=.rp (aD x) 0/\ρ 5=int k/\(∀i∈ms.take k,V2 x.orders i=false),fun ρ _=>ms.length-aR (ρ 5),⟨0,Xaa _,rfl,rfl,(by simp only[go_sem];rfl),by simp⟩,?_⟩;rintro ρ H ⟨k,hk,O,e2,X,Y⟩;simp only[go_sem,O,X];refine jC hk (fun E=>?_) (fun ab=>?_)
 ·obtain⟨i,F⟩:=aK E;have T:=inB E;have aa:=hm i (Xac F);obtain⟨n,rfl⟩:=Int.eq_ofNat_of_zero_le aa;have hg:n<x.orders.length->(x.orders.map bJ).getD n []=bJ (nG x.orders n):=fun h=>by obtain⟨o,ho⟩:=aK h;rw[aC ho,kU ho]
  by_cases hn:n<x.orders.length
  ·have b2:=inB hn;simp only[go_sem,T];refine jK (by rfl) (by kernel_rfl) ?_;simp only[go_sem,O,e2,X,aC F,T,hg hn,b2];refine aA (fun I=>?_) (fun I=>?_)
   ·simp only[go_sem];refine cB ?_;unfold Fl;rw[CQ F I];rfl
   ·simp only[go_sem,O,e2,X,aQ k];exact⟨⟨k+1,E,rfl,gS (p:=fun i=>V2 x.orders i=false) F I Y⟩,by simp only[aL];omega⟩
  ·have J:decide ((n:Int)>=(x.orders.length:Int))=true:=by simp;omega
   have Z:V2 x.orders (n:Int)=true:=by unfold V2;rw[J];rfl
   simp only[go_sem,T];refine jK (by rfl) (by kernel_rfl) ?_;have ac:(x.orders.map bJ).getD n []=[]:=by rw[List.getD,List.getElem?_eq_none (by rw[Xab];omega)];rfl
   have ad:∀b:Bool,wW true (boo b) .any=boo b:=fun b=>by cases b <;> rfl
   simp only[go_sem,O,e2,X,aC F,T,J,ac,List.getD_nil];refine aA (fun I=>?_) (fun I=>by cases I);simp only[go_sem];refine cB ?_;unfold Fl;rw[CQ F Z];rfl
 ·subst ab;rw[Xad]at Y;simp only[go_sem,O,Xab];refine cB ?_;unfold Fl;rw[wK Y,Xar];simp
def Z1(x:Instance)(ms:List Int)(hm:KE x.orders ms)(hl:ms.length<=1048576):PC prog 142 [.agg (aD x),.sl (ms.map bC)] (boo (Y4 x ms)):=by
 refine pcd func142 rfl rfl ?_;simp only[go_sem];unfold Y4;generalize hp:(fun i=>decide ((nG x.orders i).pick.place>=0))=p;generalize hq:(fun i=>decide ((nG x.orders i).drop.place>=0))=q;refine⟨fun ρ H=>∃(k:Nat),k<=ms.length/\ρ 1=.sl (ms.map bC)/\ρ 2=.rp (aD x) 0/\ρ 7=int k/\ρ 5=boo ((ms.take k).any p)/\ρ 6=boo ((ms.take k).any q),fun ρ _=>ms.length-aR (ρ 7),⟨0,Xaa _,rfl,rfl,(by simp only[go_sem];rfl),by simp only[go_sem];rfl,by simp only[go_sem];rfl⟩,?_⟩;rintro ρ H ⟨k,hk,J,e2,e7,e5,e6⟩;simp only[go_sem,J,e7,];refine jC hk (fun E=>?_) (fun O=>?_)
 ·obtain⟨i,F⟩:=aK E;have Y:=inB E;have Z:=hm i (Xac F);obtain⟨n,rfl⟩:=Int.eq_ofNat_of_zero_le Z.1;have hn:n<x.orders.length:=by omega
  obtain⟨o,I⟩:=aK hn;have b2:=inB hn;have T:p (n:Int)=decide (o.pick.place>=0):=by rw[<-hp];simp only[kU I]
  have X:q (n:Int)=decide (o.drop.place>=0):=by rw[<-hq];simp only[kU I]
  simp only[go_sem,Y];refine jK (by rfl) (by kernel_rfl) ?_;simp only[go_sem,J,e2,e7,e5,aC F,Y,aC I,b2];refine jK (by rfl) (by kernel_rfl) ?_;simp only[go_sem,J,e2,e7,e6,aC F,Y,aC I,b2,aQ k];refine⟨⟨k+1,E,rfl,?_,?_⟩,by simp only[aL];omega⟩
  ·rw[bA F,List.any_append,List.any_cons,List.any_nil,T];simp
  ·rw[bA F,List.any_append,List.any_cons,List.any_nil,X];simp
 ·subst O;rw[Xad]at e5 e6;simp only[go_sem,e5,e6];exact .refl _
def Ur(x:Instance)(d dim:Nat)(h:LoadsOk x d)(hd:dim<d):PC prog 144 [.agg (aD x),int dim] (int (lG x.types dim)):=by
 have aa:=h.types;refine pcd func144 rfl rfl ?_;simp only[go_sem];refine⟨fun ρ H=>∃(k:Nat),k<=x.types.length/\ρ 1=int dim/\ρ 2=.rp (aD x) 0/\ρ 6=int k/\ρ 5=int (lG (x.types.take k) dim),fun ρ _=>x.types.length-aR (ρ 6),⟨0,Xaa _,rfl,rfl,(by simp only[go_sem];rfl),by simp only[go_sem];rfl⟩,?_⟩;rintro ρ H ⟨k,hk,X,O,T,J⟩;simp only[go_sem,O,T];refine jC hk (fun E=>?_) (fun Y=>?_)
 ·obtain⟨t,I⟩:=aK E;have b1:=inB E;obtain⟨h1,h2⟩:=h.cap t (Xac I);obtain⟨v,hv⟩:=aK (show dim<t.cap.length by omega);have Z:=inB (show dim<t.cap.length by omega);have F:lG (x.types.take (k+1)) dim=eN (lG (x.types.take k) dim) v:=by rw[bA I,BN,List.getD,hv];rfl
  have ab:decide ((dim:Int)<(t.cap.length:Int))=true:=by simpa using Z.2
  simp only[go_sem,X,O,T,J,aC I,b1,aC hv,Z];refine aA (fun hb=>?_) (fun hb=>?_)
  ·simp only[go_sem,X,O,T,aC I,b1,aC hv,Z,aQ k];refine⟨⟨k+1,E,rfl,?_⟩,by simp only[aL];omega⟩;rw[F];unfold eN;rw[if_pos (by simpa using hb)]
  ·simp only[go_sem,X,O,T,J,aQ k];refine⟨⟨k+1,E,rfl,?_⟩,by simp only[aL];omega⟩;rw[F];unfold eN;rw[if_neg (by simpa using hb)]
 ·subst Y;rw[Xad]at J;simp only[go_sem,J];exact .refl _
def jS(l:List Order)(ms:List Int):List (List Int):=ms.map fun i=>(nG l i).load
def Iz{ll:List (List Int)}{i:Nat}(h:∀l∈ll,0<=l.getD i 0/\l.getD i 0<=1000):∀k,k<=1048576->lK (ll.take k) i=((ll.take k).map fun l=>l.getD i 0).sum/\0<=lK (ll.take k) i/\lK (ll.take k) i<=1000*k
 | 0,_=>by simp[lK]
 | k+1,hk=>by
  have ih:=Iz h k (by omega);rcases Xay k ll.length with E|I
  ·obtain⟨l,F⟩:=aK E;have:=h l (Xac F);have e:lK (ll.take (k+1)) i=lK (ll.take k) i+l.getD i 0:=by rw[zQ F,aU (by omega)]
   refine⟨?_,by omega,by omega⟩;rw[e,bA F,Xam,List.sum_append,ih.1];simp
  ·rw[Xan (by omega)]at ih |-;exact⟨ih.1,ih.2.1,by omega⟩
def ajT(x:Instance)(d:Nat)(s:Nat)(h:LoadsOk x d)(hs:s<2^x.orders.length):
  PC prog 143 [.sl (x.orders.map bJ),int s,int d] (.tup [.sl (((List.range d).map fun dim=>fP x.orders (dD s) dim).map bC),int 0]):=by
 have af:=h.dims;have I:=h.orders;have hm:KE x.orders (dD (s:Int)):=HS hs I;have ah:(dD (s:Int)).length<=63:=nU _ _;have ae:2^x.orders.length<=2^62:=Xau (by decide) I;refine pcb (fun t=>t == 9) func143 rfl rfl ?_;simp only[go_sem];refine⟨_,fun _=>(Gb (d:Int) 0 3).q rfl,?_⟩;have ab:inR (d:Int) 0 3=true:=by unfold inR;simp;omega
 have ad:decide ((s:Int)<0)=false:=by simp
 simp only[go_sem,ab,ad];refine aA (fun hb=>by simp at hb) (fun hb=>?_);simp only[go_sem];refine aH (Dv s (by omega)) ?_;simp only[go_sem];refine aN fun j hj=>?_
 simp only[go_sem];refine⟨fun ρ H=>∃(k:Nat) (j:Nat),k<=(dD (s:Int)).length/\ρ 0=.sl (x.orders.map bJ)/\ρ 2=int d/\ρ 8=.sl ((dD (s:Int)).map bC)/\ρ 10=int k/\ρ 9=.os j/\H j=some (⟨89,1,(jS x.orders ((dD (s:Int)).take k)).map fD⟩:Row),fun ρ _=>(dD (s:Int)).length-aR (ρ 10),⟨0,j,Xaa _,rfl,rfl,rfl,(by simp only[go_sem];rfl),rfl,aB _ _ _⟩,?_⟩;rintro ρ H ⟨k,j,hk,e0,e2,e8,F,e9,R⟩;simp only[go_sem,e8,F];refine jC hk (fun O=>?_) (fun aa=>?_)
 ·obtain⟨i,J⟩:=aK O;have b1:=inB O;have T:=hm i (Xac J);obtain⟨n,rfl⟩:=Int.eq_ofNat_of_zero_le T.1;have hn:n<x.orders.length:=by omega
  obtain⟨o,X⟩:=aK hn;have b2:=inB hn;simp only[go_sem,e0,e8,F,aC J,b1];refine aA (fun hb=>by simp at hb;omega) (fun hb=>?_);simp only[go_sem,e0,e8,F,e9,aC J,b1,aC X,b2];refine aY R ⟨rfl,rfl⟩ ⟨rfl,trivial⟩ (by simp[jS];omega) (fun j' ag=>?_);simp only[go_sem,e0,e2,e8,F,aQ k];refine⟨⟨k+1,j',O,rfl,rfl,?_⟩,by simp only[aL];omega⟩;rw[aB];simp only[jS,bA J,Xam,Xba,Xbz,kU X,fD]
 ·subst aa;rw[Xad]at R;simp only[go_sem,e2,e9];refine PC.useF [j] (.cons _ _ _ _ (.row _ _ _ (by simp only[Xaw,if_true];exact R) (ConvE.refl _)) (.cons _ _ _ _ (.refl _) .nil)) (apI (jS x.orders (dD (s:Int))) (d:Int) (by simp[jS];omega)) ?_;have ac:jI (jS x.orders (dD (s:Int))) (d:Int)=true:=by unfold jI;rw[Xak];refine⟨by simp;omega,Xaj.2 fun l Y=>?_⟩;unfold jS at Y;obtain⟨i,J,rfl⟩:=Xbe.1 Y;have T:=hm i J;obtain⟨n,rfl⟩:=Int.eq_ofNat_of_zero_le T.1;obtain⟨o,X⟩:=aK (show n<x.orders.length by omega);rw[kU X,(h.load o (Xac X)).1];simp
  have Z:wF (jS x.orders (dD (s:Int))) (d:Int)=((List.range d).map fun dim=>fP x.orders (dD (s:Int)) dim,0):=by
   unfold wF;rw[if_pos ac,Xao]
   congr 1
   refine List.map_congr_left fun dim E=>?_
   have E:=Xat.1 E;have:=(Iz (ll:=jS x.orders (dD (s:Int))) (i:=dim) (fun l Y=>by unfold jS at Y;obtain⟨i,J,rfl⟩:=Xbe.1 Y;exact F5 h E (hm i J)) (jS x.orders (dD (s:Int))).length (by simp[jS];omega)).1;rw[Xad]at this;rw[this];unfold jS fP BT;rw[List.map_map];rfl
  rw[Z];simp only[go_sem];exact .refl _
def mQ{s:Nat}{i:Int}:i∈dD (s:Int)↔∃j:Nat,j<63/\s.testBit j=true/\i=(j:Int):=by
 unfold dD rN;rw[Xbe];constructor
 ·rintro⟨j,I,rfl⟩;obtain⟨h1,E⟩:=List.mem_filter.1 I;have F:=Xat.1 h1;rw[jF (by omega)]at E;exact⟨j,F,E,rfl⟩
 ·rintro⟨j,h1,E,rfl⟩;refine⟨j,List.mem_filter.2 ⟨Xat.2 h1,?_⟩,rfl⟩;rw[jF (by omega)];exact E
def Ye{s:Nat}(I:s<2^63):(0<(dD (s:Int)).length)↔0<s:=by
 constructor
 ·intro h;rcases Nat.eq_zero_or_pos s with rfl|h0
  ·obtain⟨i,O⟩:=List.exists_mem_of_length_pos h;obtain⟨j,_,J,_⟩:=mQ.1 O;simp at J
  ·exact h0
 ·intro h;obtain⟨j,F⟩:=Nat.exists_testBit_of_ne_zero (x:=s) (by omega);have E:j<63:=by
   rcases Xay j 63 with h1|h1
   ·exact h1
   ·rw[Xcv (Xbu I (Xau (by decide) h1))]at F;cases F
  exact List.length_pos_of_mem (mQ.2 ⟨j,E,F,rfl⟩)
def ZS{x:Instance}{s:Nat}(hx:x.orders.length<=62)(Y:s<2^63)(h0:0<s):Fl x.orders (dD (s:Int))= !GY x (s:Int):=by
 unfold Fl GY;rw[decide_eq_true ((Ye Y).2 h0),Xbh,Lv,Xao,show decide ((s:Int)<=0)=false by simp;omega,Xca];rw[Xar];simp only[Xax,Xag,Xbw,decide_eq_true_eq,Xbf];have I:∀j:Nat,j<63->(V2 x.orders (j:Int)=false↔(zB x).testBit j=true):=by
  intro j F;unfold zB Nd V2;rw[Du];rcases Xay j x.orders.length with O|aa
  ·obtain⟨o,X⟩:=aK O;rw[kU X,J9 X,decide_eq_true O,show decide ((j:Int)>=(x.orders.length:Int))=false by simp;omega];simp
  ·rw[show decide ((j:Int)>=(x.orders.length:Int))=true by simp;omega,show decide (j<x.orders.length)=false by simp;omega];simp
 have T:∀j,s.testBit j=true->j<63:=fun j F=>by
  rcases Xay j 63 with h1|h1
  ·exact h1
  ·rw[Xcv (Xbu Y (Xau (by decide) h1))]at F;cases F
 constructor
 ·intro h;have J:∀j,s.testBit j=true->(zB x).testBit j=true:=fun j F=>(I j (T j F)).1 (by have:=h (j:Int) (mQ.2 ⟨j,T j F,F,rfl⟩);simpa using this)
  have E:s &&& zB x=s:=by
   apply Nat.eq_of_testBit_eq;intro j;rw[Nat.testBit_and];cases F:s.testBit j with
   | false=>rfl
   | true=>rw[J j F];rfl
  refine⟨?_,E⟩;have ab:zB x<2^x.orders.length:=TJ _ _;have:s &&& zB x<=zB x:=Nat.and_le_right;omega
 ·rintro⟨_,E⟩ i hi;obtain⟨j,h1,Z,rfl⟩:=mQ.1 hi;have h3:(zB x).testBit j=true:=by rw[<-E,Nat.testBit_and]at Z;exact(Bool.and_eq_true_iff.1 Z).2
  simpa using(I j h1).2 h3
def Gw{x:Instance}{d dim:Nat}{ms:List Int}(h:LoadsOk x d)(O:dim<d)(Y:KE x.orders ms):
  0<=xU x ms dim/\(lG x.types dim<1->xU x ms dim=0)/\(1<=lG x.types dim->∀n:Int,0<=n->(xU x ms dim<=n↔fP x.orders ms dim<=n*lG x.types dim))/\xU x ms dim<=fP x.orders ms dim:=by
 have hL:=(sI h O Y).1;have X:=(CK h O x.types.length).1;rw[Xad]at X;unfold xU Bm;generalize fP x.orders ms dim=L at *;generalize lG x.types dim=C at *;have J:([C].any fun n=>decide (n<0))=false:=by simp;exact X
 simp only[Xai,List.length_nil,ne_eq,not_true,if_false,J,Xbg,yI];by_cases h0:L<=0
 ·have:L=0:=by omega
  subst this;simp only[Xbq,if_true];simp;intro E n I;exact⟨fun _=>Int.mul_nonneg I (by omega),fun _=>I⟩
 ·rw[if_neg h0];by_cases E:C=0
  ·rw[if_pos E];simp;omega
  ·rw[if_neg E];have Z:eN 0 ((L+C-1).tdiv C)=(L+C-1)/C:=by have h1:(L+C-1).tdiv C=(L+C-1)/C:=Xce (by omega);have T:0<=(L+C-1)/C:=Int.ediv_nonneg (by omega) (by omega);rw[h1];unfold eN;split <;> omega
   simp only[Z,not_true,if_false];have T:0<=(L+C-1)/C:=Int.ediv_nonneg (by omega) (by omega);refine⟨T,fun h=>by omega,fun h1 n I=>?_,?_⟩
   ·have F:(L+C-1)/C<=n↔(L+C-1)/C<n+1:=by omega
    rw[F,Int.ediv_lt_iff_lt_mul (by omega),Int.add_mul,Int.one_mul];omega
   ·have F:(L+C-1)/C<=L↔(L+C-1)/C<L+1:=by omega
    rw[F,Int.ediv_lt_iff_lt_mul (by omega),Int.add_mul,Int.one_mul];have:L*1<=L*C:=Int.mul_le_mul_of_nonneg_left (by omega) (by omega);omega
def Ox{x:Instance}{d:Nat}{ms:List Int}(h:LoadsOk x d)(E:KE x.orders ms)(F:ms.length<=63):∀k,k<=d->1<=By x ms k/\By x ms k<=63001
 | 0,_=>by simp[By]
 | k+1,hk=>by have ih:=Ox h E F k (by omega);have h1:=Gw h (dim:=k) (by omega) E;have I:=sI h (dim:=k) (by omega) E;rw[FP];unfold eN;split <;> omega
def aaT(x:Instance)(d:Nat)(set:Int)(h:LoadsOk x d)(ht:x.types≠[])(au:set<9223372036854775808):PC prog 81 [.agg (aD x),int set] (int (yB x d set)):=by
 have aa:=h.orders;have ay:=h.dims;have aw:=h.types;obtain⟨t,r,X⟩:=List.exists_cons_of_ne_nil ht;have ae:((x.types.length:Int) == 0)=false:=by rw[X];rw[beq_eq_false_iff_ne];simp;omega
 refine pcd func81 rfl rfl ?_;simp only[go_sem];simp only[go_sem,ae];apply aA <;> intro hb
 ·simp only[go_sem];have:GY x set=true:=by unfold GY;rw[show decide (set<=0)=true by simpa using hb];rfl
  rw[show yB x d set=0 from if_pos this];exact .refl _
 obtain⟨s,rfl⟩:=Int.eq_ofNat_of_zero_le (a:=set) (by simp at hb;omega);have ap:0<s:=by simp at hb;omega
 have Y:s<2^63:=by omega
 simp only[go_sem];refine aH (Dv s Y) ?_;simp only[go_sem];have ah:(dD (s:Int)).length<=63:=nU _ _;refine aH (acO x (dD (s:Int)) (fun i hi=>by obtain⟨j,_,_,rfl⟩:=mQ.1 hi;omega) (by omega)) ?_;rw[ZS aa Y ap];simp only[go_sem];apply aA <;> intro af
 ·simp only[go_sem];rw[show yB x d (s:Int)=0 from if_pos (by simpa using af)];exact .refl _
 have J:GY x (s:Int)=false:=by simpa using af
 have e0:yB x d (s:Int)=if Y4 x (dD (s:Int))=false then 1 else By x (dD (s:Int)) d:=if_neg (by rw[J];simp)
 rw[e0];have ad:s<2^x.orders.length:=by unfold GY at J;simp only[Xag,Xbw]at J;obtain⟨s',az,E⟩:=Al J.1.2;omega
 have hm:KE x.orders (dD (s:Int)):=HS ad aa;simp only[go_sem];refine aH (Z1 x (dD (s:Int)) hm (by omega)) ?_;simp only[go_sem];apply aA <;> intro ac
 ·simp only[go_sem];rw[if_pos (by simpa using ac)];exact .refl _
 rw[if_neg (by simpa using ac)];have b1:=inB (show 0<x.types.length by rw[X];simp);have ak:x.types[0]?=some t:=by rw[X];rfl
 have ao:=aC (f:=bF) ak;have hd:=(h.cap t (by rw[X];simp)).1;subst hd;have al:=ajT x _ s h ad;simp only[go_sem];refine mX [(0,true),(1,true),(2,true),(3,true),(4,true),(5,true),(6,true),(7,true),(8,true),(9,false),(10,true),(11,true),(12,true),(13,true),(14,true)] (by kernel_rfl) ?_;simp only[go_sem,Xab,ao];refine⟨by omega,?_⟩;refine aH al ?_;simp only[go_sem];have ax:((List.range t.cap.length).map fun dim=>fP x.orders (dD (s:Int)) dim).length=t.cap.length:=by simp
 refine⟨fun ρ H=>∃(k:Nat),k<=t.cap.length/\ρ 2=.rp (aD x) 0/\ρ 7=.sl (((List.range t.cap.length).map fun dim=>fP x.orders (dD (s:Int)) dim).map bC)/\ρ 8=int 0/\ρ 9=int k/\ρ 6=int (By x (dD (s:Int)) k),fun ρ _=>t.cap.length-aR (ρ 9),⟨0,Xaa _,rfl,rfl,rfl,(by simp only[go_sem];rfl),by simp only[go_sem];rfl⟩,?_⟩;rintro ρ H ⟨k,hk,e2,Z,e8,O,e6⟩;simp only[go_sem,Z,e8,O];refine aA (fun E=>?_) (fun ab=>?_)
 ·have am:k<t.cap.length:=by simpa using E
  clear E;have E:=am;have hR:=Ox h hm ah (k+1) (by omega);have hK:=Ox h hm ah k (by omega);obtain⟨q0,q1,q2,_⟩:=Gw h E hm;have hL:=sI h E hm;have hC:=CK h E x.types.length;rw[Xad]at hC;have F:=FP x (dD (s:Int)) k;have aj:((List.range t.cap.length).map fun dim=>fP x.orders (dD (s:Int)) dim)[k]?=some (fP x.orders (dD (s:Int)) k):=by rw[List.getElem?_map,List.getElem?_range E];rfl
  have ai:=aC (f:=bC) aj;generalize hG:((List.range t.cap.length).map fun dim=>fP x.orders (dD (s:Int)) dim)=G at *;have bG:0<=(k:Int)/\(k:Int)<(G.length:Int):=by omega
  simp only[go_sem,e2,O];refine aH (Ur x _ k h E) ?_;simp only[go_sem];generalize fP x.orders (dD (s:Int)) k=L at *;generalize lG x.types k=C at *;generalize xU x (dD (s:Int)) k=T at *;apply aA <;> intro hc
  ·have hT:=q1 (by simpa using hc);simp only[go_sem,e2,Z,e8,O,e6,aQ k];refine⟨⟨k+1,E,rfl,?_⟩,msr E⟩;rw[F,hT];unfold eN;rw[if_neg (by omega)]
  have hc:1<=C:=by simp at hc;omega
  simp only[go_sem];refine⟨fun ρ H=>∃out:Int,By x (dD (s:Int)) k<=out/\out<=By x (dD (s:Int)) (k+1)/\ρ 2=.rp (aD x) 0/\ρ 7=.sl (G.map bC)/\ρ 8=int 0/\ρ 9=int k/\ρ 10=int C/\ρ 6=int out,fun ρ _=>(By x (dD (s:Int)) (k+1)).toNat-aR (ρ 6),
   ⟨By x (dD (s:Int)) k,Xbq _,by rw[F];unfold eN;split <;> omega,by simp only[go_sem,e2,],by simp only[go_sem,Z,],by simp only[go_sem,e8,],O,by simp only[go_sem],e6⟩,?_⟩
  clear e2 Z e8 O e6;rintro ρ H ⟨out,av,I,e2,Z,e8,O,ag,e6⟩;have ar:out*C<=63001*1000:=Int.le_trans (Int.mul_le_mul_of_nonneg_right (by omega:out<=63001) (by omega)) (Int.mul_le_mul_of_nonneg_left hC.2 (by omega));have an:0<=out*C:=Int.mul_nonneg (by omega) (by omega);have w1:IntKind.i64.wrap (out*C)=out*C:=aU (by omega);simp only[go_sem,Z,O,ag,e6,ai,bG,w1];apply aA <;> intro hb
  ·have hb:L>out*C:=by simpa using hb
   have hT:¬T<=out:=fun h=>by have:=(q2 hc out (by omega)).1 h;omega
   have w2:IntKind.i64.wrap (out+1)=out+1:=aU (by omega);have aq:out+1<=By x (dD (s:Int)) (k+1):=by rw[F]at I |-;unfold eN at I |-;split at I <;> split <;> omega
   simp only[go_sem,e2,Z,e8,O,ag,e6,w2];exact⟨⟨out+1,by omega,aq,rfl⟩,by simp only[aL];omega⟩
  ·have hb:¬L>out*C:=by simpa using hb
   have hT:T<=out:=(q2 hc out (by omega)).2 (by omega);simp only[go_sem,e2,Z,e8,O,e6,aQ k];refine⟨⟨k+1,E,rfl,?_⟩,msr E⟩;have:out=By x (dD (s:Int)) (k+1):=by rw[F]at I |-;unfold eN at I |-;split at I <;> split <;> omega
   rw[this]
 ·have ab:k=t.cap.length:=by simp at ab;omega
  subst ab;simp only[go_sem,e6];exact .refl _
def Zg{n s:Nat}(J:n<=62)(I:s<2^63):qY n (s:Int)= !((dD (s:Int)).any fun i=>decide (i>=(n:Int))):=by
 rw[Lv,Xar];simp only[Xax,decide_eq_true_eq,Xbf];constructor
 ·intro h i O;have:=HS h J i O;omega
 ·intro h;refine Nat.lt_pow_two_of_testBit _ fun j T=>?_
  cases F:s.testBit j with
  | false=>rfl
  | true=>
   have E:j<63:=by
    rcases Xay j 63 with h1|h1
    ·exact h1
    ·rw[Xcv (Xbu I (Xau (by decide) h1))]at F;cases F
   have:=h (j:Int) (mQ.2 ⟨j,E,F,rfl⟩);omega
def acL(x:Instance)(d:Nat)(E:Cut)(h:LoadsOk x d)(ht:x.types≠[])(af:E.set<9223372036854775808):PC prog 46 [.agg (aD x),.agg (dS E)] (int (pW x d E)):=by
 have Y:=h.orders;refine pcd func46 rfl rfl ?_;simp only[go_sem];unfold pW;apply aA <;> intro h1
 ·have h1:E.kind≠1/\E.kind≠2:=by simpa using h1
  simp only[go_sem];rw[if_neg h1.1,if_neg h1.2];exact .refl _
 have F:E.kind=1\/E.kind=2:=by
  simp at h1;by_cases e:E.kind=1
  ·exact .inl e
  ·exact .inr (h1 e)
 simp only[go_sem];apply aA <;> intro h2
 ·have he:qY x.orders.length E.set=false:=by unfold qY;rw[show decide (E.set>=0)=false by simpa using h2];rfl
  simp only[go_sem];rw[he];rcases F with F|F
  ·rw[if_pos F,if_pos (by rfl)];exact .refl _
  ·rw[if_neg (by omega),if_pos F,if_pos (by rfl)];exact .refl _
 obtain⟨s,hs⟩:=Int.eq_ofNat_of_zero_le (a:=E.set) (by simpa using h2);have O:s<2^63:=by omega
 have ac:(dD (s:Int)).length=uR 63 s:=Jt s 63 (Xaf _);have ae:=Cy 63 s;have ad:=Ye O;have Z:=Zg Y O;rw[hs,Xao,<-ac];simp only[go_sem,hs];refine aH (Dv s O) ?_;simp only[go_sem];refine⟨fun ρ H=>∃(k:Nat),k<=(dD (s:Int)).length/\ρ 2=.rp (aD x) 0/\ρ 3=.rp (dS E) 0/\ρ 5=.sl ((dD (s:Int)).map bC)/\ρ 6=int k/\(∀i∈(dD (s:Int)).take k,decide (i>=(x.orders.length:Int))=false),fun ρ _=>(dD (s:Int)).length-aR (ρ 6),⟨0,Xaa _,rfl,rfl,rfl,(by simp only[go_sem];rfl),by simp⟩,?_⟩;rintro ρ H ⟨k,hk,e2,e3,X,e6,hz⟩;simp only[go_sem,X,e6];refine aA (fun J=>?_) (fun T=>?_)
 ·have J:=ltB J;obtain⟨i,hi⟩:=aK J;have b1:=inB J;simp only[go_sem];refine dK ?_;simp only[go_sem,e2,X,e6,aC hi,b1];apply aA <;> intro I
  ·rw[Z,CQ hi I];simp only[go_sem];rcases F with F|F
   ·rw[if_pos F,if_pos (by rfl)];exact .refl _
   ·rw[if_neg (by omega),if_pos F,if_pos (by rfl)];exact .refl _
  ·simp only[go_sem,e2,e3,X,e6,aQ k];exact⟨⟨k+1,J,rfl,gS (p:=fun i=>decide (i>=(x.orders.length:Int))=false) hi I hz⟩,msr J⟩
 have T:=geB hk T;subst T;rw[Xad]at hz;rw[Z,wK hz];have ag:(dD (s:Int)).length<=63:=nU _ _;simp only[go_sem,e3,];apply aA <;> intro h1
 ·rw[if_pos (by simpa using h1)];simp only[go_sem,X,Xab];apply aA <;> intro I
  ·rw[if_pos (by simpa using I)];simp only[go_sem];exact .refl _
  rw[if_neg (by simpa using I)];simp only[go_sem,e3,];apply aA <;> intro I
  ·rw[if_pos (by simpa using I)];simp only[go_sem];exact .refl _
  ·rw[if_neg (by simpa using I)];simp only[go_sem];exact .refl _
 have h1:E.kind≠1:=by simpa using h1
 rw[if_neg h1,if_pos (F.resolve_left h1)];simp only[go_sem,X,Xab];have aa:(((dD (s:Int)).length:Int) == 0)=((s:Int) == 0):=by rw[Xar,Xav,Xav];omega
 rw[aa];apply aA <;> intro I
 ·rw[if_pos (by rw[I];rfl)];simp only[go_sem];exact .refl _
 rw[if_neg (by rw[I];simp)];have ab:=aaT x d (s:Int) h ht (by omega);simp only[go_sem];refine dK ?_;simp only[go_sem,e2,e3,hs];refine⟨_,fun _=>ab.q rfl,?_⟩;simp only[go_sem];apply aA <;> intro I
 ·rw[if_pos (by exact I)];simp only[go_sem];exact .refl _
 ·rw[if_neg (by rw[show(decide (E.n<1)||decide (E.n>yB x d (s:Int)))=false from I];simp)];simp only[go_sem];exact .refl _
end Nu
namespace Nu
open Go.Nu Go.So
structure Broken where
 cut:Cut
 by_:ByteArray
def NA(x:Broken):List AV:=[.v (.int .i64 x.cut.kind),.v (.int .i64 x.cut.set),.v (.int .i64 x.cut.n),.v (.string x.by_)]
abbrev qW(gf:Nat):AV:=.v (.func (.func gf) #[] #[])
end Nu
namespace Nu
open Go.Proofs.Tryz
open Go.Nu Go.So
abbrev TB:=Broken×Nat
def fs(L:List TB):List Broken:=L.map Prod.fst
structure CmpOk(gf:Nat)(lt:Broken->Broken->Bool)(ok:Broken->Prop):Prop where
 call:aE Tryz.prog gf=true
 cmp:∀x y,ok x->ok y->∃n:Int,decide (n<0)=lt x y/\PC Tryz.prog gf [.agg (NA x),.agg (NA y)] (int n)
end Nu
namespace Nu
open Go.Nu Go.So
section
variable{gf:Nat}{lt:Broken->Broken->Bool}{ok:Broken->Prop}
end
end Nu
namespace Nu
open Go.Nu Go.So
section
variable{gf:Nat}{lt:Broken->Broken->Bool}{ok:Broken->Prop}
end
end Nu
namespace Dec
open Go.Proofs.Tryz
theorem bP{H:aG}{k:IntKind}{a b:Int}(h:a=b):Conv H (.v (.int k a)) (.v (.int k b)):=h▸.refl _
theorem bS{H:aG}{a b:Bool}(h:a=b):Conv H (.v (.bool a)) (.v (.bool b)):=h▸.refl _
def wI(x:Instance)(n:Int):Bool:=decide (n>=0)&&decide (n<(x.orders.length:Int))
def Ci(x:Instance)(n:Int):PC prog 139 [.agg (aD x),int n] (boo (wI x n)):=by refine pcd func139 rfl rfl ?_;simp only[go_sem];exact .refl _
def Ig(x:Instance)(n:Int):PC prog 112 [int n,.rp (aD x) 0] (boo (wI x n)):=by refine pcd func112 rfl rfl ?_;simp only[go_sem];exact .refl _
def eF(x:Instance)(d:Decision):Int:=
 if d.kind=1\/d.kind=2 then(if wI x d.a&&wI x d.b&&d.a != d.b then 0 else 2)
 else if d.kind=5\/d.kind=6 then(if wI x d.a then 0 else 2)
 else if d.kind=3\/d.kind=4 then(if decide (d.a>=0)&&decide (d.a<(x.types.length:Int))&&decide (d.n>=0)&&decide (d.n<=10)then 0 else 2)
 else 8
def O0(x:Instance)(d:Decision):PC prog 64 [.agg (aD x),.agg (aT d)] (int (eF x d)):=by
 refine pcd func64 rfl rfl ?_;simp only[go_sem]
 repeat' (first|(refine aH (Ig _ _) ?_)|(refine⟨_,fun _=>PC.q (Ig _ _) rfl,?_⟩)|(refine⟨_,PC.q (Ig _ _) rfl,?_⟩)|(refine aA (fun E=>?_) (fun E=>?_))|(simp only[go_sem]))
 all_goals (refine bP ?_;(try unfold eF);generalize wI x d.a=p at *;generalize wI x d.b=q at *;cases p <;> cases q <;> simp_all <;> (try omega))
def Rc(x:Instance)(d:Decision):PC prog 79 [.agg (aD x),.agg (aT d)] (int (eF x d)):=by
 refine pcd func79 rfl rfl ?_;simp only[go_sem]
 repeat' (first|(refine aH (Ci _ _) ?_)|(refine⟨_,fun _=>PC.q (Ci _ _) rfl,?_⟩)|(refine⟨_,PC.q (Ci _ _) rfl,?_⟩)|(refine aA (fun E=>?_) (fun E=>?_))|(simp only[go_sem]))
 all_goals (refine bP ?_;(try unfold eF);generalize wI x d.a=p at *;generalize wI x d.b=q at *;cases p <;> cases q <;> simp_all <;> (try omega))
def gZ:List Int->Int
 | []=>0
 | e::r=>if e != 0 then e else gZ r
def oF{l:List Int}{k:Nat}{e:Int}(h:∀e∈l.take k,e=0)(E:l[k]?=some e)(I:(e != 0)=true):gZ l=e:=by
 induction l generalizing k with
 | nil=>simp at E
 | cons a r ih=>
  cases k with
  | zero=>simp at E;subst E;simp only[gZ];rw[if_pos I]
  | succ k=>have h0:=h a (by simp);subst h0;simp only[gZ];exact ih (k:=k) (fun e F=>h e (by simp[F])) (by simpa using E)
def mS{l:List Int}(h:∀e∈l,e=0):gZ l=0:=by
 induction l with
 | nil=>rfl
 | cons a r ih=>have h0:=h a (by simp);subst h0;simp only[gZ];exact ih fun e E=>h e (by simp[E])
def xY{l:List Int}(h:gZ l=0):∀e∈l,e=0:=by
 induction l with
 | nil=>simp
 | cons a r ih=>
  simp only[gZ]at h;split at h
  ·rename_i E;simp at E;exact absurd h E
  ·rename_i E;simp at E;intro e F;rcases Xbc.1 F with rfl|F;exact E;exact ih h e F
def nZ(x:Instance)(l:List Decision):Int:=if decide ((l.length:Int)>1024)then 4 else gZ (l.map (eF x))
def arD(x:Instance)(l:List Decision)(hl:l.length<=1048576):PC prog 36 [.agg (aD x),.sl (l.map aT)] (int (nZ x l)):=by
 refine pcd func36 rfl rfl ?_;simp only[go_sem];apply aA <;> intro T
 ·simp only[go_sem];exact bP (by unfold nZ;rw[if_pos T])
 ·have hc:nZ x l=gZ (l.map (eF x)):=by unfold nZ;rw[if_neg (by rw[T];simp)]
  rw[hc];simp only[go_sem];refine⟨fun ρ _=>∃k:Nat,k<=l.length/\ρ 2=.rp (aD x) 0/\ρ 11=.sl (l.map aT)/\ρ 12=int l.length/\ρ 13=int k/\∀e∈(l.map (eF x)).take k,e=0,fun ρ _=>l.length-aR (ρ 13),⟨0,Xaa _,rfl,rfl,rfl,rfl,by simp⟩,?_⟩;rintro ρ H ⟨k,hk,h2,O,X,I,Y⟩;simp only[go_sem,X,I];refine aA (fun E=>?_) (fun F=>?_)
  ·have E:=aV E;obtain⟨d,Z⟩:=aK E;have b1:=inB E;simp only[go_sem,O,I,aC Z,b1];refine aN fun j hj=>?_
   simp only[go_sem];refine aI (aB _ _ _) (by simp[mL]) ?_;simp only[go_sem,h2,];refine aH (O0 x d) ?_;simp only[go_sem];apply aA <;> intro T
   ·simp only[go_sem];exact bP (oF Y (by simp[Z]) T).symm
   ·simp only[go_sem,h2,O,X,I,aQ k];refine⟨⟨k+1,E,rfl,?_⟩,msr E⟩;rw[bA (x:=eF x d) (by simp[Z])];intro e J;rcases Xbb.1 J with J|J
    ·exact Y e J
    ·simp at J;subst J;simpa using T
  ·have F:=aW hk F;subst F;simp only[go_sem];exact bP (mS (by rw[Xan (by simp)]at Y;exact Y)).symm
def Yr(x:Instance)(l:List Decision)(hl:l.length<=1048576):PC prog 45 [.agg (aD x),.sl (l.map aT)] (int (nZ x l)):=by
 refine pcd func45 rfl rfl ?_;simp only[go_sem];apply aA <;> intro J
 ·simp only[go_sem];exact bP (by unfold nZ;rw[if_pos J])
 ·have hc:nZ x l=gZ (l.map (eF x)):=by unfold nZ;rw[if_neg (by rw[J];simp)]
  rw[hc];simp only[go_sem];refine⟨fun ρ _=>∃k:Nat,k<=l.length/\ρ 2=.rp (aD x) 0/\ρ 1=.sl (l.map aT)/\ρ 5=int k/\∀e∈(l.map (eF x)).take k,e=0,fun ρ _=>l.length-aR (ρ 5),⟨0,Xaa _,rfl,rfl,rfl,by simp⟩,?_⟩;rintro ρ H ⟨k,Z,Y,h1,T,O⟩;simp only[go_sem,h1,T];refine aA (fun E=>?_) (fun F=>?_)
  ·have E:=aV E;obtain⟨d,X⟩:=aK E;have b1:=inB E;simp only[go_sem];refine dK ?_;simp only[go_sem,Y,h1,T,aC X,b1];refine⟨_,(Rc x d).q rfl,?_⟩;simp only[go_sem];apply aA <;> intro J
   ·simp only[go_sem];exact bP (oF O (by simp[X]) J).symm
   ·simp only[go_sem,Y,h1,T,aQ k];refine⟨⟨k+1,E,rfl,?_⟩,msr E⟩;rw[bA (x:=eF x d) (by simp[X])];intro e I;rcases Xbb.1 I with I|I
    ·exact O e I
    ·simp at I;subst I;simpa using J
  ·have F:=aW Z F;subst F;simp only[go_sem];exact bP (mS (by rw[Xan (by simp)]at O;exact O)).symm
def dO(set i:Int):Bool:=decide (i>=0)&&decide (i<=62)&&((set/2^i.toNat)%2 == 1)
def Hj(set i:Int):PC prog 118 [int set,int i] (boo (dO set i)):=Sq.yE set i
def mM(set i:Int):Bool:=(set/2^i.toNat)%2 == 1
def pO(set i:Int)(X:0<=set)(Z:set<=9223372036854775807)(hi:i<=9223372036854775807):PC prog 246 [int set,int i] (boo (mM set i)):=by
 refine pcd func246 rfl rfl ?_;simp only[go_sem];refine⟨fun ρ _=>∃k:Nat,(k:Int)<=max i 0/\ρ 1=int i/\ρ 5=int k/\ρ 0=int (set/2^k),fun ρ _=>i.toNat-aR (ρ 5),⟨0,by omega,rfl,rfl,by simp[Gg,upd]⟩,?_⟩;rintro ρ H ⟨k,hk,h1,T,h0⟩;have E:0<=set/2^k:=Int.ediv_nonneg X (Int.le_of_lt (Int.pow_pos (by decide)));simp only[go_sem,h1,T];refine aA (fun I=>?_) (fun F=>?_)
 ·have I:(k:Int)<i:=by simpa using I
  have Y:IntKind.i64.wrap ((k:Int)+1)=((k+1:Nat):Int):=by rw[aU (by omega)];omega
  simp only[go_sem,h1,T,h0,Y,aL];refine⟨by omega,⟨k+1,by omega,rfl,?_⟩,by omega⟩;rw[Xce E,Int.pow_succ,<-Int.ediv_ediv_of_nonneg (Int.le_of_lt (Int.pow_pos (by decide)))];have J:set/2^k<=set:=Int.ediv_le_self _ X;generalize set/2^k=m at E J;exact congrArg (fun z=>AV.v (Value.int .i64 z)) (aU (by omega))
 ·have F:i<=(k:Int):=by simpa using F
  have O:k=i.toNat:=by omega
  subst O;simp only[go_sem,h0];refine⟨by omega,bS ?_⟩;rw[Xcs E];rfl
def fL(d:Decision)(set:Int):Bool:=
 if d.kind=1 then dO set d.a == dO set d.b else if d.kind=2 then !dO set d.a|| !dO set d.b else if d.kind=6 then !dO set d.a else true
def akR(d:Decision)(set:Int):PC prog 67 [.agg (aT d),int set] (boo (fL d set)):=by
 refine pcd func67 rfl rfl ?_;simp only[go_sem];refine dK ?_
 repeat' (first|(refine aH (Hj _ _) ?_)|(refine⟨_,fun _=>PC.q (Hj _ _) rfl,?_⟩)|(refine⟨_,PC.q (Hj _ _) rfl,?_⟩)|(refine aA (fun E=>?_) (fun E=>?_))|(simp only[go_sem]))
 all_goals (refine bS ?_;unfold fL;simp_all)
def eH(d:Decision)(set:Int):Bool:=
 if d.kind=1 then mM set d.a != mM set d.b else if d.kind=2 then mM set d.a&&mM set d.b else if d.kind=6 then mM set d.a else false
def uX(d:Decision):Prop:=Cj 0 d
def Z0(d:Decision)(set:Int)(T:uX d)(I:0<=set)(E:set<=9223372036854775807):PC prog 204 [.agg (aT d),int set] (boo (eH d set)):=by
 have J:d.a<=9223372036854775807:=T.2.1.2;have F:d.b<=9223372036854775807:=T.2.2.1.2;refine pcd func204 rfl rfl ?_;simp only[go_sem];apply aA <;> intro O
 ·simp only[go_sem];refine dK ?_
  repeat' (first|(refine aH (pO _ _ I E J) ?_)|(refine⟨_,fun _=>PC.q (pO _ _ I E J) rfl,?_⟩)|(refine⟨_,PC.q (pO _ _ I E J) rfl,?_⟩)|(refine aH (pO _ _ I E F) ?_)|(refine⟨_,fun _=>PC.q (pO _ _ I E F) rfl,?_⟩)|(refine⟨_,PC.q (pO _ _ I E F) rfl,?_⟩)|(refine aA (fun O=>?_) (fun O=>?_))|(simp only[go_sem]))
  all_goals (refine bS ?_;unfold eH;generalize mM set d.a=p at *;generalize mM set d.b=q at *;cases p <;> cases q <;> simp_all)
 ·simp only[go_sem]
  repeat' (first|(refine aH (pO _ _ I E J) ?_)|(refine⟨_,fun _=>PC.q (pO _ _ I E J) rfl,?_⟩)|(refine⟨_,PC.q (pO _ _ I E J) rfl,?_⟩)|(refine aH (pO _ _ I E F) ?_)|(refine⟨_,fun _=>PC.q (pO _ _ I E F) rfl,?_⟩)|(refine⟨_,PC.q (pO _ _ I E F) rfl,?_⟩)|(refine aA (fun O=>?_) (fun O=>?_))|(simp only[go_sem]))
  all_goals (refine bS ?_;unfold eH;generalize mM set d.a=p at *;generalize mM set d.b=q at *;cases p <;> cases q <;> simp_all)
def tQ(p:Decision->Bool)(l:List Decision):Bool:=l.all p
theorem AN{α:Type}{p:α->Bool}{l:List α}{k:Nat}{x:α}(F:l[k]?=some x)(E:p x=false):l.all p=false:=by rw[List.all_eq_false];exact⟨x,Xac F,by simp[E]⟩
def Ez{α:Type}{p:α->Bool}{l:List α}(h:∀x∈l.take l.length,p x=true):l.all p=true:=by rw[Xad]at h;rw[Xaj];exact h
def wB{α:Type}{p:α->Bool}{l:List α}{k:Nat}{x:α}(I:l[k]?=some x)(F:p x=true)(h:∀x∈l.take k,p x=true):∀x∈l.take (k+1),p x=true:=by
 rw[bA I];intro y E;rcases Xbb.1 E with E|E
 ·exact h y E
 ·simp at E;subst E;exact F
def aO{α:Type}{p:α->Prop}{l:List α}{k:Nat}{x:α}(I:l[k]?=some x)(F:p x)(h:∀x∈l.take k,p x):∀x∈l.take (k+1),p x:=by
 rw[bA I];intro y E;rcases Xbb.1 E with E|E
 ·exact h y E
 ·simp at E;subst E;exact F
def aiI(l:List Decision)(c:Column)(hl:l.length<=1048576):PC prog 40 [.sl (l.map aT),.agg (aS c)] (boo (l.all fun d=>fL d c.set)):=by
 refine pcd func40 rfl rfl ?_;simp only[go_sem];refine⟨fun ρ _=>∃k:Nat,k<=l.length/\ρ 3=.rp (aS c) 0/\ρ 7=.sl (l.map aT)/\ρ 8=int l.length/\ρ 9=int k/\∀d∈l.take k,fL d c.set=true,fun ρ _=>l.length-aR (ρ 9),⟨0,Xaa _,rfl,rfl,rfl,rfl,by simp⟩,?_⟩;rintro ρ H ⟨k,hk,T,X,Y,I,O⟩;simp only[go_sem,Y,I];refine aA (fun E=>?_) (fun F=>?_)
 ·have E:=aV E;obtain⟨d,J⟩:=aK E;have b1:=inB E;simp only[go_sem,X,I,aC J,b1];refine aN fun j hj=>?_
  simp only[go_sem];refine aI (aB _ _ _) (by simp[mL]) ?_;simp only[go_sem,T,];refine aH (akR d _) ?_;simp only[go_sem];apply aA <;> intro Z
  ·simp only[go_sem];exact bS (AN J (by simpa using Z)).symm
  ·simp only[go_sem,T,X,Y,I,aQ k];exact⟨⟨k+1,E,rfl,wB J (by simpa using Z) O⟩,msr E⟩
 ·have F:=aW hk F;subst F;simp only[go_sem];exact bS (Ez O).symm
def VQ(l:List Decision)(c:Column)(hl:l.length<=1048576)(T:∀d∈l,uX d)(hs:0<=c.set)(O:c.set<=9223372036854775807):PC prog 146 [.sl (l.map aT),.agg (aS c)] (boo (l.all fun d=> !eH d c.set)):=by
 refine pcd func146 rfl rfl ?_;simp only[go_sem];refine⟨fun ρ _=>∃k:Nat,k<=l.length/\ρ 3=.rp (aS c) 0/\ρ 0=.sl (l.map aT)/\ρ 5=int k/\∀d∈l.take k,eH d c.set=false,fun ρ _=>l.length-aR (ρ 5),⟨0,Xaa _,rfl,rfl,rfl,by simp⟩,?_⟩;rintro ρ H ⟨k,hk,Y,h0,J,X⟩;simp only[go_sem,h0,J];refine aA (fun E=>?_) (fun F=>?_)
 ·have E:=aV E;obtain⟨d,I⟩:=aK E;have b1:=inB E;simp only[go_sem];refine dK ?_;simp only[go_sem,Y,h0,J,aC I,b1];refine⟨_,(Z0 d _ (T d (Xac I)) hs O).q rfl,?_⟩;apply aA <;> intro Z
  ·simp only[go_sem];exact bS (AN (p:=fun d=> !eH d c.set) I (by simpa using Z)).symm
  ·simp only[go_sem,Y,h0,J,aQ k];exact⟨⟨k+1,E,rfl,aO (p:=fun d=>eH d c.set=false) I (by simpa using Z) X⟩,msr E⟩
 ·have F:=aW hk F;subst F;simp only[go_sem];exact bS (Ez fun d I=>by rw[X d I];rfl).symm
end Dec
namespace Sq
open Go.Proofs.Tryz
open Go.Proofs.YtpagaknmdfgfkaaGreatDoor.Nu (ltB geB)
open Mv (bP bS aO)
def mO(x:Instance)(i:Int):List Visit:=match x.orders[i.toNat]? with|some o=>cH o i|none=>[]
def Cl(x:Instance)(i:Int):(mO x i).length<=2:=by
 unfold mO;split
 ·unfold cH;rw[Xae];split <;> split <;> simp
 ·exact Xaa _
def X6(x:Instance)(i:Int)(F:0<=i/\i<(x.orders.length:Int)):PC prog 283 [.agg (aD x),int i] (.sl ((mO x i).map aF)):=by obtain⟨o,E⟩:=aK (show i.toNat<x.orders.length by omega);have:=JH x i o F E;unfold mO;rw[E];exact this
def FJ(x:Instance)(o:Int)(l:List Visit)(q:Pair):Bool:=q.b == o&&((decide (q.a<0)||decide (q.a>=(x.orders.length:Int)))|| !iB l (mO x q.a))
def tD(x:Instance)(o:Int)(l:List Visit):Bool:= !x.before.any (FJ x o l)
def Zl(x:Instance)(o:Int)(l:List Visit)(hl:l.length<=1048576)(hb:x.before.length<=1048576):PC prog 282 [.agg (aD x),int o,.sl (l.map aF)] (boo (tD x o l)):=by
 refine pcd func282 rfl rfl ?_;simp only[go_sem];refine⟨fun ρ H=>∃(k:Nat),k<=x.before.length/\ρ 1=int o/\ρ 2=.sl (l.map aF)/\ρ 3=.rp (aD x) 0/\ρ 7=int k/\(∀q∈x.before.take k,FJ x o l q=false),fun ρ _=>x.before.length-aR (ρ 7),⟨0,Xaa _,rfl,rfl,rfl,(by simp only[go_sem];rfl),by simp⟩,?_⟩;rintro ρ H ⟨k,hk,Y,Z,T,X,O⟩;simp only[go_sem,T,X];refine aA (fun E=>?_) (fun F=>?_)
 ·have E:=ltB (by simpa using E);obtain⟨q,J⟩:=aK E;have b1:=inB E;have aa:=Cl x q.a;simp only[go_sem,Y,Z,T,X,aC J,b1];refine⟨by decide,by decide,.nf (.sl ((mO x q.a).map aF)),fun h=>(X6 x q.a (by have:=h.2;simp only[Xag,decide_eq_false_iff_not]at this;omega)).qn,?_⟩;simp only[go_sem];refine⟨boo (iB l (mO x q.a)),fun _=>(Ej l (mO x q.a) hl (by omega)).q rfl,?_⟩;simp only[go_sem];apply aA <;> intro I
  ·have I:FJ x o l q=true:=I;simp only[go_sem];refine bS ?_;unfold tD;rw[Xas.2 ⟨q,Xac J,I⟩];rfl
  ·have I:FJ x o l q=false:=I;simp only[go_sem,Y,Z,T,X,aQ k];exact⟨⟨k+1,E,rfl,aO (p:=fun q=>FJ x o l q=false) J I O⟩,msr E⟩
 have F:=geB hk (by simpa using F);subst F;rw[Xad]at O;simp only[go_sem];refine bS ?_;unfold tD;rw[Xbf.2 (fun q J=>by rw[O q J];simp)];rfl
def FD(a b:Visit):Bool:=decide (a.order<b.order)||((a.order == b.order&& !a.drop)&&b.drop)
def Zq(a b:Visit):PC prog 331 [.agg (aF a),.agg (aF b)] (boo (FD a b)):=by refine pcd func331 rfl rfl ?_;simp only[go_sem];exact .refl _
def BJ(l V:List Visit)(k:Nat):List Visit:=match V[k]? with
 | some v=>if(decide (bM l v<0)&&((k:Int) == 0||decide (bM l (V.getD 0 ⟨0,false⟩)>=0)))=true then[v]else[]
 | none=>[]
def CY(l V:List Visit)(m:Nat):List Visit:=(List.range m).flatMap (BJ l V)
def Ir(x:Instance)(set:Int)(l:List Visit)(i:Nat):Bool:=(!rK set i||O1 x i)|| !tD x i l
def zJ(x:Instance)(set:Int)(l:List Visit)(i:Nat):List Visit:=if Ir x set l i=true then[]else CY l (mO x i) (mO x i).length
def tW(x:Instance)(set:Int)(l:List Visit)(k:Nat):List Visit:=(List.range k).flatMap (zJ x set l)
def yL(x:Instance)(set:Int)(l:List Visit):List Visit:=tW x set l x.orders.length
def JK(l V:List Visit)(m:Nat):CY l V (m+1)=CY l V m++BJ l V m:=by unfold CY;rw[Xbi,Xcd];simp
def CZ(x:Instance)(set:Int)(l:List Visit)(k:Nat):tW x set l (k+1)=tW x set l k++zJ x set l k:=by unfold tW;rw[Xbi,Xcd];simp
def abT(l V:List Visit)(k:Nat):(BJ l V k).length<=1:=by
 unfold BJ;split
 ·split <;> simp
 ·simp
def F0(l V:List Visit):∀m,(CY l V m).length<=m
 | 0=>Xaf _
 | m+1=>by rw[JK,Xae];have:=F0 l V m;have:=abT l V m;omega
def AE(x:Instance)(set:Int)(l:List Visit):∀k,(tW x set l k).length<=2*k
 | 0=>Xaf _
 | k+1=>by
  rw[CZ,Xae];have:=AE x set l k;have E:(zJ x set l k).length<=2:=by
   unfold zJ;split
   ·simp
   ·exact Xal (F0 _ _ _) (Cl _ _)
  omega
def adW(x:Instance)(set:Int)(l:List Visit)(hl:l.length<=1048576)(hb:x.before.length<=1048576)(hx:x.orders.length<=100000):PC prog 241 [.agg (aD x),int set,.sl (l.map aF)] (.sl ((yL x set l).map aF)):=by
 refine pcb (fun t=>t == 7) func241 rfl rfl ?_;simp only[go_sem];refine fI fun j ac ah (R:ac j=some (KG [])) N=>?_
 simp only[go_sem];refine⟨fun ρ H=>∃(k:Nat) (j:Nat),k<=x.orders.length/\ρ 1=int set/\ρ 2=.sl (l.map aF)/\ρ 3=.rp (aD x) 0/\ρ 8=int k/\ρ 7=.os j/\H j=some (KG (tW x set l k)),fun ρ _=>x.orders.length-aR (ρ 8),⟨0,j,Xaa _,rfl,rfl,rfl,(by simp only[go_sem];rfl),rfl,R⟩,?_⟩;rintro ρ H ⟨k,j,hk,e1,T,X,O,e7,R⟩;simp only[go_sem,X,O];refine aA (fun E=>?_) (fun Y=>?_)
 ·have E:=ltB (by simpa using E);obtain⟨o,ho⟩:=aK E;have b1:=inB E;have hs:=CZ x set l k;have aj:=AE x set l k;have ad:O1 x k=o.off:=by unfold O1;rw[ho]
  have af:Ir x set l k=((!rK set k||o.off)|| !tD x k l):=by unfold Ir;rw[ad]
  have hA:zJ x set l k=if Ir x set l k=true then[]else CY l (mO x (k:Nat)) (mO x (k:Nat)).length:=rfl
  rw[hA,af]at hs;generalize tW x set l k=L at *;simp only[go_sem,e1,O];refine aH (Cv set (k:Nat)) ?_;simp only[go_sem,T,X,O,aC ho,b1];refine⟨boo (tD x (k:Nat) l),fun _=>(Zl x (k:Nat) l hl hb).q rfl,?_⟩;simp only[go_sem];apply aA <;> intro hc
  ·rw[if_pos hc,Xah]at hs;simp only[go_sem,e1,T,X,O,e7,aQ k];refine⟨⟨k+1,j,E,rfl,rfl,?_⟩,msr E⟩;rw[hs];exact R
  rw[if_neg (by rw[hc];simp)]at hs;simp only[go_sem,X,O];refine aH (X6 x (k:Nat) (by omega)) ?_;have hV:=Cl x (k:Nat);generalize mO x (k:Nat)=V at *;simp only[go_sem];refine⟨fun ρ H=>∃m j:Nat,m<=V.length/\ρ 1=int set/\ρ 2=.sl (l.map aF)/\ρ 3=.rp (aD x) 0/\ρ 8=int (k:Nat)/\ρ 9=.sl (V.map aF)/\ρ 10=int (m:Nat)/\ρ 7=.os j/\H j=some (KG (L++CY l V m)),fun ρ _=>V.length-aR (ρ 10),⟨0,j,Xaa _,by simp only[go_sem,e1,],by simp only[go_sem,T,],by simp only[go_sem,X,],O,by simp only[go_sem],(by simp only[go_sem];rfl),e7,by simpa[CY]using R⟩,?_⟩;rintro ρ H ⟨m,j,hm,e1,T,X,O,e9,F,e7,R⟩;simp only[go_sem,e9,F,Xab];refine aA (fun I=>?_) (fun Z=>?_)
  ·have I:=ltB (by simpa using I);obtain⟨v,hv⟩:=aK I;obtain⟨v0,ab⟩:=aK (l:=V) (k:=0) (by omega);have b2:=inB I;have b3:(0:Int)<=0/\(0:Int)<((V.length:Nat):Int):=by omega
   have J:=JK l V m;have ai:=F0 l V m;have ag:V.getD 0 ⟨0,false⟩=v0:=by rw[List.getD,ab];rfl
   have ae:BJ l V m=if(decide (bM l v<0)&&((m:Int) == 0||decide (bM l v0>=0)))=true then[v]else[]:=by unfold BJ;rw[hv,ag]
   rw[ae]at J;generalize CY l V m=SM at *;simp only[go_sem,T,e9,F,aC hv,b2];refine aH (sD l v hl) ?_;simp only[go_sem,T,e9,F,aC ab,b3,Xab];refine⟨_,fun _=>(sD l v0 hl).q rfl,?_⟩;simp only[go_sem];apply aA <;> intro aa
   ·rw[if_pos aa]at J;simp only[go_sem,e7,e9,F,aC hv,b2,Xab];refine aY R ⟨rfl,rfl⟩ (by simp only[go_sem]) (by simp;omega) (fun j2 ak=>?_);simp only[go_sem,e1,T,X,O,e9,F,aQ m];refine⟨⟨m+1,j2,I,rfl,rfl,?_⟩,by simp only[aL];omega⟩;rw[J,<-Xaq,aB];exact congrArg some (Kx _ _)
   ·rw[if_neg (by rw[aa];simp),Xah]at J;simp only[go_sem,e1,T,X,e7,O,e9,F,aQ m];refine⟨⟨m+1,j,I,rfl,rfl,?_⟩,by simp only[aL];omega⟩;rw[J];exact R
  have Z:=geB hm (by simpa using Z);subst Z;simp only[go_sem,e1,T,X,e7,O,aQ k];refine⟨⟨k+1,j,E,rfl,rfl,?_⟩,msr E⟩;rw[hs];exact R
 have Y:=geB hk (by simpa using Y);subst Y;simp only[go_sem,e7];exact .row _ _ _ R (ConvE.refl _)
def Ph(u v:Visit):Bool:=u.order == v.order&&(u.drop == v.drop&&true)
def yH:List Visit->List Visit->Bool
 | [],b=>decide (0<b.length)
 | _::_,[]=>false
 | u::l,v::m=>if(!Ph u v)=true then FD u v else yH l m
def T6(a b:List Visit)(h:a=[]\/b=[]):yH a b=decide (a.length<b.length):=by
 rcases h with rfl|rfl
 ·cases b <;> rfl
 ·cases a with
  | nil=>rfl
  | cons u l=>simp[yH]
def ahW(a b:List Visit)(ha:a.length<=1048576)(hb:b.length<=1048576):PC prog 287 [.sl (a.map aF),.sl (b.map aF)] (boo (yH a b)):=by
 refine pcd func287 rfl rfl ?_;simp only[go_sem];refine⟨fun ρ _=>∃k:Nat,k<=a.length/\k<=b.length/\ρ 0=.sl (a.map aF)/\ρ 1=.sl (b.map aF)/\ρ 5=int k/\yH a b=yH (a.drop k) (b.drop k),fun ρ _=>a.length-aR (ρ 5),⟨0,Xaa _,Xaa _,rfl,rfl,(by simp only[go_sem];rfl),rfl⟩,?_⟩;rintro ρ H ⟨k,aa,ab,J,O,T,E⟩;simp only[go_sem,J,O,T,Xab];refine aA (fun Z=>?_) (fun F=>?_)
 ·simp only[Xak,decide_eq_true_eq]at Z;obtain⟨u,Y⟩:=aK (l:=a) (k:=k) (by omega);obtain⟨v,X⟩:=aK (l:=b) (k:=k) (by omega);have b1:=inB (show k<a.length by omega);have b2:=inB (show k<b.length by omega);rw[tT Y,tT X]at E;have E:yH a b=if(!Ph u v)=true then FD u v else yH (a.drop (k+1)) (b.drop (k+1)):=E
  simp only[go_sem];refine dK ?_;simp only[go_sem,J,O,T,aC Y,aC X,b1,b2,Xab];apply aA <;> intro I
  ·have I:(!Ph u v)=true:=I;rw[if_pos I]at E;simp only[go_sem];refine dK ?_;simp only[go_sem,J,O,T,aC Y,aC X,b1,b2,Xab];refine⟨_,(Zq u v).q rfl,?_⟩;simp only[go_sem];exact bS E.symm
  ·have I:(!Ph u v)=false:=I;rw[if_neg (by rw[I];simp)]at E;simp only[go_sem,J,O,T,aQ k];exact⟨⟨k+1,by omega,by omega,rfl,E⟩,by simp only[aL];omega⟩
 ·have F : a.length <= k \/ b.length <= k := by simp only[Bool.and_eq_false_iff,decide_eq_false_iff_not]at F;omega
  have hn:a.drop k=[]\/b.drop k=[]:=by
   rcases F with h|h
   ·exact .inl (Xcc h)
   ·exact .inr (Xcc h)
  rw[T6 _ _ hn,Xbr,Xbr]at E;simp only[go_sem,J,O,Xab];refine bS ?_;rw[E,decide_eq_decide];omega
end Sq
namespace Rx
open Go.Nu Go.So
open Sq (W fX eQ dO NetOk fO)
open Nu (ltB geB Dd B7 mG BB)
open Mv (bP bS aO)
end Rx
end Go.Proofs.YtpagaknmdfgfkaaGreatDoor
section
namespace Go.Aw
end Go.Aw
namespace Go.Proofs.YtpagaknmdfgfkaaGreatDoor.Rx
open Go.Aw Go.Aw.D Go.Proofs Ty Go.Nu Go.So
open Sq (W fX eQ dO NetOk fO)
open Nu (ltB geB Dd B7 mG BB)
open Mv (bP bS aO)
def stR(o:Order)(d:Bool):Stop:=if d=true then o.drop else o.pick
end Go.Proofs.YtpagaknmdfgfkaaGreatDoor.Rx
end
namespace Go.Proofs.YtpagaknmdfgfkaaGreatDoor
open Go.Aw Go.Aw.D Go.Proofs Ty
namespace Rx
open Go.Nu Go.So
open Sq (W fX eQ dO NetOk)
open Nu (ltB geB)
open Mv (bP bS aO)
end Rx
namespace Rx
open Go.Nu Go.So
open Sq (W fX eQ dO NetOk)
def Cw{x:Instance}{o:Nat}(F:o<x.orders.length):fX x.orders (o:Nat)=Sq.gW (fB x o) (o:Nat):=by
 have E:cF ((o:Nat):Int) x.orders.length=false:=by unfold cF;simp;omega
 unfold fX;rw[if_neg (by rw[E];simp)];show(match x.orders[(((o:Nat):Int)).toNat]? with|some o_1=>_|none=>_)=_;rw[Xao,gR F]
end Rx
namespace Rx
open Go.Nu Go.So
open Sq (W fX eQ dO NetOk fO sK)
open Nu (ltB geB Dd B7 mG BB)
open Mv (bP bS aO)
end Rx
namespace Rx
open Go.Nu Go.So
open Sq (W fX eQ dO NetOk)
open Nu (ltB geB)
open Mv (bP bS aO)
end Rx
namespace Rx
open Go.Nu Go.So
open Sq (W fX eQ dO NetOk fO sK)
open Nu (ltB geB Dd B7 mG BB rH)
open Mv (bP bS aO)
end Rx
namespace Rx
open Sq
def adC{x:Instance}(h:Acc x):NetB x.net:=⟨by have:=h.arcs;omega,fun a F=>by have E:=OU (h.arc a F).travel;have:=(h.arc a F).slow;exact⟨by have:=E.len;omega,by omega,fun p I=>by have:=E.pt p I;unfold aqI;omega⟩⟩
def dimN(x:Instance):Nat:=(kL x.types).toNat
end Rx
namespace Rx
open Sq
def both(t:VType)(l:List Clk):List Clk:=l.flatMap fun c=>[c,arI t c]
structure Cr(k:Nat)(cs:List Clk)(R:List Mom):Prop where
 sub:∀c∈cs,(⟨c.ready,c.since⟩:Mom)∈R
 dom:∀m∈R,∃c∈cs,c.ready=m.time/\c.since<=m.driven
 rng:∀m∈R,(0<=m.time/\m.time<=8192)/\ -(12288*(k:Int))<=m.driven/\m.driven<=4096
section
variable{n:Network}{t:VType}{place goal:Int}{k:Nat}{cs:List Clk}{R:List Mom}
end
end Rx
namespace Rx
open Sq
open Go.Nu (wO)
structure Rel(x:Instance)(t:VType)(p:Part)(q:RP):Prop where
 place:p.place=q.place
 memory:p.memory=q.memory
 board:p.board=q.board
 visits:p.visits=q.visits
 load:p.load=q.load
 ll:q.load.length=dimN x
 mem:q.memory<2^x.orders.length
 clk:∃R,Cr p.visits p.clocks R/\q.moms=amM t R
section
variable{x:Instance}{k:Nat}{near:List Int}{du:Option (List ByteArray)}{dl:List ByteArray}{M:Nat}{cn:Int}{lim fnd:Bool}{le:ByteArray}{p:Part}{q:RP}{o:Nat}{d:Bool}
abbrev wOf(x:Instance)(k:Nat)(near:List Int)(du:Option (List ByteArray))(M:Nat):Wk:=⟨x,k,asX x k,near,du,M⟩
end
end Rx
namespace Rx
open Go.Nu
end Rx
namespace Rx
open Sq
open Go.Nu
def arW(w:Wk)(p:Part):List ByteArray:=if(apM w p).2.2=true then[asS w p (apM w p).1 (apM w p).2.1]else[]
def arF(w:Wk)(vs:List Visit):Nat->Part->List ByteArray
 | 0,p=>arW w p
 | f+1,p=>arW w p++vs.flatMap fun v=>if(YA w p v).2=true then arF w vs f (YA w p v).1 else[]
section
variable{x:Instance}{k:Nat}{near:List Int}{du:Option (List ByteArray)}{dl:List ByteArray}{M:Nat}{cn:Int}{lim fnd:Bool}{le:ByteArray}{p p':Part}{q q':RP}{o:Nat}{dr:Bool}{v d:Rat}{miles:Int}
end
end Rx
namespace Rx
open Sq
open Go.Nu
section
variable{x:Instance}{k:Nat}{near:List Int}{du:Option (List ByteArray)}{dl:List ByteArray}{M:Nat}{cn:Int}{lim fnd:Bool}{le:ByteArray}{p p':Part}{q q':RP}{o:Nat}{dr:Bool}{v d:Rat}{miles:Int}
def anB{O:Order}{i:Nat}{v:Visit}(h:v∈gW O (i:Nat)):∃d,v=⟨(i:Nat),d⟩/\(stR O d).place>=0:=by
 unfold gW at h;rcases Xbb.1 h with h|h
 ·split at h
  ·next E=>exact⟨false,by simpa using h,by simpa[stR]using E⟩
  ·cases h
 ·split at h
  ·next E=>exact⟨true,by simpa using h,by simpa[stR]using E⟩
  ·cases h
end
end Rx
namespace Rx
open Sq
open Go.Nu
end Rx
namespace Rx
open Sq
open Go.Nu
section
variable{x:Instance}{k:Nat}{near:List Int}{du:Option (List ByteArray)}{dl:List ByteArray}{M:Nat}{cn:Int}{lim fnd:Bool}{le:ByteArray}{p p':Part}{q q':RP}{o:Nat}{dr:Bool}{v d:Rat}{miles:Int}
def Vis(x:Instance)(v:Visit):Prop:=∃i d,v=⟨(i:Nat),d⟩/\i<x.orders.length/\(stR (fB x i) d).place>=0/\(fB x i).off=false
end
end Rx
namespace Rx
open Sq
open Go.Nu
section
variable{x:Instance}{k:Nat}{near near':List Int}{du du':Option (List ByteArray)}{dl dl':List ByteArray}{M:Nat}{cn:Int}{lim fnd:Bool}{le:ByteArray}{p p':Part}{q q':RP}{o:Nat}{dr:Bool}{v d:Rat}{miles:Int}
end
end Rx
namespace Rx
open Sq
open Go.Nu
section
variable{x:Instance}{k:Nat}{near near':List Int}{du du':Option (List ByteArray)}{dl dl':List ByteArray}{M:Nat}{cn:Int}{lim fnd:Bool}{le:ByteArray}{p q:Part}{a b:RP}{o:Nat}{dr:Bool}{v d:Rat}{miles:Int}{fl:Bool}
end
end Rx
namespace Rx
open Sq
open Go.Nu
section
variable{x:Instance}{k:Nat}{near near':List Int}{du du':Option (List ByteArray)}{dl dl':List ByteArray}{M:Nat}{cn:Int}{lim fnd:Bool}{le:ByteArray}{p q:Part}{a b:RP}{o:Nat}{dr:Bool}{v d:Rat}{miles:Int}{fl:Bool}
end
end Rx
namespace Rx
open Go.Nu Go.So
open Sq (W fX eQ dO NetOk)
open Nu (ltB geB rH)
open Mv (bP bS aO)
end Rx
namespace Rx
open Go.Nu Go.So
open Sq (W fX eQ dO NetOk sK)
open Nu (ltB geB rH)
open Mv (bP bS aO)
abbrev Gk(x:Instance)(k:Nat)(near:List Int)(du:Option (List ByteArray)):List ByteArray:=arF (wOf x k near du (amC x).length) (amC x) (amC x).length (avM (wOf x k near du (amC x).length))
end Rx
namespace Nu.Ps
open Go.Proofs.Tryz
open Go.Nu Go.So
section
variable{gf:Nat}{lt:Priced->Priced->Bool}{ok:Priced->Prop}
set_option maxHeartbeats 8000000 in
theorem O2 (hs:SWO lt) (hc:CmpOk gf lt ok) (P A S:List TB) (y:TB) (a m b j:Nat) (H0:aG) (K:AV->aG->Prop) (ha:a=P.length) (hm:m=a+A.length) (hb:b=m+1) (hA:1<A.length)
    (sA:A.Pairwise (tlt lt)) (rk:Ya A [y]) (ap:∀x∈A,ok x.1) (ak:ok y.1) (hl:P.length+A.length+1+S.length<=1048576) (hj:H0 j=some (fS (fs (P++A++[y]++S))))
    (hK:∀M:List TB,M.Perm (A++[y])->M.Pairwise (tlt lt)->∀r,K r (aM H0 j (some (fS (fs (P++M++S)))))):bK prog 93 [.os j,int a,int m,int b,qW gf] H0 K:=by
    have af:=hc.call
    have aw:(fs (P++A++[y]++S)).length=P.length+A.length+1+S.length:=by simp[fs];omega
    refine bK.body (c:=f93.body.getD .skip) (fun _=>false) mixed func93 rfl (by kernel_rfl) ?_
    unfold f93
    simp only[Xbl]
    simp only[go_sem]
    simp only[go_sem,awM (show a<=m by omega) (by omega)]
    refine aA (fun h1=>by have:=eq_of_beq h1;omega) (fun h1=>?_)
    simp only[go_sem,awM (show m<=b by omega) (by omega)]
    refine aA (fun h2=>?_) (fun h2=>by rw[show b-m=1 by omega]at h2;cases h2)
    simp only[go_sem]
    refine⟨fun ρ H=>∃i Y:Nat,a<=i/\i<=Y/\Y<=m/\(i=a\/∃z,A[i-1-a]?=some z/\lt y.1 z.1=false)/\(Y=m\/∃z,A[Y-a]?=some z/\lt y.1 z.1=true)/\ρ 0=.os j/\ρ 2=int m/\ρ 4=qW gf/\ρ 14=int i/\ρ 15=int Y/\H=H0,fun ρ _=>aR (ρ 15)-aR (ρ 14),
      ⟨a,m,Xaf _,by omega,Xaf _,.inl rfl,.inl rfl,rfl,rfl,rfl,rfl,rfl,rfl⟩,?_⟩
    rintro ρ H ⟨i,Y,a0,al,ay,q1,q2,e0,e2,e4,J,aa,Z⟩
    have ad:H j=some (fS (fs (P++A++[y]++S))):=Z▸hj
    simp only[go_sem,J,aa]
    refine aA (fun F=>?_) (fun T=>?_)
    . have F:=ltB F
      obtain⟨k,hk⟩:∃k,(i+Y)/2=a+k:=⟨(i+Y)/2-a,by omega⟩
      obtain⟨z,O⟩:=aK (l:=A) (k:=k) (by omega)
      obtain⟨n,hn,au⟩:=hc.cmp y.1 z.1 (ak) (ap z (Xac O))
      have g1:=aC (f:=bH) (BS (awQ (A:=A) (S:=S) (show m=P.length+A.length by omega) (show[y][0]?=some y from rfl)))
      simp only[Nat.add_zero]at g1
      have g2:=aC (f:=bH) (BS (awI (B:=[y]) (S:=S) ha O))
      have b1:(0:Int)<=((m:Nat):Int)/\((m:Nat):Int)<((fs (P++A++[y]++S)).length:Int):=by omega
      have b2:(0:Int)<=((a+k:Nat):Int)/\((a+k:Nat):Int)<((fs (P++A++[y]++S)).length:Int):=by omega
      have wh:=apR (i:=i) (k:=Y) (by omega)
      rw[hk]at wh
      simp only[go_sem,J,aa,wh]
      refine⟨by decide,?_⟩
      refine fV [j] [(0,true),(1,true),(2,true),(3,true),(4,true),(5,true),(6,true),(7,true),(8,true),(9,true),(10,true),(11,true)] (by simp[ad]) (by kernel_rfl) fun Hp Hr aq am a4 az=>?_
      have Rp:=(aq j (by simp)).trans ad
      simp only[go_sem,e0,e2,e4,Rp,af,g1,g2,b1,b2]
      refine⟨by omega,by omega,_,au.q rfl,?_⟩
      simp only[go_sem,hn]
      refine gJ fun _ Hm ao an=>?_
      obtain rfl:=Jx ao an am
      refine aA (fun ae=>?_) (fun ae=>?_)
      . simp only[go_sem,e0,e2,e4,aa,mC (show a+k<=4611686018427387904 by omega)]
        exact⟨⟨a+k+1,Y,by omega,by omega,by omega,.inr ⟨z,by rw[show a+k+1-1-a=k by omega];exact O,by simpa using ae⟩,q2,rfl,rfl,Z⟩,by simp only[aL];omega⟩
      . simp only[go_sem,e0,e2,e4,J]
        exact⟨⟨i,a+k,by omega,by omega,by omega,q1,.inr ⟨z,by rw[show a+k-a=k by omega];exact O,by simpa using ae⟩,rfl,rfl,Z⟩,by simp only[aL];omega⟩
    . have T:i=Y:=geB al T
      subst T
      obtain⟨I,A2,X,aj,a5⟩:=RD (l:=A) (n:=i-a) (by omega)
      have ai:(I++y::A2).Pairwise (tlt lt):=by
        refine IS hs (X▸sA) (fun z O=>?_) (fun z O=>?_)
        . rcases q1 with rfl|⟨u,hu,F⟩
          . rw[Nat.sub_self]at aj
            rw[Xbp.1 aj]at O;cases O
          . have ax : 0 < I.length := by
              rcases Nat.eq_zero_or_pos I.length with h0|h0
              . rw[Xbp.1 h0]at O;cases O
              . exact h0
            rw[X,List.getElem?_append_left (by omega),show i-1-a=I.length-1 by omega,<-List.getLast?_eq_getElem?,O]at hu
            have:z=u:=by simpa using hu
            subst this
            exact .inr ⟨F,rk z (by rw[X];exact Xbt _ (List.mem_of_getLast? O)) y (by simp)⟩
        . rcases q2 with rfl|⟨u,hu,F⟩
          . have:A2=[]:=Xbp.1 (by omega)
            rw[this]at O;cases O
          . rw[X,List.getElem?_append_right (by omega),show i-a-I.length=0 by omega,<-List.head?_eq_getElem?,O]at hu
            have:z=u:=by simpa using hu
            subst this
            exact .inl F
      simp only[go_sem,e2]
      refine⟨fun ρ H=>∃R' Q:List TB,A2=R'++Q/\ρ 0=.os j/\ρ 14=int i/\ρ 17=int (i+R'.length:Nat)/\H=aM H0 j (some (fS (fs (P++I++R'++y::Q++S)))),fun ρ _=>aR (ρ 17),
        ⟨A2,[],by simp,e0,J,by simp only[go_sem];rw[show m=i+A2.length by omega],by
          have:P++I++A2++[y]++S=P++A++[y]++S:=by rw[X];simp
          rw[this,Z];exact(mU hj).symm⟩,?_⟩
      clear e0 e2 e4 J aa ad Z
      rintro ρ H ⟨R',Q,hQ,e0,J,ab,hH⟩
      have ar:R'.length+Q.length=A2.length:=by rw[hQ,Xae]
      have R:H j=some (fS (fs (P++I++R'++y::Q++S))):=by rw[hH];exact aB _ _ _
      simp only[go_sem,J,ab]
      rcases List.eq_nil_or_concat R' with rfl|⟨E,z,rfl⟩
      . simp only[List.length_nil,Nat.add_zero]at ab
        refine aA (fun F=>by simp at F) (fun T=>?_)
        rw[Xbn]at hQ
        simp only[go_sem]
        have:P++I++[]++y::Q++S=P++(I++y::A2)++S:=by rw[hQ];simp
        rw[hH,this]
        refine hK _ ?_ ai _
        rw[X]
        refine List.perm_middle.trans ?_
        exact(List.perm_append_singleton y _).symm
      . rw[List.concat_eq_append]at *
        simp only[Xae,List.length_singleton]at ar ab
        refine aA (fun F=>?_) (fun T=>by simp at T;omega)
        have ah:(fs (P++I++(E++[z])++y::Q++S))[i+E.length+1]?=some y.1:=by
          refine BS ?_
          rw[show i+E.length+1=P.length+(I.length+(E.length+1))by omega]
          simp only[Xaq];rw[List.getElem?_append_right (by omega),List.getElem?_append_right (by omega),List.getElem?_append_right (by omega)];simp
        have ag:(fs (P++I++(E++[z])++y::Q++S))[i+E.length]?=some z.1:=by
          refine BS ?_
          rw[show i+E.length=P.length+(I.length+E.length)by omega]
          simp only[Xaq];rw[List.getElem?_append_right (by omega),List.getElem?_append_right (by omega),List.getElem?_append_right (by omega)];simp
        have av:(fs (P++I++(E++[z])++y::Q++S)).length=P.length+A.length+1+S.length:=by simp[fs];omega
        have b1:(0:Int)<=((i+E.length+1:Nat):Int)/\((i+E.length+1:Nat):Int)<((fs (P++I++(E++[z])++y::Q++S)).length:Int):=by omega
        have b2:(0:Int)<=((i+E.length:Nat):Int)/\((i+E.length:Nat):Int)<((fs (P++I++(E++[z])++y::Q++S)).length:Int):=by omega
        have g1:=aC (f:=bH) ah
        have g2:=aC (f:=bH) ag
        have ac:ρ 17=int ((i+E.length+1:Nat):Int):=ab
        have w1:IntKind.i64.wrap (((i+E.length+1:Nat):Int)-1)=((i+E.length:Nat):Int):=by rw[aU (by omega)];omega
        simp only[go_sem,]
        refine Co [] (.q 0 (.q 1 (.q 2 (.q 3 (.q 4 (.q 5 (.q 6 (.q 7 (.q 10 (.q 11 (.a2 8 (.a2 9 (.a1 12 (.a1 13 (.a1 14 (.a1 15 (.a1 16 (.a1 17 (.nil))))))) 12 (.a2 9 (.a1 13 (.a1 14 (.a1 15 (.a1 16 (.a1 17 (.nil)))))) 13 (.a1 9 (.a1 14 (.a1 15 (.a1 16 (.a1 17 (.nil)))))))) 12 (.a2 8 (.a2 9 (.a1 13 (.a1 14 (.a1 15 (.a1 16 (.a1 17 (.nil)))))) 13 (.a1 9 (.a1 14 (.a1 15 (.a1 16 (.a1 17 (.nil))))))) 13 (.a1 8 (.a1 9 (.a1 14 (.a1 15 (.a1 16 (.a1 17 (.nil))))))))))))))))))) (by simp) (by kernel_rfl) fun Hp Hr _ hr _ _=>?_
        obtain rfl:Hr=H:=funext fun i=>hr i (by simp)
        simp only[go_sem,e0,ac,w1,]
        repeat' (first|(refine tL ?_ ?_)|(refine⟨by omega,?_⟩)|(refine aI R ⟨by rw[Xab];omega,dW _,by rw[dW];exact Xaf 8⟩ ?_)|(refine aI (aB _ _ _) ⟨by rw[Xcb,Xab];omega,dW _,by rw[dW];exact Xaf 8⟩ ?_)|(refine gJ fun _ Hm _ hm=>?_;obtain rfl:Hm=_:=funext fun i=>hm i (by simp))|(simp only[go_sem,e0,J,ac,w1,R,b1,b2,g1,g2,Xcb,Xab,rB,Xah]))
        all_goals refine⟨⟨E,z::Q,by rw[hQ];simp,rfl,(Xz ah ag (by omega) hH).trans ?_⟩,by simp only[aL,Xae,List.length_singleton];omega⟩
        all_goals congr 2
        all_goals rw[QB _ _ _ (by omega)]
        all_goals have:=P3 (U:=fs (P++I++E)) (W:=fs (Q++S)) (x:=z.1) (y:=y.1) (i:=i+E.length) (j:=i+E.length+1) (by rw[N1,Xae,Xae];omega) (by rw[N1,Xae,Xae];omega)
        all_goals simp only[fs,Xam,Xba,Xaq,Xch,Xbn]at this |-
        all_goals exact congrArg fS this
set_option maxHeartbeats 4000000 in
theorem Uc (hs:SWO lt) (hc:CmpOk gf lt ok) (l:List Priced) (j:Nat) (H0:aG) (K:AV->aG->Prop) (hl:l.length<=21) (an:∀x∈l,ok x) (hj:H0 j=some (fS l))
    (hK:∀r,K r (aM H0 j (some (fS (yN lt l))))):bK prog 52 [.os j,int l.length,qW gf] H0 K:=by
  have ab:∀x∈tag l,ok x.1:=fun x J=>an x.1 (by
    have:=List.mem_map_of_mem (f:=Prod.fst) J
    rwa [OZ]at this)
  have ak:=anU l
  refine bK.body (c:=f52.body.getD .skip) (fun _=>false) mixed func52 rfl (by kernel_rfl) ?_
  unfold f52
  simp only[Xbl]
  simp only[go_sem]
  refine⟨fun ρ H=>∃M I X:List TB,I++X=tag l/\M.Perm I/\M.Pairwise (tlt lt)/\(I.length=0\/I.length=20)/\ρ 0=.os j/\ρ 1=int l.length/\ρ 2=qW gf/\ρ 6=int 20/\ρ 7=int I.length/\ρ 8=int (I.length+20:Nat)/\H=aM H0 j (some (fS (fs (M++X)))),fun ρ _=>l.length+1-aR (ρ 7),
    ⟨[],[],tag l,rfl,.refl _,List.Pairwise.nil,.inl rfl,rfl,rfl,rfl,rfl,by simp only[go_sem];rfl,by simp only[go_sem];rfl,by
      have:fs ([]++tag l)=l:=OZ l
      rw[this];exact(mU hj).symm⟩,?_⟩
  rintro ρ H ⟨M,I,X,F,hM,sM,av,e0,E,Y,Z,e7,e8,T⟩
  have am:I.length+X.length=l.length:=by rw[<-ak,<-F,Xae]
  have ag:=hM.length_eq
  have R:H j=some (fS (fs (M++X))):=by rw[T];exact aB _ _ _
  have af:X.Pairwise fun p q=>p.2<q.2:=(List.pairwise_append.1 (F▸avH l)).2.1
  have O:∀x∈X,ok x.1:=fun x J=>ab x (by rw[<-F];exact Xcw _ J)
  simp only[go_sem,E,e7,e8]
  refine aA (fun aa=>?_) (fun aj=>?_)
  . have aa:I.length+20<=l.length:=by simp at aa;omega
    obtain rfl:I=[]:=Xbp.1 (by omega)
    obtain rfl:M=[]:=Xbp.1 ag
    obtain⟨X1,X2,hX,ah,au⟩:=RD (l:=X) (n:=20) (by rw[List.length_nil]at *;omega)
    simp only[go_sem,e0,Y,e7,e8]
    refine Gs hs hc [] X1 X2 0 (0+20) j H _ rfl (by omega) ((List.pairwise_append.1 (hX▸af)).1) (fun x J=>O x (by rw[hX];exact Xbt _ J)) (by simp only[Xae,List.length_nil];simp only[List.length_nil]at am;omega) (by rw[R,hX,Xaq]) fun N hp hN r=>?_
    simp only[go_sem,e0,E,Y,Z,e8]
    refine⟨⟨N,X1,X2,by rw[<-F,hX,Xbn],hp,hN,.inr ah,?_,?_,?_⟩,?_⟩
    . rw[ah]
    . rw[ah];rfl
    . rw[T,sE]
    . simp only[aL];omega
  . have aj:l.length<I.length+20:=by simp at aj;omega
    simp only[go_sem,e0,E,Y,e7]
    refine Gs hs hc M X [] I.length l.length j H _ ag.symm (by omega) af O (by simp only[Xae,List.length_nil];omega) (by rw[R,Xah]) fun N hp hN r=>?_
    have aq:=hp.length_eq
    have ai:Ya M N:=fun x J y hy=>Ze F x (hM.mem_iff.1 J) y (hp.mem_iff.1 hy)
    rw[Xah,T,sE]
    clear R T
    simp only[go_sem,]
    refine⟨fun ρ H=>∃(bs:Nat) (A B:List TB),(A++B).Perm (tag l)/\A.Pairwise (tlt lt)/\B.Pairwise (tlt lt)/\Ya A B/\(bs=20/\(A.length=0\/A.length=20)/\l.length<A.length+20\/bs=40/\B.length=0)/\ρ 0=.os j/\ρ 1=int l.length/\ρ 2=qW gf/\ρ 6=int bs/\H=aM H0 j (some (fS (fs (A++B)))),fun ρ _=>l.length-aR (ρ 6),
      ⟨20,M,N,by rw[<-F];exact hM.append hp,sM,hN,ai,.inl ⟨rfl,by omega,by omega⟩,e0,E,Y,by simp only[go_sem,Z];rfl,rfl⟩,?_⟩
    clear e0 E Y Z e7 e8 ai aq hp hN sM hM ag F af O
    rintro ρ H ⟨bs,A,B,hp,sA,sB,rk,aw,e0,E,Y,Z,T⟩
    have ao:A.length+B.length=l.length:=by rw[<-ak,<-hp.length_eq,Xae]
    have ad:∀x∈A++B,ok x.1:=fun x J=>ab x (hp.mem_iff.1 J)
    simp only[go_sem,E,Z]
    refine aA (fun al=>?_) (fun ac=>?_)
    . have al:=ltB al
      obtain⟨rfl,h1,h2⟩:bs=20/\A.length=20/\B.length=1:=by omega
      obtain⟨y,rfl⟩:∃y,B=[y]:=List.length_eq_one_iff.1 h2
      have ae:l.length=21:=by rw[<-ao,h1];rfl
      rw[ae]at E
      simp only[go_sem,Z]
      refine⟨fun ρ H=>ρ 0=.os j/\ρ 1=int 21/\ρ 2=qW gf/\ρ 6=int 20/\ρ 7=int 0/\ρ 8=int 40/\H=aM H0 j (some (fS (fs (A++[y])))),fun _ _=>0,
        ⟨e0,by simp only[go_sem,E];rfl,Y,by simp only[go_sem,Z];rfl,rfl,by simp only[go_sem];rfl,T⟩,?_⟩
      clear e0 E Y Z T
      rintro ρ H ⟨e0,E,Y,Z,e7,e8,T⟩
      simp only[go_sem,E,e8]
      refine aA (fun aa=>by cases aa) (fun ar=>?_)
      simp only[go_sem,E,Z,e7]
      refine aA (fun hm=>?_) (fun hm=>by cases hm)
      simp only[go_sem,e0,E,Y,e7]
      refine O2 hs hc [] A [] y 0 20 21 j H _ rfl (by omega) rfl (by omega) sA rk (fun x J=>ad x (by simp[J])) (ad y (by simp)) (by rw[h1];decide) (by rw[T,aB,Xbn,Xah]) fun N ap hN r=>?_
      simp only[go_sem,e0,E,Y,Z]
      refine⟨⟨40,N,[],by rw[Xah];exact ap.trans hp,hN,List.Pairwise.nil,fun x _ z hz=>(by cases hz),.inr ⟨rfl,rfl⟩,by rw[ae];rfl,rfl,by rw[T,sE,Xah]⟩,by rw[ae];decide⟩
    . have ac:l.length<=bs:=by simp at ac;omega
      simp only[go_sem]
      rw[T]
      have:=abM hs hp (by
        rcases(show A.length=0\/B.length=0 by omega)with h|h
        . rw[Xbp.1 h];exact sB
        . rw[Xbp.1 h,Xah];exact sA)
      unfold fs
      rw[this]
      exact hK _
def JY(J:SWO lt)(O:CmpOk gf lt ok)(l:List Priced)(j:Nat)(H0:aG)(K:AV->aG->Prop)(T:l.length<=21)(E:∀x∈l,ok x)(F:H0 j=some (fS l))
  (I:∀r,K r (aM H0 j (some (fS (yN lt l))))):bK prog 25 [.os j,qW gf] H0 K:=by
 refine bK.body (c:=f25.body.getD .skip) (fun _=>false) mixed func25 rfl (by kernel_rfl) ?_;unfold f25;simp only[Xbl];simp only[go_sem];simp only[go_sem,F,Xab];refine Uc J O l j H0 _ T E F fun r=>?_
 simp only[go_sem];exact I _
end
end Nu.Ps
end Go.Proofs.YtpagaknmdfgfkaaGreatDoor
section
namespace Go.Aw.D
open Go.Aw Go.RowKit Go.Proofs Go.Proofs.YtpagaknmdfgfkaaGreatDoor Go.WideShapes Go.ChangeShapes
theorem apL{H:Type}{e:TypeId×Value->H}{P:Program}{W:World}{t:TypeId}{r:Reach}{T:Nat}{v:Value}{d:DataW H}{Y:List MemPlace}(F:P.underlying t=some (.int .i64))
  (E:Value.okWide P W r T t v) (O:DataW.Trod e P W 0 (fun _=>true) true t v d Y):∃x:Int,rep (Sw W) W (.v (.int .i64 x)) v/\∀n,BK H d<=n->lN n x:=by
 obtain⟨x,rfl⟩:=okWide_int F E;obtain⟨I,h⟩:=O;obtain⟨n,h1,_,J⟩:=DataW.trod_int F h;have X:(Value.int .i64 x)=.int .i64 n:=by have:(Value.cells (.int .i64 x))=#[.int .i64 x]:=rfl;rw[this]at h1;simpa using h1
 cases X;exact⟨x,by simp only[rep],fun _ _=>bounds_i64 J⟩
def Pe:List (String×DataW Unit):=[("math/bits.deBruijn32tab",Go.Proofs.YtpagaknmdfgfkaaGreatDoor.Rows.laid_math_bits_deBruijn32tab),("math/bits.deBruijn64tab",Go.Proofs.YtpagaknmdfgfkaaGreatDoor.Rows.laid_math_bits_deBruijn64tab),("internal/strconv.uint64pow10",Go.Proofs.YtpagaknmdfgfkaaGreatDoor.Rows.laid_internal_strconv_uint64pow10)]
theorem ajO:(Go.Proofs.YtpagaknmdfgfkaaGreatDoor.Rows.laid_math_bits_deBruijn64tab:DataW Unit)=Lib.tabData .u8 (Lib.deBruijn64tab.map fun z:Nat=>(z:Int)):=by kernel_rfl
theorem agR:(Go.Proofs.YtpagaknmdfgfkaaGreatDoor.Rows.laid_internal_strconv_uint64pow10:DataW Unit)=Lib.tabData .u64 Lib.pow10Tab:=by kernel_rfl
theorem aaG{W:World}(h:laidMetH Tryz.prog Pe W):Od W:=by
 have h0:laidMet Tryz.prog Pe W:=(Go.MakeChecks.laidMetH_plain Tryz.prog Pe W (by kernel_rfl))▸h;have h1:=laidMet.tail h0;have F:=laidMet.tail h1;rw[ajO]at h1;rw[agR]at F;have b:=Lib.tabIs_of_head (g:=3) (by kernel_rfl) (by kernel_rfl) (t:=387) (e:=5) (n:=64) Tryz.underlying387 Tryz.underlying5 (by kernel_rfl) (by kernel_rfl) h1;have p:=Lib.tabIs_of_head (g:=1) (by kernel_rfl) (by kernel_rfl) (t:=364) (e:=341) (n:=20) Tryz.underlying364 Tryz.underlying341 (by kernel_rfl) (by kernel_rfl) F;unfold Lib.TabIs World.var? at b p;rw[show Tryz.prog.globalNamed "math/bits.deBruijn64tab" = some 3 by kernel_rfl]at b;rw[show Tryz.prog.globalNamed "internal/strconv.uint64pow10" = some 1 by kernel_rfl]at p;intro t E;simp only[aaH,List.mem_cons,List.not_mem_nil,or_false]at E;rcases E with rfl|rfl
 . exact p
 . have:WF=((Lib.deBruijn64tab.map fun z:Nat=>(z:Int)).map fun z=>Value.int .u8 z).toArray:=by simp[WF]
   rw[this];exact b
end Go.Aw.D
end
