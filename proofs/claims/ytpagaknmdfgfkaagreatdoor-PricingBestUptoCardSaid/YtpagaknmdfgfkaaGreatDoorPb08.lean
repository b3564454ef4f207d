import Derived.Lib.ItoaMem
import Derived.Test.YtpagaknmdfgfkaaGreatDoorPb07
set_option linter.unusedSimpArgs false
set_option linter.unusedVariables false
set_option linter.defProp false
set_option maxRecDepth 100000
section
namespace Go.Proofs.YtpagaknmdfgfkaaGreatDoor.Nu
open Go.Proofs.Tryz
open Go.Aw Go.Aw.D Go.Proofs Ty Go.Nu
def Th{y:Rat}(h:y.num<0):bl (lM y)=45::bl (lM (-y)):=by
 obtain⟨k,hk⟩:∃k:Nat,y.num= -(k:Int):=⟨y.num.natAbs,by omega⟩;have F:Lib.itoa y.num=45::Lib.decDigits k:=by rw[hk];exact Lib.itoa_neg k (by omega)
 have E:Lib.itoa (-y).num=Lib.decDigits k:=by rw[Rat.neg_num,hk,Int.neg_neg];exact Lib.itoa_nonneg k
 rw[xH,xH,F,E,Rat.neg_den];split <;> rfl
def Lw{y:Rat}(h:tZ y):tZ (-y):=⟨by rw[Rat.neg_num,Int.natAbs_neg];exact h.1,by rw[Rat.neg_den];exact h.2⟩
def YS(y:Rat):fU (lM y)=decide (y.num<0):=by
 rw[<-sE];unfold fU;rw[xH,II];split
 ·rfl
 ·rcases Xcc y.num 0 with h|h
  ·obtain⟨k,hk⟩:∃k:Nat,y.num= -(k:Int):=⟨y.num.natAbs,by omega⟩;rw[hk,show Lib.itoa (-(k:Int))=45::Lib.decDigits k from Lib.itoa_neg k (by omega)];rfl
  ·obtain⟨k,hk⟩:∃k:Nat,y.num=(k:Int):=⟨y.num.natAbs,by omega⟩;rw[hk,show Lib.itoa (k:Int)=Lib.decDigits k from Lib.itoa_nonneg k];cases E:Lib.decDigits k with
   | nil=>exact absurd E (JN k)
   | cons c r=>rfl
def MK:lM 0=dec 0:=(if_pos (show(0:Rat).den=1 from rfl)).trans (dF 0)
def BP(a b:ByteArray)(ha:a.size<=1048570)(hb:b.size<=1048570):PC prog 88 [str a,str b] (.tup [str (D6 a b).1,int (D6 a b).2]):=by
 refine pcd func88 rfl rfl ?_;simp only[go_sem];refine aG (qZ a (by omega)) ?_;simp only[go_sem];refine⟨_,fun _=>(qZ b (by omega)).q rfl,?_⟩;simp only[go_sem];refine aA (fun O=>?_) (fun O=>?_)
 ·simp only[go_sem];rw[show D6 a b=(emp,3)from if_neg (by rw[Xch,<-Xay,Bool.not_and];exact O)];exact .refl _
 have I:(bZ a&&bZ b)=true:=by rw[<-Xbq,Bool.not_and];exact O
 rw[show D6 a b=_ from if_pos I];simp only[Xai]at I;obtain⟨x,rfl,Y,_,_⟩:=fM I.1;obtain⟨y,rfl,V,_,_⟩:=fM I.2;rw[fW,fW];have F:vR (lM x) (lM (-y))=yR x (-y):=by unfold vR;rw[qE Y,qE (Lw V),fW,fW];rfl
 have aa:=L0 (Lw V);have E:=BF (lM x) (lM (-y)) (by omega) (by omega);rw[F]at E;have X:=cV (lM y);simp only[go_sem,oO];refine aA (fun h0=>?_) (fun h0=>?_)
 ·have h0:y=0:=by rw[lR,<-MK,aiH]at h0;exact h0
  subst h0;rw[show(-(0:Rat))=0 from rfl]at E |-;simp only[go_sem];refine aG E ?_;simp only[go_sem];exact .refl _
 have hp:0<(lM y).size:=by
  rw[<-X];rw[xH];have:Lib.itoa y.num≠[]:=by
   rcases Xcc y.num 0 with h|h
   ·obtain⟨k,hk⟩:∃k:Nat,y.num= -(k:Int):=⟨y.num.natAbs,by omega⟩;rw[hk,show Lib.itoa (-(k:Int))=45::Lib.decDigits k from Lib.itoa_neg k (by omega)];simp
   ·obtain⟨k,hk⟩:∃k:Nat,y.num=(k:Int):=⟨y.num.natAbs,by omega⟩;rw[hk,show Lib.itoa (k:Int)=Lib.decDigits k from Lib.itoa_nonneg k];exact JN k
  have:=List.length_pos_iff.2 this;split
  ·exact this
  ·rw[Xae];omega
 have U:=zH (lM y);rw[show decide (((lM y).size:Int)>0)=true by simp;omega,Xbc,YS]at U;simp only[go_sem];rw[U];refine⟨⟨by omega,by omega⟩,?_⟩;refine aA (fun h1=>?_) (fun h1=>?_)
 ·have h1:=of_decide_eq_true h1;have J:(lM y).extract 1 (lM y).size=lM (-y):=lD (by rw[gC,<-X,Xad,Th h1];rfl);simp only[go_sem,J];refine⟨⟨by omega,by omega⟩,?_⟩;refine aG E ?_;simp only[go_sem];exact .refl _
 ·have h1:=of_decide_eq_false h1;have Z:y.num≠0:=fun e=>by have:y=0:=Rat.num_eq_zero.1 e;rw[this,MK]at h0;exact nY.1 h0 rfl
  have h2:(-y).num<0:=by rw[Rat.neg_num];omega
  have J:(⟨#[45]⟩:ByteArray)++lM y=lM (-y):=lD (by rw[mV,Th h2,Rat.neg_neg];rfl);simp only[go_sem,J];refine⟨by show((1+(lM y).size:Nat):Int)<=9223372036854775807;omega,?_⟩;refine aG E ?_;simp only[go_sem];exact .refl _
def ZF(x y:Rat)(hx:tZ x)(hy:tZ y):PC prog 51 [str (zed x.num),str (dec x.den),str (zed y.num),str (dec y.den)] (int (Om x y)):=by
 have xd:((x.den:Int)).natAbs<dA:=by rw[Xbh];exact hx.2
 have yd:((y.den:Int)).natAbs<dA:=by rw[Xbh];exact hy.2
 have x0:=x.den_nz;have y0:=y.den_nz;have F:∀{m:Int},m.natAbs<dA->(zed m).size<=4097:=fun h=>Go.Nu.dT h
 rw[<-dF,<-dF];refine pcd func51 rfl rfl ?_;simp only[go_sem];refine⟨fun ρ _=>∃(p q r s g:Int),ρ 0=str (zed p)/\ρ 1=str (zed q)/\ρ 2=str (zed r)/\ρ 3=str (zed s)/\ρ 9=int g/\(g=1\/g= -1)/\0<q/\0<s/\p.natAbs<dA/\q.natAbs<dA/\r.natAbs<dA/\s.natAbs<dA/\Om x y=g*J7 p q r s,fun ρ _=>atT (ρ 1),
  ⟨x.num,x.den,y.num,y.den,1,rfl,rfl,rfl,rfl,rfl,.inl rfl,by omega,by omega,hx.1,xd,hy.1,yd,by rw[Int.one_mul,T2]⟩,?_⟩
 rintro ρ H ⟨p,q,r,s,g,h5,h6,h7,h8,I,hg,Y,X,bp,bq,br,bs,E⟩;have zp:=F bp;have zq:=F bq;have zr:=F br;have zs:=F bs;simp only[go_sem,h5,h6,];refine aG (OO (zed p) (zed q) (by omega) (by omega)) ?_;rw[D2 bp bq Y];simp only[go_sem,h7,h8];refine aG (OO (zed r) (zed s) (by omega) (by omega)) ?_;rw[D2 br bs X];simp only[go_sem,];have d1:=EK (p:=p) Y;have d2:=EK (p:=r) X;have z1:=F (m:=p.fdiv q) (by omega);have z2:=F (m:=r.fdiv s) (by omega);refine aG (SU (zed (p.fdiv q)) (zed (r.fdiv s)) (by omega) (by omega)) ?_;rw[Qa];simp only[go_sem,];obtain⟨_,m0,m1⟩:=rF (p:=p) Y;obtain⟨_,n0,n1⟩:=rF (p:=r) X;have c3:=Iy (p.fdiv q) (r.fdiv s);refine aA (fun U=>?_) (fun U=>?_)
 ·have U:hU (p.fdiv q) (r.fdiv s)≠0:=by simpa using U
  simp only[go_sem,I,aqT hg c3];refine cI ?_;rw[E,JO Y X (fun e=>U (qS e))]
 have U:p.fdiv q=r.fdiv s:=Fw.1 (by simpa using U);have Z:=LX Y X U;generalize p.fmod q=m at *;generalize r.fmod s=n at *;simp only[go_sem,zI];refine aA (fun V=>?_) (fun V=>?_)
 ·have V:m=0/\n=0:=by simpa using V
  simp only[go_sem];refine cI ?_;rw[E,Z,V.1,V.2,Int.zero_mul,Int.zero_mul,qS rfl,Int.mul_zero]
 simp only[go_sem,zI];refine aA (fun J=>?_) (fun J=>?_)
 ·have J:m=0:=of_decide_eq_true J;have O:0<n:=by
   rcases Xcc 0 n with h|h
   ·exact h
   ·exfalso;have:n=0:=by omega
    rw[J,this]at V;cases V
  simp only[go_sem,I,Ib hg];refine cI ?_;rw[E,Z,J,Int.zero_mul,jD (Int.mul_pos O Y)];omega
 have J:0<m:=by have:=of_decide_eq_false J;omega
 simp only[go_sem,zI];refine aA (fun O=>?_) (fun O=>?_)
 ·have O:n=0:=of_decide_eq_true O;simp only[go_sem,I];refine cI ?_;rw[E,Z,O,Int.zero_mul,jF (Int.mul_pos J X)];omega
 have O:0<n:=by have:=of_decide_eq_false O;omega
 simp only[go_sem,h6,h8,I,Ib hg];refine⟨⟨q,m,s,n,-g,rfl,rfl,rfl,rfl,rfl,by omega,J,O,bq,by omega,bs,by omega,?_⟩,?_⟩
 ·rw[E,Z,Ls];rw[Int.mul_neg,Int.neg_mul]
 ·rw[DZ,DZ];omega
def nX(a b:ByteArray)(U:a.size<=1048576)(I:b.size<=1048576):PC prog 23 [str a,str b] (int (FW a b)):=by
 have E:=TW a b U I;by_cases F:(bZ a&&bZ b)=true;rotate_left
 ·rw[show C5 a b=_ from if_neg F,show KI a b=_ from if_neg F]at E;rw[show FW a b=0 from if_neg F];refine pcd func23 rfl rfl ?_;simp only[go_sem];refine aG E ?_;simp only[go_sem];refine aL fun j hj=>?_
  simp only[go_sem];refine aI (aB _ _ _) (by simp) ?_;simp only[go_sem];refine aA (fun _=>?_) (fun I=>by cases I);simp only[go_sem];exact .refl _
 rw[show C5 a b=_ from if_pos F,show KI a b=_ from if_pos F]at E;rw[show FW a b=_ from if_pos F];simp only[Xai]at F;obtain⟨x,rfl,J,O,X⟩:=fM F.1;obtain⟨y,rfl,hy,V,Z⟩:=fM F.2;rw[O,X,V,Z]at E;rw[fW,fW];refine pcd func23 rfl rfl ?_;simp only[go_sem];refine aG E ?_;simp only[go_sem];refine aL fun j hj=>?_
 simp only[go_sem];refine aI (aB _ _ _) (by simp) ?_;generalize hP:aM (aM _ j _) j _=HP;have Y:HP j=some (⟨107,4,[[str (zed x.num),str (dec x.den),str (zed y.num),str (dec y.den)]]⟩:Row):=by rw[<-hP,aB];rfl
 simp only[go_sem];refine aA (fun I=>by cases I) (fun _=>?_);simp only[go_sem,Y]
 repeat (refine⟨by first|decide|omega,?_⟩)
 refine aG (ZF x y J hy) ?_;simp only[go_sem];exact .refl _
def aeG(ns:List Int)(xs:List ByteArray)(hn:∀n∈ns,-9223372036854775808<=n/\n<=9223372036854775807)(hl:xs.length<=1048576)(hs:∀s∈xs,s.size<=1048576):
  PC prog 86 [.sl (ns.map bC),.sl (xs.map Go.Aw.D.fE)] (.tup [str (lL ns xs).1,int (lL ns xs).2]):=by
 refine pcd func86 rfl rfl ?_;simp only[go_sem];refine aA (fun X=>?_) (fun U=>?_)
 ·have X:ns.length≠xs.length:=neN X;simp only[go_sem];rw[show lL ns xs=(emp,2)from if_pos X];exact .refl _
 have U:ns.length=xs.length:=eqN U;have e0:lL ns xs=if xs.any (fun x=> !bZ x)=true then(emp,3)else sC (ns.zip xs) (dec 0):=if_neg (by simp[U])
 rw[e0];simp only[go_sem];refine⟨fun ρ H=>∃(k:Nat),k<=xs.length/\ρ 0=.sl (ns.map bC)/\ρ 1=.sl (xs.map Go.Aw.D.fE)/\ρ 6=int k/\∀s∈xs.take k,bZ s=true,fun ρ _=>xs.length-aR (ρ 6),
  ⟨0,Xaa _,rfl,rfl,by simp only[go_sem];rfl,by simp⟩,?_⟩
 rintro ρ H ⟨k,hk,h0,h1,h6,hz⟩;simp only[go_sem,h1,h6,Xab];refine aA (fun E=>?_) (fun J=>?_)
 ·have E:=ltB E;obtain⟨s,I⟩:=aK E;have b1:=inB E;simp only[go_sem,h1,h6,aD I,b1];refine aG (qZ s (hs s (Xac I))) ?_;simp only[go_sem,];refine aA (fun O=>?_) (fun O=>?_)
  ·simp only[go_sem];rw[if_pos (xC I O)];exact .refl _
  ·simp only[go_sem,h0,h1,h6,aQ k];exact⟨⟨k+1,E,rfl,gR I (by simpa using O) hz⟩,by simp only[aN];omega⟩
 have J:=geB hk J;subst J;rw[Xad]at hz;have hR:xs.any (fun s=> !bZ s)=false:=vM fun s hs=>by rw[hz s hs];rfl
 rw[hR];simp only[go_sem,];refine⟨fun ρ H=>∃(k:Nat) (t:ByteArray),k<=xs.length/\ρ 0=.sl (ns.map bC)/\ρ 1=.sl (xs.map Go.Aw.D.fE)/\ρ 7=str t/\ρ 8=int k/\t.size<=1048576/\sC (ns.zip xs) (dec 0)=sC ((ns.zip xs).drop k) t,fun ρ _=>xs.length-aR (ρ 8),
  ⟨0,dec 0,Xaa _,h0,h1,by simp only[go_sem];rw[wF],by simp only[go_sem];rfl,by rw[<-wF];decide,rfl⟩,?_⟩
 clear h0 h1 h6;rintro ρ H ⟨k,t,hk,h0,h1,h7,h8,ht,Y⟩;rw[Y];have ad:(ns.zip xs).length=xs.length:=by rw[List.length_zip];omega
 simp only[go_sem,h0,h8,Xab,U];refine aA (fun E=>?_) (fun J=>?_)
 ·have E:=ltB E;obtain⟨s,I⟩:=aK E;obtain⟨n,V⟩:=aK (l:=ns) (k:=k) (by omega);have b1:=inB E;have b2:=inB (show k<ns.length by omega);have aa:=hs s (Xac I);have Z:=hn n (Xac V);have ac:(ns.zip xs)[k]?=some (n,s):=by rw[List.getElem?_zip_eq_some];exact⟨V,I⟩
  have ab:n.natAbs<dA:=Ob (k:=20) (by omega) (by decide);have ae:=Go.Nu.dT ab;rw[Hj ac,sC];simp only[go_sem,];refine kI (by rfl) (by kernel_rfl) ?_;simp only[go_sem,h0,h8,aD V,b1,b2,Xab];refine⟨_,(CR n Z.1 Z.2).q rfl,?_⟩;simp only[go_sem,h1,h8,aD I,b1,Xab];refine⟨_,(asL (zed n) s (by omega) aa).q rfl,?_⟩;simp only[go_sem,];refine aA (fun O=>?_) (fun O=>?_)
  ·have O:(wK (zed n) s).2≠0:=by simpa using O
   simp only[go_sem];rw[if_pos O];exact .refl _
  have O:(wK (zed n) s).2=0:=by simpa using O
  have hm:=oD (Kc O);rw[if_neg (by simp[O])];generalize (wK (zed n) s).1=m at *;simp only[go_sem,h7];refine aG (BF t m ht (by omega)) ?_;simp only[go_sem,];refine aA (fun F=>?_) (fun F=>?_)
  ·have F:(vR t m).2≠0:=by simpa using F
   simp only[go_sem];rw[if_pos F];exact .refl _
  have F:(vR t m).2=0:=by simpa using F
  have ha:=oD (Do F);rw[if_neg (by simp[F])];simp only[go_sem,h0,h1,h8,aQ k];exact⟨⟨k+1,_,E,rfl,rfl,by omega,rfl⟩,by simp only[aN];omega⟩
 ·have J:=geB hk J;subst J;rw[Xcf (by omega)];simp only[go_sem,h7];exact .refl _
end Go.Proofs.YtpagaknmdfgfkaaGreatDoor.Nu
end
section
namespace Go.Sb
def pop:Nat->Nat->Nat
 | 0,_=>0
 | w+1,s=>s%2+pop w (s/2)
end Go.Sb
end
