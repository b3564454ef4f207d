import Derived.Lib.ItoaMem
import Derived.Test.YtpagaknmdfgfkaaGreatDoorPn07
set_option linter.unusedSimpArgs false
set_option linter.unusedVariables false
set_option linter.defProp false
set_option maxRecDepth 100000
section
namespace Go.Proofs.YtpagaknmdfgfkaaGreatDoor.Nu
open Go.Proofs.Tryz
open Go.Aw Go.Aw.D Go.Proofs Ty Go.Nu
def QI{y:Rat}(h:y.num<0):bl (lO y)=45::bl (lO (-y)):=by
 obtain⟨k,hk⟩:∃k:Nat,y.num= -(k:Int):=⟨y.num.natAbs,by omega⟩;have E:Lib.itoa y.num=45::Lib.decDigits k:=by rw[hk];exact Lib.itoa_neg k (by omega)
 have F:Lib.itoa (-y).num=Lib.decDigits k:=by rw[Rat.neg_num,hk,Int.neg_neg];exact Lib.itoa_nonneg k
 rw[xH,xH,E,F,Rat.neg_den];split <;> rfl
def Cs{y:Rat}(h:uD y):uD (-y):=⟨by rw[Rat.neg_num,Int.natAbs_neg];exact h.1,by rw[Rat.neg_den];exact h.2⟩
def Zy(y:Rat):fY (lO y)=decide (y.num<0):=by
 rw[<-rT];unfold fY;rw[xH,IW];split
 ·rfl
 ·rcases Xcf y.num 0 with h|h
  ·obtain⟨k,hk⟩:∃k:Nat,y.num= -(k:Int):=⟨y.num.natAbs,by omega⟩;rw[hk,show Lib.itoa (-(k:Int))=45::Lib.decDigits k from Lib.itoa_neg k (by omega)];rfl
  ·obtain⟨k,hk⟩:∃k:Nat,y.num=(k:Int):=⟨y.num.natAbs,by omega⟩;rw[hk,show Lib.itoa (k:Int)=Lib.decDigits k from Lib.itoa_nonneg k];cases E:Lib.decDigits k with
   | nil=>exact absurd E (J0 k)
   | cons c r=>rfl
def FK:lO 0=dec 0:=(if_pos (show(0:Rat).den=1 from rfl)).trans (dJ 0)
def B7(a b:ByteArray)(ha:a.size<=1048570)(hb:b.size<=1048570):PC prog 88 [str a,str b] (.tup [str (DT a b).1,int (DT a b).2]):=by
 refine pcd func88 rfl rfl ?_;simp only[go_sem];refine aH (rH a (by omega)) ?_;simp only[go_sem];refine⟨_,fun _=>(rH b (by omega)).q rfl,?_⟩;simp only[go_sem];refine aA (fun O=>?_) (fun O=>?_)
 ·simp only[go_sem];rw[show DT a b=(emp,3)from if_neg (by rw[Xcu,<-Xax,Bool.not_and];exact O)];exact .refl _
 have I:(bV a&&bV b)=true:=by rw[<-Xbw,Bool.not_and];exact O
 rw[show DT a b=_ from if_pos I];simp only[Xak]at I;obtain⟨x,rfl,Z,_,_⟩:=fF I.1;obtain⟨y,rfl,Y,_,_⟩:=fF I.2;rw[fN,fN];have F:wO (lO x) (lO (-y))=yQ x (-y):=by unfold wO;rw[qF Z,qF (Cs Y),fN,fN];rfl
 have aa:=Ng (Cs Y);have E:=BB (lO x) (lO (-y)) (by omega) (by omega);rw[F]at E;have X:=dF (lO y);simp only[go_sem,oD];refine aA (fun h0=>?_) (fun h0=>?_)
 ·have h0:y=0:=by rw[lP,<-FK,afJ]at h0;exact h0
  subst h0;rw[show(-(0:Rat))=0 from rfl]at E |-;simp only[go_sem];refine aH E ?_;simp only[go_sem];exact .refl _
 have hp:0<(lO y).size:=by
  rw[<-X];rw[xH];have:Lib.itoa y.num≠[]:=by
   rcases Xcf y.num 0 with h|h
   ·obtain⟨k,hk⟩:∃k:Nat,y.num= -(k:Int):=⟨y.num.natAbs,by omega⟩;rw[hk,show Lib.itoa (-(k:Int))=45::Lib.decDigits k from Lib.itoa_neg k (by omega)];simp
   ·obtain⟨k,hk⟩:∃k:Nat,y.num=(k:Int):=⟨y.num.natAbs,by omega⟩;rw[hk,show Lib.itoa (k:Int)=Lib.decDigits k from Lib.itoa_nonneg k];exact J0 k
  have:=List.length_pos_iff.2 this;split
  ·exact this
  ·rw[Xae];omega
 have T:=yX (lO y);rw[show decide (((lO y).size:Int)>0)=true by simp;omega,Xaz,Zy]at T;simp only[go_sem];rw[T];refine⟨⟨by omega,by omega⟩,?_⟩;refine aA (fun h1=>?_) (fun h1=>?_)
 ·have h1:=of_decide_eq_true h1;have J:(lO y).extract 1 (lO y).size=lO (-y):=lB (by rw[gD,<-X,Xad,QI h1];rfl);simp only[go_sem,J];refine⟨⟨by omega,by omega⟩,?_⟩;refine aH E ?_;simp only[go_sem];exact .refl _
 ·have h1:=of_decide_eq_false h1;have ab:y.num≠0:=fun e=>by have:y=0:=Rat.num_eq_zero.1 e;rw[this,FK]at h0;exact nX.1 h0 rfl
  have h2:(-y).num<0:=by rw[Rat.neg_num];omega
  have J:(⟨#[45]⟩:ByteArray)++lO y=lO (-y):=lB (by rw[mT,QI h2,Rat.neg_neg];rfl);simp only[go_sem,J];refine⟨by show((1+(lO y).size:Nat):Int)<=9223372036854775807;omega,?_⟩;refine aH E ?_;simp only[go_sem];exact .refl _
def Zm(x y:Rat)(hx:uD x)(hy:uD y):PC prog 51 [str (zed x.num),str (dec x.den),str (zed y.num),str (dec y.den)] (int (PE x y)):=by
 have xd:((x.den:Int)).natAbs<cY:=by rw[Xbo];exact hx.2
 have yd:((y.den:Int)).natAbs<cY:=by rw[Xbo];exact hy.2
 have x0:=x.den_nz;have y0:=y.den_nz;have F:∀{m:Int},m.natAbs<cY->(zed m).size<=4097:=fun h=>Go.Nu.dR h
 rw[<-dJ,<-dJ];refine pcd func51 rfl rfl ?_;simp only[go_sem];refine⟨fun ρ _=>∃(p q r s g:Int),ρ 0=str (zed p)/\ρ 1=str (zed q)/\ρ 2=str (zed r)/\ρ 3=str (zed s)/\ρ 9=int g/\(g=1\/g= -1)/\0<q/\0<s/\p.natAbs<cY/\q.natAbs<cY/\r.natAbs<cY/\s.natAbs<cY/\PE x y=g*J7 p q r s,fun ρ _=>avT (ρ 1),
  ⟨x.num,x.den,y.num,y.den,1,rfl,rfl,rfl,rfl,rfl,.inl rfl,by omega,by omega,hx.1,xd,hy.1,yd,by rw[Int.one_mul,Wb]⟩,?_⟩
 rintro ρ H ⟨p,q,r,s,g,h5,h6,h7,h8,J,hg,Z,Y,bp,bq,br,bs,E⟩;have zp:=F bp;have zq:=F bq;have zr:=F br;have zs:=F bs;simp only[go_sem,h5,h6,];refine aH (Pq (zed p) (zed q) (by omega) (by omega)) ?_;rw[DO bp bq Z];simp only[go_sem,h7,h8];refine aH (Pq (zed r) (zed s) (by omega) (by omega)) ?_;rw[DO br bs Y];simp only[go_sem,];have d1:=D1 (p:=p) Z;have d2:=D1 (p:=r) Y;have z1:=F (m:=p.fdiv q) (by omega);have z2:=F (m:=r.fdiv s) (by omega);refine aH (Q9 (zed (p.fdiv q)) (zed (r.fdiv s)) (by omega) (by omega)) ?_;rw[Sm];simp only[go_sem,];obtain⟨_,m0,m1⟩:=qN (p:=p) Z;obtain⟨_,n0,n1⟩:=qN (p:=r) Y;have c3:=Jo (p.fdiv q) (r.fdiv s);refine aA (fun X=>?_) (fun X=>?_)
 ·have X:hY (p.fdiv q) (r.fdiv s)≠0:=by simpa using X
  simp only[go_sem,J,arJ hg c3];refine cI ?_;rw[E,Ip Z Y (fun e=>X (tH e))]
 have X:p.fdiv q=r.fdiv s:=Gf.1 (by simpa using X);have hX:=LK Z Y X;generalize p.fmod q=m at *;generalize r.fmod s=n at *;simp only[go_sem,zA];refine aA (fun T=>?_) (fun T=>?_)
 ·have T:m=0/\n=0:=by simpa using T
  simp only[go_sem];refine cI ?_;rw[E,hX,T.1,T.2,Int.zero_mul,Int.zero_mul,tH rfl,Int.mul_zero]
 simp only[go_sem,zA];refine aA (fun O=>?_) (fun O=>?_)
 ·have O:m=0:=of_decide_eq_true O;have I:0<n:=by
   rcases Xcf 0 n with h|h
   ·exact h
   ·exfalso;have:n=0:=by omega
    rw[O,this]at T;cases T
  simp only[go_sem,J,I8 hg];refine cI ?_;rw[E,hX,O,Int.zero_mul,kH (Int.mul_pos I Z)];omega
 have O:0<m:=by have:=of_decide_eq_false O;omega
 simp only[go_sem,zA];refine aA (fun I=>?_) (fun I=>?_)
 ·have I:n=0:=of_decide_eq_true I;simp only[go_sem,J];refine cI ?_;rw[E,hX,I,Int.zero_mul,kD (Int.mul_pos O Y)];omega
 have I:0<n:=by have:=of_decide_eq_false I;omega
 simp only[go_sem,h6,h8,J,I8 hg];refine⟨⟨q,m,s,n,-g,rfl,rfl,rfl,rfl,rfl,by omega,O,I,bq,by omega,bs,by omega,?_⟩,?_⟩
 ·rw[E,hX,MB];rw[Int.mul_neg,Int.neg_mul]
 ·rw[DV,DV];omega
def mG(a b:ByteArray)(ha:a.size<=1048576)(I:b.size<=1048576):PC prog 23 [str a,str b] (int (Hz a b)):=by
 have E:=Un a b ha I;by_cases F:(bV a&&bV b)=true;rotate_left
 ·rw[show C8 a b=_ from if_neg F,show KU a b=_ from if_neg F]at E;rw[show Hz a b=0 from if_neg F];refine pcd func23 rfl rfl ?_;simp only[go_sem];refine aH E ?_;simp only[go_sem];refine aN fun j Y=>?_
  simp only[go_sem];refine aI (aB _ _ _) (by simp) ?_;simp only[go_sem];refine aA (fun _=>?_) (fun I=>by cases I);simp only[go_sem];exact .refl _
 rw[show C8 a b=_ from if_pos F,show KU a b=_ from if_pos F]at E;rw[show Hz a b=_ from if_pos F];simp only[Xak]at F;obtain⟨x,rfl,O,J,e2⟩:=fF F.1;obtain⟨y,rfl,hy,e3,X⟩:=fF F.2;rw[J,e2,e3,X]at E;rw[fN,fN];refine pcd func23 rfl rfl ?_;simp only[go_sem];refine aH E ?_;simp only[go_sem];refine aN fun j Y=>?_
 simp only[go_sem];refine aI (aB _ _ _) (by simp) ?_;generalize Z:aM (aM _ j _) j _=HP;have T:HP j=some (⟨107,4,[[str (zed x.num),str (dec x.den),str (zed y.num),str (dec y.den)]]⟩:Row):=by rw[<-Z,aB];rfl
 simp only[go_sem];refine aA (fun I=>by cases I) (fun _=>?_);simp only[go_sem,T]
 repeat (refine⟨by first|decide|omega,?_⟩)
 refine aH (Zm x y O hy) ?_;simp only[go_sem];exact .refl _
def aoA(s:ByteArray)(h:s.size<=1048576):PC prog 27 [str s] (int (C5 s)):=by
 have E:=mG s ⟨#[48]⟩ h (by decide);refine pcd func27 rfl rfl ?_;simp only[go_sem];refine aH E ?_;simp only[go_sem];refine cI ?_;unfold Hz C5;rw[tS,Ki,Xbh];split
 ·rw[show oK (dec 0)=0 by rw[<-FK,fN],LU]
 ·rfl
def adH(ns:List Int)(xs:List ByteArray)(hn:∀n∈ns,-9223372036854775808<=n/\n<=9223372036854775807)(hl:xs.length<=1048576)(hs:∀s∈xs,s.size<=1048576):
  PC prog 86 [.sl (ns.map bC),.sl (xs.map Go.Aw.D.fJ)] (.tup [str (lE ns xs).1,int (lE ns xs).2]):=by
 refine pcd func86 rfl rfl ?_;simp only[go_sem];refine aA (fun X=>?_) (fun T=>?_)
 ·have X:ns.length≠xs.length:=neN X;simp only[go_sem];rw[show lE ns xs=(emp,2)from if_pos X];exact .refl _
 have T:ns.length=xs.length:=eqN T;have e0:lE ns xs=if xs.any (fun x=> !bV x)=true then(emp,3)else sZ (ns.zip xs) (dec 0):=if_neg (by simp[T])
 rw[e0];simp only[go_sem];refine⟨fun ρ H=>∃(k:Nat),k<=xs.length/\ρ 0=.sl (ns.map bC)/\ρ 1=.sl (xs.map Go.Aw.D.fJ)/\ρ 6=int k/\∀s∈xs.take k,bV s=true,fun ρ _=>xs.length-aR (ρ 6),
  ⟨0,Xaa _,rfl,rfl,by simp only[go_sem];rfl,by simp⟩,?_⟩
 rintro ρ H ⟨k,hk,h0,h1,h6,hz⟩;simp only[go_sem,h1,h6,Xab];refine aA (fun E=>?_) (fun J=>?_)
 ·have E:=ltB E;obtain⟨s,I⟩:=aK E;have b1:=inB E;simp only[go_sem,h1,h6,aC I,b1];refine aH (rH s (hs s (Xac I))) ?_;simp only[go_sem,];refine aA (fun O=>?_) (fun O=>?_)
  ·simp only[go_sem];rw[if_pos (CQ I O)];exact .refl _
  ·simp only[go_sem,h0,h1,h6,aQ k];exact⟨⟨k+1,E,rfl,gS I (by simpa using O) hz⟩,by simp only[aL];omega⟩
 have J:=geB hk J;subst J;rw[Xad]at hz;have hR:xs.any (fun s=> !bV s)=false:=wK fun s hs=>by rw[hz s hs];rfl
 rw[hR];simp only[go_sem,];refine⟨fun ρ H=>∃(k:Nat) (t:ByteArray),k<=xs.length/\ρ 0=.sl (ns.map bC)/\ρ 1=.sl (xs.map Go.Aw.D.fJ)/\ρ 7=str t/\ρ 8=int k/\t.size<=1048576/\sZ (ns.zip xs) (dec 0)=sZ ((ns.zip xs).drop k) t,fun ρ _=>xs.length-aR (ρ 8),
  ⟨0,dec 0,Xaa _,h0,h1,by simp only[go_sem];rw[tS],by simp only[go_sem];rfl,by rw[<-tS];decide,rfl⟩,?_⟩
 clear h0 h1 h6;rintro ρ H ⟨k,t,hk,h0,h1,h7,h8,ht,Z⟩;rw[Z];have af:(ns.zip xs).length=xs.length:=by rw[List.length_zip];omega
 simp only[go_sem,h0,h8,Xab,T];refine aA (fun E=>?_) (fun J=>?_)
 ·have E:=ltB E;obtain⟨s,I⟩:=aK E;obtain⟨n,Y⟩:=aK (l:=ns) (k:=k) (by omega);have b1:=inB E;have b2:=inB (show k<ns.length by omega);have ac:=hs s (Xac I);have aa:=hn n (Xac Y);have ad:(ns.zip xs)[k]?=some (n,s):=by rw[List.getElem?_zip_eq_some];exact⟨Y,I⟩
  have ab:n.natAbs<cY:=O4 (k:=20) (by omega) (by decide);have ae:=Go.Nu.dR ab;rw[Av ad,sZ];simp only[go_sem,];refine jK (by rfl) (by kernel_rfl) ?_;simp only[go_sem,h0,h8,aC Y,b1,b2,Xab];refine⟨_,(Dd n aa.1 aa.2).q rfl,?_⟩;simp only[go_sem,h1,h8,aC I,b1,Xab];refine⟨_,(avG (zed n) s (by omega) ac).q rfl,?_⟩;simp only[go_sem,];refine aA (fun O=>?_) (fun O=>?_)
  ·have O:(wN (zed n) s).2≠0:=by simpa using O
   simp only[go_sem];rw[if_pos O];exact .refl _
  have O:(wN (zed n) s).2=0:=by simpa using O
  have hm:=nS (JW O);rw[if_neg (by simp[O])];generalize (wN (zed n) s).1=m at *;simp only[go_sem,h7];refine aH (BB t m ht (by omega)) ?_;simp only[go_sem,];refine aA (fun F=>?_) (fun F=>?_)
  ·have F:(wO t m).2≠0:=by simpa using F
   simp only[go_sem];rw[if_pos F];exact .refl _
  have F:(wO t m).2=0:=by simpa using F
  have ha:=nS (DL F);rw[if_neg (by simp[F])];simp only[go_sem,h0,h1,h8,aQ k];exact⟨⟨k+1,_,E,rfl,rfl,by omega,rfl⟩,by simp only[aL];omega⟩
 ·have J:=geB hk J;subst J;rw[Xcc (by omega)];simp only[go_sem,h7];exact .refl _
end Go.Proofs.YtpagaknmdfgfkaaGreatDoor.Nu
end
section
namespace Go.Sb
def pop:Nat->Nat->Nat
 | 0,_=>0
 | w+1,s=>s%2+pop w (s/2)
end Go.Sb
end
