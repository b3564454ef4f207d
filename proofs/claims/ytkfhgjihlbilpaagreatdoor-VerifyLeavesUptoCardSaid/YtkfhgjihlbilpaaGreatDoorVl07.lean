import Derived.Test.YtkfhgjihlbilpaaGreatDoorVl06
set_option linter.unusedSimpArgs false
set_option linter.unusedVariables false
set_option linter.defProp false
set_option maxRecDepth 100000
namespace Go.Proofs.YtkfhgjihlbilpaaGreatDoor.Nu
open Go.Proofs.Tryz
open Go.Aw Go.Aw.D Go.Proofs Ty Go.Nu
theorem aeL:qU 0=dec 0:=(if_pos (show(0:Rat).den=1 from rfl)).trans (dH 0)
def aiZ(x y:Rat)(hx:vG x)(hy:vG y):PC prog 58 [str (zed x.num),str (dec x.den),str (zed y.num),str (dec y.den)] (int (VC x y)):=by
 have xd:((x.den:Int)).natAbs<cN:=by rw[Xbm];exact hx.2
 have yd:((y.den:Int)).natAbs<cN:=by rw[Xbm];exact hy.2
 have x0:=x.den_nz;have y0:=y.den_nz;have A:∀{m:Int},m.natAbs<cN->(zed m).size<=4097:=fun h=>Go.Nu.dP h
 rw[<-dH,<-dH];refine pcd func58 rfl rfl ?_;simp only[go_sem];refine⟨fun ρ _=>∃(p q r s g:Int),ρ 0=str (zed p)/\ρ 1=str (zed q)/\ρ 2=str (zed r)/\ρ 3=str (zed s)/\ρ 9=int g/\(g=1\/g= -1)/\0<q/\0<s/\p.natAbs<cN/\q.natAbs<cN/\r.natAbs<cN/\s.natAbs<cN/\VC x y=g*Jh p q r s,fun ρ _=>aAk (ρ 1),
  ⟨x.num,x.den,y.num,y.den,1,rfl,rfl,rfl,rfl,rfl,.inl rfl,by omega,by omega,hx.1,xd,hy.1,yd,by rw[Int.one_mul,P3]⟩,?_⟩
 rintro ρ H ⟨p,q,r,s,g,h5,h6,h7,h8,F,Z,O,T,bp,bq,br,bs,E⟩;have zp:=A bp;have zq:=A bq;have zr:=A br;have zs:=A bs;simp only[go_sem,h5,h6,];refine aL (RB (zed p) (zed q) (by omega) (by omega)) ?_;rw[AR bp bq O];simp only[go_sem,h7,h8];refine aL (RB (zed r) (zed s) (by omega) (by omega)) ?_;rw[AR br bs T];simp only[go_sem,];have d1:=F3 (p:=p) O;have d2:=F3 (p:=r) T;have z1:=A (m:=p.fdiv q) (by omega);have z2:=A (m:=r.fdiv s) (by omega);refine aL (TI (zed (p.fdiv q)) (zed (r.fdiv s)) (by omega) (by omega)) ?_;rw[Sx];simp only[go_sem,];obtain⟨_,m0,m1⟩:=sI (p:=p) O;obtain⟨_,n0,n1⟩:=sI (p:=r) T;have c3:=Kf (p.fdiv q) (r.fdiv s);refine aA (fun X=>?_) (fun X=>?_)
 ·have X:iH (p.fdiv q) (r.fdiv s)≠0:=by grind
  simp only[go_sem,F,azQ Z c3]
  grind[cI,KE,vT]
 have X:p.fdiv q=r.fdiv s:=GE.1 (by grind);have Y:=NK O T X;generalize p.fmod q=m at *;generalize r.fmod s=n at *;simp only[go_sem,AG];refine aA (fun U=>?_) (fun U=>?_)
 ·have U:m=0/\n=0:=by grind
  simp only[go_sem];refine cI ?_;rw[E,Y,U.1,U.2,Int.zero_mul,Int.zero_mul,vT rfl,Int.mul_zero]
 simp only[go_sem,AG];refine aA (fun J=>?_) (fun J=>?_)
 ·have J:m=0:=of_decide_eq_true J;have I:0<n:=by grind
  simp only[go_sem,F,KG Z];refine cI ?_;rw[E,Y,J,Int.zero_mul,mB (Int.mul_pos I O)];omega
 have J:0<m:=by grind
 simp only[go_sem,AG];refine aA (fun I=>?_) (fun I=>?_)
 ·have I:n=0:=of_decide_eq_true I;simp only[go_sem,F];refine cI ?_;rw[E,Y,I,Int.zero_mul,lZ (Int.mul_pos J T)];omega
 have I:0<n:=by grind
 simp only[go_sem,h6,h8,F,KG Z];refine⟨⟨q,m,s,n,-g,rfl,rfl,rfl,rfl,rfl,by omega,J,I,bq,by omega,bs,by omega,?_⟩,?_⟩
 all_goals grind[Pt,RM]
def kR(a b:ByteArray)(J:a.size<=1048576)(F:b.size<=1048576):PC prog 20 [str a,str b] (int (zX a b)):=by
 have A:=XK a b J F;by_cases E:(bZ a&&bZ b)=true;rotate_left
 ·rw[show Eu a b=_ from if_neg E,show MR a b=_ from if_neg E]at A;rw[show zX a b=0 from if_neg E];refine pcd func20 rfl rfl ?_;simp only[go_sem];refine aL A ?_;simp only[go_sem];refine aH fun j X=>?_
  simp only[go_sem];refine aG (aB _ _ _) (by simp) ?_;simp only[go_sem];refine aA (fun _=>?_) (fun F=>by cases F);simp only[go_sem];exact .refl _
 rw[show Eu a b=_ from if_pos E,show MR a b=_ from if_pos E]at A;rw[show zX a b=_ from if_pos E];simp only[Xak]at E;obtain⟨x,rfl,O,U,I⟩:=fH E.1;obtain⟨y,rfl,T,Z,e4⟩:=fH E.2;rw[U,I,Z,e4]at A;rw[gY,gY];refine pcd func20 rfl rfl ?_;simp only[go_sem];refine aL A ?_;simp only[go_sem];refine aH fun j X=>?_
 simp only[go_sem];refine aG (aB _ _ _) (by simp) ?_;generalize Y:aI (aI _ j _) j _=HP;have R2:HP j=some (⟨135,4,[[str (zed x.num),str (dec x.den),str (zed y.num),str (dec y.den)]]⟩:Row):=by rw[<-Y,aB];rfl
 simp only[go_sem];refine aA (fun F=>by cases F) (fun _=>?_);simp only[go_sem,R2]
 repeat (refine⟨by first|decide|omega,?_⟩)
 refine aL (aiZ x y O T) ?_;simp only[go_sem];exact .refl _
def Zi(s:ByteArray)(h:s.size<=1048576):PC prog 56 [str s] (int (yY s)):=by
 have A:=kR s ⟨#[48]⟩ h (by decide);refine pcd func56 rfl rfl ?_;simp only[go_sem];refine aL A ?_;simp only[go_sem];refine cI ?_;unfold zX yY;rw[uM,Lj,Xbk]
 grind[aeL,gY,ahP]
def Fq(ns:List Int)(xs:List ByteArray)(hn:∀n∈ns,-9223372036854775808<=n/\n<=9223372036854775807)(hl:xs.length<=1048576)(hs:∀s∈xs,s.size<=1048576):
  PC prog 54 [.sl (ns.map aP),.sl (xs.map Go.Aw.D.dK)] (.tup [str (eV ns xs).1,int (eV ns xs).2]):=by
 refine pcd func54 rfl rfl ?_;simp only[go_sem];refine aA (fun T=>?_) (fun O=>?_)
 ·have T:ns.length≠xs.length:=neN T;simp only[go_sem];rw[show eV ns xs=(emp,2)from if_pos T];exact .refl _
 have O:ns.length=xs.length:=eqN O;have e0:eV ns xs=if xs.any (fun x=> !bZ x)=true then(emp,3)else pR (ns.zip xs) (dec 0):=if_neg (by omega)
 rw[e0];simp only[go_sem];refine⟨fun ρ H=>∃(k:Nat),k<=xs.length/\ρ 0=.sl (ns.map aP)/\ρ 1=.sl (xs.map Go.Aw.D.dK)/\ρ 6=int k/\∀s∈xs.take k,bZ s=true,fun ρ _=>xs.length-aT (ρ 6),
  ⟨0,Xaa _,rfl,rfl,by rfl,by simp⟩,?_⟩
 rintro ρ H ⟨k,hk,h0,h1,h6,hz⟩;simp only[go_sem,h1,h6,Xac];refine aA (fun A=>?_) (fun F=>?_)
 ·have A:=ltB A;obtain⟨s,E⟩:=aK A;have b1:=inB A;simp only[go_sem,h1,h6,aC E,b1];refine aL (uO s (hs s (Xab E))) ?_;simp only[go_sem,];refine aA (fun J=>?_) (fun J=>?_)
  ·simp only[go_sem];rw[if_pos (FM E J)];exact .refl _
  ·simp only[go_sem,h0,h1,h6,aQ k];exact⟨⟨k+1,A,rfl,dW E (by grind) hz⟩,by grind[aJ]⟩
 have F:=geB hk F;subst F;rw[Xad]at hz;have hR:xs.any (fun s=> !bZ s)=false:=CG fun s hs=>by grind
 rw[hR];simp only[go_sem,];refine⟨fun ρ H=>∃(k:Nat) (t:ByteArray),k<=xs.length/\ρ 0=.sl (ns.map aP)/\ρ 1=.sl (xs.map Go.Aw.D.dK)/\ρ 7=str t/\ρ 8=int k/\t.size<=1048576/\pR (ns.zip xs) (dec 0)=pR ((ns.zip xs).drop k) t,fun ρ _=>xs.length-aT (ρ 8),
  ⟨0,dec 0,Xaa _,h0,h1,by simp only[go_sem];rw[uM],by rfl,by rw[<-uM];decide,rfl⟩,?_⟩
 clear h0 h1 h6;rintro ρ H ⟨k,t,hk,h0,h1,h7,Z,ht,Y⟩;rw[Y];have ae:(ns.zip xs).length=xs.length:=by grind
 simp only[go_sem,h0,Z,Xac,O];refine aA (fun A=>?_) (fun F=>?_)
 ·have A:=ltB A;obtain⟨s,E⟩:=aK A;obtain⟨n,X⟩:=aK (l:=ns) (k:=k) (by omega);have b1:=inB A;have b2:=inB (show k<ns.length by omega);have aa:=hs s (Xab E);have U:=hn n (Xab X);have ab:(ns.zip xs)[k]?=some (n,s):=by grind
  have ac:n.natAbs<cN:=ET (k:=20) (by omega) (by decide);have af:=Go.Nu.dP ac;rw[JI ab,pR];simp only[go_sem,];refine jD (by rfl) (by kernel_rfl) ?_;simp only[go_sem,h0,Z,aC X,b1,b2,Xac];refine⟨_,(B9 n U.1 U.2).q rfl,?_⟩;simp only[go_sem,h1,Z,aC E,b1,Xac];refine⟨_,(aBD (zed n) s (by omega) aa).q rfl,?_⟩;simp only[go_sem,];refine aA (fun J=>?_) (fun J=>?_)
  ·have J:(yE (zed n) s).2≠0:=by grind
   simp only[go_sem];rw[if_pos J];exact .refl _
  have J:(yE (zed n) s).2=0:=by grind
  have hm:=uS (J7 J);rw[if_neg (by omega)];generalize (yE (zed n) s).1=m at *;simp only[go_sem,h7];refine aL (EY t m ht (by omega)) ?_;simp only[go_sem,];refine aA (fun I=>?_) (fun I=>?_)
  ·have I:(Az t m).2≠0:=by grind
   simp only[go_sem];rw[if_pos I];exact .refl _
  have I:(Az t m).2=0:=by grind
  have ha:=uS (E9 I);rw[if_neg (by omega)];simp only[go_sem,h0,h1,Z,aQ k]
  grind[aJ]
 ·have F:=geB hk F;subst F;rw[List.drop_of_length_le (by omega)];simp only[go_sem,h7];exact .refl _
end Go.Proofs.YtkfhgjihlbilpaaGreatDoor.Nu
