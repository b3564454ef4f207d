import Derived.Lib.ItoaMem
import Derived.Test.YtohmomanmikphaaGreatDoorPl10
set_option linter.unusedSimpArgs false
set_option linter.unusedVariables false
set_option maxRecDepth 100000
section
namespace Go.Proofs.YtohmomanmikphaaGreatDoor.Nu
open Go.Proofs.Tryz(prog)
open Go.Aw Go.Aw.D Go.Proofs Ty Go.Nu
theorem NF{y:Rat}(h:y.num<0):bl (jM y)=45::bl (jM (-y)):=by
 obtain⟨k,hk⟩:∃k:Nat,y.num= -(k:Int):=⟨y.num.natAbs,by omega⟩;have E:Lib.itoa y.num=45::Lib.decDigits k:=by rw[hk];exact Lib.itoa_neg k (by omega)
 have u:Lib.itoa (-y).num=Lib.decDigits k:=by rw[Rat.neg_num,hk,Int.neg_neg];exact Lib.itoa_nonneg k
 rw[sS,sS,E,u,Rat.neg_den];split <;> rfl
theorem Hk{y:Rat}(h:pW y):pW (-y):=⟨by rw[Rat.neg_num,Int.natAbs_neg];exact h.1,by rw[Rat.neg_den];exact h.2⟩
theorem UQ(y:Rat):eJ (jM y)=decide (y.num<0):=by
 rw[<-oO];unfold eJ;rw[sS,EA];split
 . rfl
 . rcases Xbq y.num 0 with h|h
   . obtain⟨k,hk⟩:∃k:Nat,y.num= -(k:Int):=⟨y.num.natAbs,by omega⟩
     rw[hk,show Lib.itoa (-(k:Int))=45::Lib.decDigits k from Lib.itoa_neg k (by omega)];rfl
   . obtain⟨k,hk⟩:∃k:Nat,y.num=(k:Int):=⟨y.num.natAbs,by omega⟩
     rw[hk,show Lib.itoa (k:Int)=Lib.decDigits k from Lib.itoa_nonneg k];cases u:Lib.decDigits k with
     | nil=>exact absurd u (ES k)
     | cons c r=>rfl
theorem CS:jM 0=dec 0:=(if_pos (show(0:Rat).den=1 from rfl)).trans (cN 0)
theorem Xw(a b:ByteArray)(ha:a.size<=1048570)(hb:b.size<=1048570):PC prog 45 [str a,str b] (.tup [str (zT a b).1,int (zT a b).2]):=by
 refine pcd Tryz.func45 ?_;unfold Tryz.f45;simp only[gdS];simp only[go_sem];refine PC.use (yO a (by omega)) ?_;simp only[go_sem];refine⟨_,fun _=>(yO b (by omega)).q rfl,?_⟩;simp only[go_sem];refine aA (fun I=>?_) (fun I=>?_)
 . simp only[go_sem]
   rw[show zT a b=(emp,3)from if_neg (by rw[Bool.not_eq_true,<-Xbp,Bool.not_and];exact I)];exact .refl _
 have F:(bQ a&&bQ b)=true:=by rw[<-Xbl,Bool.not_and];exact I
 rw[show zT a b=_ from if_pos F];simp only[Xap]at F;obtain⟨x,rfl,hx,_,_⟩:=dZ F.1;obtain⟨y,rfl,T,_,_⟩:=dZ F.2;rw[eH,eH];have E:rO (jM x) (jM (-y))=CY x (-y):=by
   unfold rO;rw[mT hx,mT (Hk T),eH,eH];rfl
 have Z:=Cj (Hk T);have u:=Vv (jM x) (jM (-y)) (by omega) (by omega);rw[E]at u;have M:=cF (jM y);simp only[go_sem,lK];refine aA (fun h0=>?_) (fun h0=>?_)
 . have h0:y=0:=by rw[jQ,<-CS,WG]at h0;exact h0
   subst h0;rw[show(-(0:Rat))=0 from rfl]at u |-;simp only[go_sem];refine PC.use u ?_;simp only[go_sem];exact .refl _
 have hp:0<(jM y).size:=by
   rw[<-M];rw[sS];have:Lib.itoa y.num≠[]:=by
     rcases Xbq y.num 0 with h|h
     . obtain⟨k,hk⟩:∃k:Nat,y.num= -(k:Int):=⟨y.num.natAbs,by omega⟩
       rw[hk,show Lib.itoa (-(k:Int))=45::Lib.decDigits k from Lib.itoa_neg k (by omega)];simp
     . obtain⟨k,hk⟩:∃k:Nat,y.num=(k:Int):=⟨y.num.natAbs,by omega⟩
       rw[hk,show Lib.itoa (k:Int)=Lib.decDigits k from Lib.itoa_nonneg k];exact ES k
   have:=Xbv.2 this;split
   . exact this
   . rw[Xac];omega
 have O:=uA (jM y);rw[show decide (((jM y).size:Int)>0)=true by simp;omega,Xaz,UQ]at O;simp only[go_sem];rw[O];refine⟨⟨by omega,by omega⟩,?_⟩;refine aA (fun h1=>?_) (fun h1=>?_)
 . have h1:=of_decide_eq_true h1
   have J:(jM y).extract 1 (jM y).size=jM (-y):=jC (by rw[eQ,<-M,Xag,NF h1];rfl);simp only[go_sem,J];refine⟨⟨by omega,by omega⟩,?_⟩;refine PC.use u ?_;simp only[go_sem];exact .refl _
 . have h1:=of_decide_eq_false h1
   have aa:y.num≠0:=fun e=>by
     have:y=0:=Rat.num_eq_zero.1 e;rw[this,CS]at h0;exact kW.1 h0 rfl
   have h2:(-y).num<0:=by rw[Rat.neg_num];omega
   have J:(⟨#[45]⟩:ByteArray)++jM y=jM (-y):=jC (by rw[kM,NF h2,Rat.neg_neg];rfl);simp only[go_sem,J];refine⟨by show((1+(jM y).size:Nat):Int)<=9223372036854775807;omega,?_⟩;refine PC.use u ?_;simp only[go_sem];exact .refl _
theorem Tf(x y:Rat)(hx:pW x)(hy:pW y):PC prog 47 [str (zed x.num),str (dec x.den),str (zed y.num),str (dec y.den)] (int (Ju x y)):=by
 have xd:((x.den:Int)).natAbs<cK:=by rw[Xay];exact hx.2
 have yd:((y.den:Int)).natAbs<cK:=by rw[Xay];exact hy.2
 have x0:=x.den_nz;have y0:=y.den_nz;have F:∀{m:Int},m.natAbs<cK->(zed m).size<=4097:=fun h=>Go.Nu.cT h
 rw[<-cN,<-cN];refine pcd Tryz.func47 ?_;unfold Tryz.f47;simp only[gdS];simp only[go_sem];refine⟨fun ρ _=>∃(p q r s g:Int),ρ 0=str (zed p)/\ρ 1=str (zed q)/\ρ 2=str (zed r)/\ρ 3=str (zed s)/\ρ 9=int g/\(g=1\/g= -1)/\0<q/\0<s/\p.natAbs<cK/\q.natAbs<cK/\r.natAbs<cK/\s.natAbs<cK/\Ju x y=g*FY p q r s,fun ρ _=>agE (ρ 1),
   ⟨x.num,x.den,y.num,y.den,1,by simp only[go_sem],by simp only[go_sem],by simp only[go_sem],by simp only[go_sem],by simp only[go_sem],.inl rfl,by omega,by omega,hx.1,xd,hy.1,yd,by rw[Int.one_mul,QM]⟩,?_⟩
 rintro ρ H ⟨p,q,r,s,g,M,O,Z,T,u,hg,hq,hs,bp,bq,br,bs,E⟩;have zp:=F bp;have zq:=F bq;have zr:=F br;have zs:=F bs;simp only[go_sem,M,O,Z,T,u];refine PC.use (Kv (zed p) (zed q) (by omega) (by omega)) ?_;rw[A4 bp bq hq];simp only[go_sem,M,O,Z,T,u];refine PC.use (Kv (zed r) (zed s) (by omega) (by omega)) ?_;rw[A4 br bs hs];simp only[go_sem,M,O,Z,T,u];have d1:=B6 (p:=p) hq;have d2:=B6 (p:=r) hs;have z1:=F (m:=p.fdiv q) (by omega);have z2:=F (m:=r.fdiv s) (by omega);refine PC.use (LL (zed (p.fdiv q)) (zed (r.fdiv s)) (by omega) (by omega)) ?_;rw[Mk];simp only[go_sem,M,O,Z,T,u];obtain⟨_,m0,m1⟩:=nW (p:=p) hq;obtain⟨_,n0,n1⟩:=nW (p:=r) hs;have c3:=EP (p.fdiv q) (r.fdiv s);refine aA (fun hc=>?_) (fun hc=>?_)
 . have hc:fR (p.fdiv q) (r.fdiv s)≠0:=by simpa using hc
   simp only[go_sem,u,afJ hg c3];refine cI ?_;rw[E,FF hq hs (fun e=>hc (nZ e))]
 have hc:p.fdiv q=r.fdiv s:=Cm.1 (by simpa using hc);have hX:=G8 hq hs hc;generalize p.fmod q=m at *;generalize r.fmod s=n at *;simp only[go_sem,M,O,Z,T,u,tW];refine aA (fun hz=>?_) (fun hz=>?_)
 . have hz:m=0/\n=0:=by simpa using hz
   simp only[go_sem];refine cI ?_;rw[E,hX,hz.1,hz.2,Int.zero_mul,Int.zero_mul,nZ rfl,Int.mul_zero]
 simp only[go_sem,M,O,Z,T,u,tW];refine aA (fun I=>?_) (fun I=>?_)
 . have I:m=0:=of_decide_eq_true I
   have J:0<n:=by
     rcases Xbq 0 n with h|h
     . exact h
     . exfalso
       have:n=0:=by omega
       rw[I,this]at hz;cases hz
   simp only[go_sem,u,F6 hg];refine cI ?_;rw[E,hX,I,Int.zero_mul,gV (Int.mul_pos J hq)];omega
 have I:0<m:=by have:=of_decide_eq_false I;omega
 simp only[go_sem,M,O,Z,T,u,tW];refine aA (fun J=>?_) (fun J=>?_)
 . have J:n=0:=of_decide_eq_true J
   simp only[go_sem,u];refine cI ?_;rw[E,hX,J,Int.zero_mul,gT (Int.mul_pos I hs)];omega
 have J:0<n:=by have:=of_decide_eq_false J;omega
 simp only[go_sem,M,O,Z,T,u,F6 hg];refine⟨⟨q,m,s,n,-g,rfl,rfl,rfl,rfl,rfl,by omega,I,J,bq,by omega,bs,by omega,?_⟩,?_⟩
 . rw[E,hX,I7]
   rw[Int.mul_neg,Int.neg_mul]
 . rw[Bt,Bt];omega
theorem vR(a b:ByteArray)(ha:a.size<=1048576)(F:b.size<=1048576):PC prog 19 [str a,str b] (int (zU a b)):=by
 have u:=Ok a b ha F;by_cases E:(bQ a&&bQ b)=true
 rotate_left
 . rw[show Al a b=_ from if_neg E,show GK a b=_ from if_neg E]at u
   rw[show zU a b=0 from if_neg E];refine pcd Tryz.func19 ?_;unfold Tryz.f19;simp only[gdS];simp only[go_sem];refine PC.use u ?_;simp only[go_sem];refine aK fun j hj=>?_
   simp only[go_sem];refine aJ (aB _ _ _) (by simp) ?_;simp only[go_sem];refine aA (fun _=>?_) (fun F=>by cases F);simp only[go_sem];exact .refl _
 rw[show Al a b=_ from if_pos E,show GK a b=_ from if_pos E]at u;rw[show zU a b=_ from if_pos E];simp only[Xap]at E;obtain⟨x,rfl,M,e1,e2⟩:=dZ E.1;obtain⟨y,rfl,T,Z,J⟩:=dZ E.2;rw[e1,e2,Z,J]at u;rw[eH,eH];refine pcd Tryz.func19 ?_;unfold Tryz.f19;simp only[gdS];simp only[go_sem];refine PC.use u ?_;simp only[go_sem];refine aK fun j hj=>?_
 simp only[go_sem];refine aJ (aB _ _ _) (by simp) ?_;generalize I:aI (aI _ j _) j _=HP;have O:HP j=some (⟨89,4,[[str (zed x.num),str (dec x.den),str (zed y.num),str (dec y.den)]]⟩:Row):=by rw[<-I,aB];rfl
 simp only[go_sem];refine aA (fun F=>by cases F) (fun _=>?_);simp only[go_sem,O]
 repeat (refine⟨by first|decide|omega,?_⟩)
 refine PC.use (Tf x y M T) ?_;simp only[go_sem];exact .refl _
theorem RX(s:ByteArray)(h:s.size<=1048576):PC prog 20 [str s] (int (yQ s)):=by
 have u:=vR s ⟨#[48]⟩ h (by decide);refine pcd Tryz.func20 ?_;unfold Tryz.f20;simp only[gdS];simp only[go_sem];refine PC.use u ?_;simp only[go_sem];refine cI ?_;unfold zU yQ;rw[pI,ET,Xco];split
 . rw[show gJ (dec 0)=0 by rw[<-CS,eH],Hg]
 . rfl
theorem Xr(ns:List Int)(xs:List ByteArray)(hn:∀n∈ns,-9223372036854775808<=n/\n<=9223372036854775807)(hl:xs.length<=1048576)(hs:∀s∈xs,s.size<=1048576):
   PC prog 43 [.sl (ns.map bJ),.sl (xs.map Go.Aw.D.fA)] (.tup [str (jD ns xs).1,int (jD ns xs).2]):=by
 refine pcd Tryz.func43 ?_;unfold Tryz.f43;simp only[gdS];simp only[go_sem];refine aA (fun aa=>?_) (fun M=>?_)
 . have aa:ns.length≠xs.length:=neN aa
   simp only[go_sem];rw[show jD ns xs=(emp,2)from if_pos aa];exact .refl _
 have M:ns.length=xs.length:=eqN M;have e0:jD ns xs=if xs.any (fun x=> !bQ x)=true then(emp,3)else oR (ns.zip xs) (dec 0):=if_neg (by simp[M])
 rw[e0];simp only[go_sem,Xaa];refine⟨fun ρ H=>∃(k:Nat),k<=xs.length/\ρ 0=.sl (ns.map bJ)/\ρ 1=.sl (xs.map Go.Aw.D.fA)/\ρ 6=int k/\∀s∈xs.take k,bQ s=true,fun ρ _=>xs.length-aT (ρ 6),
   ⟨0,Xab _,by simp only[go_sem],by simp only[go_sem],by simp only[go_sem];rfl,by simp⟩,?_⟩
 rintro ρ H ⟨k,hk,h0,h1,h6,hz⟩;simp only[go_sem,h0,h1,h6,Xaa];refine aA (fun u=>?_) (fun I=>?_)
 . have u:=ltB u
   obtain⟨s,E⟩:=aN u;have b1:=inB u;simp only[go_sem,h0,h1,h6,aF E,b1];refine PC.use (yO s (hs s (Xae E))) ?_;simp only[go_sem,h0,h1,h6];refine aA (fun J=>?_) (fun J=>?_)
   . simp only[go_sem]
     rw[if_pos (BP E J)];exact .refl _
   . simp only[go_sem,h0,h1,h6,aP (show k<=4611686018427387904 by omega)]
     exact⟨⟨k+1,u,rfl,iS E (by simpa using J) hz⟩,by simp only[aE];omega⟩
 have I:=geB hk I;subst I;rw[Xag]at hz;have hR:xs.any (fun s=> !bQ s)=false:=xT fun s hs=>by rw[hz s hs];rfl
 rw[hR];simp only[go_sem,h0,h1,Xaa];refine⟨fun ρ H=>∃(k:Nat) (t:ByteArray),k<=xs.length/\ρ 0=.sl (ns.map bJ)/\ρ 1=.sl (xs.map Go.Aw.D.fA)/\ρ 7=str t/\ρ 8=int k/\t.size<=1048576/\oR (ns.zip xs) (dec 0)=oR ((ns.zip xs).drop k) t,fun ρ _=>xs.length-aT (ρ 8),
   ⟨0,dec 0,Xab _,by simp only[go_sem,h0],by simp only[go_sem,h1],by simp only[go_sem];rw[pI],by simp only[go_sem];rfl,by rw[<-pI];decide,rfl⟩,?_⟩
 clear h0 h1 h6;rintro ρ H ⟨k,t,hk,h0,h1,O,Z,ht,ac⟩;rw[ac];have ag:(ns.zip xs).length=xs.length:=by rw[List.length_zip];omega
 simp only[go_sem,h0,h1,O,Z,Xaa,M];refine aA (fun u=>?_) (fun I=>?_)
 . have u:=ltB u
   obtain⟨s,E⟩:=aN u;obtain⟨n,T⟩:=aN (l:=ns) (k:=k) (by omega);have b1:=inB u;have b2:=inB (show k<ns.length by omega);have ad:=hs s (Xae E);have ab:=hn n (Xae T);have ae:(ns.zip xs)[k]?=some (n,s):=by rw[List.getElem?_zip_eq_some];exact⟨T,E⟩
   have af:n.natAbs<cK:=Jm (k:=20) (by omega) (by decide);have ah:=Go.Nu.cT af;rw[zO ae,oR];simp only[go_sem,h0,h1,O,Z];refine dJ (by rfl) (by kernel_rfl) ?_;simp only[go_sem,h0,h1,O,Z,aF E,aF T,b1,b2,Xaa];refine⟨_,(Ry n ab.1 ab.2).q rfl,?_⟩;simp only[go_sem,h0,h1,O,Z,aF E,aF T,b1,b2,Xaa];refine⟨_,(agR (zed n) s (by omega) ad).q rfl,?_⟩;simp only[go_sem,h0,h1,O,Z];refine aA (fun J=>?_) (fun J=>?_)
   . have J:(rW (zed n) s).2≠0:=by simpa using J
     simp only[go_sem];rw[if_pos J];exact .refl _
   have J:(rW (zed n) s).2=0:=by simpa using J
   have hm:=fB (Fx J);rw[if_neg (by simp[J])];generalize (rW (zed n) s).1=m at *;simp only[go_sem,h0,h1,O,Z];refine PC.use (Vv t m ht (by omega)) ?_;simp only[go_sem,h0,h1,O,Z];refine aA (fun F=>?_) (fun F=>?_)
   . have F:(rO t m).2≠0:=by simpa using F
     simp only[go_sem];rw[if_pos F];exact .refl _
   have F:(rO t m).2=0:=by simpa using F
   have ha:=fB (AD F);rw[if_neg (by simp[F])];simp only[go_sem,h0,h1,O,Z,aP (show k<=4611686018427387904 by omega)];exact⟨⟨k+1,_,u,rfl,rfl,by omega,rfl⟩,by simp only[aE];omega⟩
 . have I:=geB hk I
   subst I;rw[Xby (by omega)];simp only[go_sem,O];exact .refl _
end Go.Proofs.YtohmomanmikphaaGreatDoor.Nu
end
section
namespace Go.Sb
def pop:Nat->Nat->Nat
 | 0,_=>0
 | w+1,s=>s%2+pop w (s/2)
end Go.Sb
end
