import Derived.Test.YtpagaknmdfgfkaaGreatDoorPb06
set_option linter.unusedSimpArgs false
set_option linter.unusedVariables false
set_option linter.defProp false
set_option maxRecDepth 100000
section
namespace Go.Proofs.YtpagaknmdfgfkaaGreatDoor.Nu
open Go.Proofs.Tryz
open Go.Aw Go.Aw.D Go.Proofs Ty Go.Nu
def Hj{α:Type}{l:List α}{k:Nat}{x:α}(h:l[k]?=some x):l.drop k=x::l.drop (k+1):=by obtain⟨E,e⟩:=List.getElem?_eq_some_iff.1 h;rw[Xci E,e]
def abW(ns:List Int)(xs:List ByteArray)(hn:∀n∈ns,-9223372036854775808<=n/\n<=9223372036854775807)(hl:xs.length<=1048576)(hs:∀s∈xs,s.size<=1048576):
  PC prog 73 [.sl (ns.map bC),.sl (xs.map Go.Aw.D.fE)] (.tup [str (lL ns xs).1,int (lL ns xs).2]):=by
 refine pcd func73 rfl rfl ?_;simp only[go_sem];refine aA (fun ab=>?_) (fun X=>?_)
 ·have ab:ns.length≠xs.length:=neN ab;simp only[go_sem];rw[show lL ns xs=(emp,2)from if_pos ab];exact .refl _
 have X:ns.length=xs.length:=eqN X;have e0:lL ns xs=if xs.any (fun x=> !bZ x)=true then(emp,3)else sC (ns.zip xs) (dec 0):=if_neg (by simp[X])
 rw[e0];simp only[go_sem,Xab];refine⟨fun ρ H=>∃(k:Nat),k<=xs.length/\ρ 0=.sl (ns.map bC)/\ρ 1=.sl (xs.map Go.Aw.D.fE)/\ρ 18=.sl (xs.map Go.Aw.D.fE)/\ρ 19=int xs.length/\ρ 20=int k/\∀s∈xs.take k,bZ s=true,fun ρ _=>xs.length-aR (ρ 20),
  ⟨0,Xaa _,rfl,rfl,rfl,by simp only[go_sem],by simp only[go_sem];rfl,by simp⟩,?_⟩
 rintro ρ H ⟨k,hk,h0,h1,Y,Z,U,hz⟩;simp only[go_sem,Z,U];refine aA (fun E=>?_) (fun J=>?_)
 ·have E:=ltB E;obtain⟨s,I⟩:=aK E;have b1:=inB E;simp only[go_sem,Y,U,aD I,b1];refine aG (BR s (hs s (Xac I))) ?_;simp only[go_sem,];refine aA (fun O=>?_) (fun O=>?_)
  ·simp only[go_sem];rw[if_pos (xC I O)];exact .refl _
  ·simp only[go_sem,h0,h1,Y,Z,U,aQ k];exact⟨⟨k+1,E,rfl,gR I (by simpa using O) hz⟩,by simp only[aN];omega⟩
 have J:=geB hk J;subst J;rw[Xad]at hz;have hR:xs.any (fun s=> !bZ s)=false:=vM fun s hs=>by rw[hz s hs];rfl
 rw[hR];simp only[go_sem,h1,Xab];refine⟨fun ρ H=>∃(k:Nat) (t:ByteArray),k<=xs.length/\ρ 0=.sl (ns.map bC)/\ρ 28=.sl (xs.map Go.Aw.D.fE)/\ρ 29=int xs.length/\ρ 8=str t/\ρ 30=int k/\t.size<=1048576/\sC (ns.zip xs) (dec 0)=sC ((ns.zip xs).drop k) t,fun ρ _=>xs.length-aR (ρ 30),
  ⟨0,dec 0,Xaa _,h0,rfl,by simp only[go_sem],by simp only[go_sem];rw[wF],by simp only[go_sem];rfl,by rw[<-wF];decide,rfl⟩,?_⟩
 clear h0 h1 Y Z U;rintro ρ H ⟨k,t,hk,h0,af,ae,h8,V,ht,ac⟩;rw[ac];have aj:(ns.zip xs).length=xs.length:=by rw[List.length_zip];omega
 simp only[go_sem,ae,V];refine aA (fun E=>?_) (fun J=>?_)
 ·have E:=ltB E;obtain⟨s,I⟩:=aK E;obtain⟨n,aa⟩:=aK (l:=ns) (k:=k) (by omega);have b1:=inB E;have b2:=inB (show k<ns.length by omega);have ag:=hs s (Xac I);have ad:=hn n (Xac aa);have ai:(ns.zip xs)[k]?=some (n,s):=by rw[List.getElem?_zip_eq_some];exact⟨aa,I⟩
  have ah:n.natAbs<dA:=Ob (k:=20) (by omega) (by decide);have ak:=Go.Nu.dT ah;rw[Hj ai,sC];simp only[go_sem,h0,af,V,aD I,aD aa,b1,b2];refine aG (Eu n ad.1 ad.2) ?_;simp only[go_sem,];refine aG (atP (zed n) s (by omega) ag) ?_;simp only[go_sem,];refine aA (fun O=>?_) (fun O=>?_)
  ·have O:(wK (zed n) s).2≠0:=by simpa using O
   simp only[go_sem];rw[if_pos O];exact .refl _
  have O:(wK (zed n) s).2=0:=by simpa using O
  have hm:=oD (Kc O);rw[if_neg (by simp[O])];generalize (wK (zed n) s).1=m at *;simp only[go_sem,h8];refine aG (Bv t m ht (by omega)) ?_;simp only[go_sem,];refine aA (fun F=>?_) (fun F=>?_)
  ·have F:(vR t m).2≠0:=by simpa using F
   simp only[go_sem];rw[if_pos F];exact .refl _
  have F:(vR t m).2=0:=by simpa using F
  have ha:=oD (Do F);rw[if_neg (by simp[F])];simp only[go_sem,h0,af,ae,V,aQ k];exact⟨⟨k+1,_,E,rfl,rfl,by omega,rfl⟩,by simp only[aN];omega⟩
 ·have J:=geB hk J;subst J;rw[Xcf (by omega)];simp only[go_sem,h8];exact .refl _
def LP(n:Int)(d:Nat)(I:d≠0)(F:n.natAbs<dA)(E:d<dA):PC prog 212 [str (zed n),str (dec d)] (str (lM (mkRat n d))):=by
 have U:=Lz (n:=n) I E;have aa:=WW (n:=n) I;have V:=DR I F E;have Z:=dT F;have Y:=dY E;have eg:wL (zed n) (dec (Nat.gcd n.natAbs d))=(zed (mkRat n d).num,zed (n.fmod (Nat.gcd n.natAbs d:Nat)),0):=by unfold wL;rw[<-dF,if_pos (rB F (by rw[Xbh];exact U)),cL,cL,if_neg (by omega),Yj I]
 have ed:wL (dec d) (dec (Nat.gcd n.natAbs d))=(dec (mkRat n d).den,zed ((d:Int).fmod (Nat.gcd n.natAbs d:Nat)),0):=by unfold wL;rw[<-dF,<-dF,if_pos (rB (by rw[Xbh];exact E) (by rw[Xbh];exact U)),cL,cL,if_neg (by omega),Xo I,dF]
 have hE:kL (zed n) (zed n)=0:=rB F F;have ha:=akM (zed n) Z;rw[if_pos hE,cL]at ha;have X:Bd (dec d)=1:=by unfold Bd;rw[<-dF,if_pos (pY _),cL,Int.sign_eq_one_of_pos (by omega)]
 have hs:=anK (dec d) Y;rw[X]at hs;have O:=afO (dec n.natAbs) (dec d) (dY F) Y;rw[show Ba (dec n.natAbs) (dec d)=(dec (Nat.gcd n.natAbs d),0)by unfold Ba;rw[if_pos (yQ F E),cE,cE,AD U]]at O;refine pcd func212 rfl rfl ?_;simp only[go_sem];refine aG hs ?_;simp only[go_sem];refine aA (fun J=>by cases J) (fun _=>?_);simp only[go_sem];refine aG ha ?_;simp only[go_sem];refine aG O ?_;simp only[go_sem];refine aG (OO (zed n) (dec (Nat.gcd n.natAbs d)) Z (dY U)) ?_;rw[eg];simp only[go_sem];refine aG (OO (dec d) (dec (Nat.gcd n.natAbs d)) Y (dY U)) ?_;rw[ed];simp only[go_sem,Fy];generalize mkRat n d=x at *;refine aA (fun J=>?_) (fun J=>?_)
 ·have h1:x.den=1:=sV.1 (lR.1 J);simp only[go_sem];rw[show lM x=zed x.num from if_pos h1];exact .refl _
 ·have h1:x.den≠1:=fun e=>nY.1 J (by rw[e])
  simp only[go_sem];have z1:=dT V.1;have z2:=dY V.2;have z3:(zed x.num++slB).size=(zed x.num).size+1:=by rw[ByteArray.size_append];rfl
  refine⟨by show((zed x.num).size+(1:Nat):Int)<=9223372036854775807;omega,?_⟩;refine⟨by show(((zed x.num).size+1+(dec x.den).size:Nat):Int)<=9223372036854775807;omega,?_⟩;rw[show lM x=zed x.num++slB++dec x.den from if_neg h1];exact .refl _
def C5(a b:ByteArray):List AV:=if(bZ a&&bZ b)=true then[str (gM a),str (gK a),str (gM b),str (gK b)]else[str emp,str emp,str emp,str emp]
def KI(a b:ByteArray):Int:=if(bZ a&&bZ b)=true then 0 else 3
def TW(a b:ByteArray)(Y:a.size<=1048576)(E:b.size<=1048576):PC prog 50 [str a,str b] (.tup [.agg (C5 a b),int (KI a b)]):=by
 have V:=Qt a Y;have O:=Qt b E;refine pcd func50 rfl rfl ?_;simp only[go_sem];refine aL fun j Z=>?_
 have R:=aB bQ j (some ⟨107,4,[[str emp,str emp,str emp,str emp]]⟩);have R:(aM bQ j (some { e:=107,sz:=4,es:=[[AV.v (Value.string ByteArray.empty),AV.v (Value.string ByteArray.empty),AV.v (Value.string ByteArray.empty),AV.v (Value.string ByteArray.empty)]] })) j=some ⟨107,4,[[str emp,str emp,str emp,str emp]]⟩:=R;generalize aM bQ j _=H1 at R |-;simp only[go_sem];refine aG V ?_;cases h1:bZ a with
 | false=>
  simp only[Xaz,if_false];simp only[go_sem];refine aG O ?_;have U:C5 a b=[str emp,str emp,str emp,str emp]:=if_neg (by rw[h1];simp);have X:KI a b=3:=if_neg (by rw[h1];simp);rw[U,X];cases J:bZ b with
  | false=>
   simp only[Xaz,if_false];simp only[go_sem];refine aA (fun _=>?_) (fun E=>by cases E);simp only[go_sem];refine aI R (by simp) ?_;generalize F:aM H1 j _=HP;have I:HP j=some (⟨107,4,[[str emp,str emp,str emp,str emp]]⟩:Row):=by rw[<-F,aB];rfl
   simp only[go_sem,I];exact .refl _
  | true=>
   simp only[if_true];simp only[go_sem];refine aA (fun _=>?_) (fun E=>by cases E);simp only[go_sem];refine aI R (by simp) ?_;generalize F:aM H1 j _=HP;have I:HP j=some (⟨107,4,[[str emp,str emp,str emp,str emp]]⟩:Row):=by rw[<-F,aB];rfl
   simp only[go_sem,I];exact .refl _
 | true=>
  simp only[if_true];simp only[go_sem];refine aG O ?_;cases J:bZ b with
  | false=>
   simp only[Xaz,if_false];simp only[go_sem];refine aA (fun _=>?_) (fun E=>by cases E);simp only[go_sem];rw[show C5 a b=[str emp,str emp,str emp,str emp]from if_neg (by rw[h1,J];simp),show KI a b=3 from if_neg (by rw[h1,J];simp)];refine aI R (by simp) ?_;generalize F:aM H1 j _=HP;have I:HP j=some (⟨107,4,[[str emp,str emp,str emp,str emp]]⟩:Row):=by rw[<-F,aB];rfl
   simp only[go_sem,I];exact .refl _
  | true=>
   simp only[if_true];simp only[go_sem];refine aA (fun E=>by cases E) (fun _=>?_);simp only[go_sem];rw[show C5 a b=[str (gM a),str (gK a),str (gM b),str (gK b)]from if_pos (by rw[h1,J];rfl),show KI a b=0 from if_pos (by rw[h1,J];rfl)];refine aI R (by simp) ?_;generalize F:aM H1 j _=HP;have I:HP j=some (⟨107,4,[[str (gM a),str (gK a),str (gM b),str (gK b)]]⟩:Row):=by rw[<-F,aB];rfl
   simp only[go_sem,I];exact .refl _
def asJ(x y:Rat)(F:tZ x)(J:tZ y):PC prog 209 [str (zed x.num),str (zed y.num),str (dec x.den),str (dec y.den)] (.tup [str (GJ x y).1,int (GJ x y).2]):=by
 have V:((x.den:Int)).natAbs<dA:=by rw[Xbh];exact F.2
 have O:((y.den:Int)).natAbs<dA:=by rw[Xbh];exact J.2
 have U:=HH (zed x.num) (zed y.num) (dT F.1) (dT J.1);have X:=HH (zed x.den) (zed y.den) (dT V) (dT O);rw[tQ F.1 J.1]at U;rw[tQ V O,dF,dF]at X;unfold GJ;refine pcd func209 rfl rfl ?_;simp only[go_sem];refine aG U ?_;simp only[go_sem];refine aG X ?_;simp only[go_sem];cases h1:nV (x.num*y.num)with
 | true=>rw[tC h1];refine aA (fun _=>?_) (fun E=>by cases E);simp only[go_sem];exact .refl _
 | false=>
  rw[yG h1];cases I:nV ((x.den:Int)*y.den)with
  | true=>rw[tC I];refine aA (fun _=>?_) (fun E=>by cases E);simp only[go_sem];exact .refl _
  | false=>
   rw[yG I];have Y:x.den*y.den<dA:=by rw[<-Cq];exact iH.1 I
   have:=LP (x.num*y.num) (x.den*y.den) (FB x y) (iH.1 h1) Y;rw[<-dF,Int.natCast_mul]at this;refine aA (fun E=>by cases E) (fun _=>?_);simp only[go_sem];refine aG this ?_;simp only[go_sem];rw[<-UZ];exact .refl _
def asL(a b:ByteArray)(U:a.size<=1048576)(I:b.size<=1048576):PC prog 148 [str a,str b] (.tup [str (wK a b).1,int (wK a b).2]):=by
 have E:=TW a b U I;by_cases F:(bZ a&&bZ b)=true;rotate_left
 ·rw[show C5 a b=_ from if_neg F,show KI a b=_ from if_neg F]at E;rw[show wK a b=(emp,3)from if_neg F];refine pcd func148 rfl rfl ?_;simp only[go_sem];refine aG E ?_;simp only[go_sem];refine aL fun j hj=>?_
  simp only[go_sem];refine aI (aB _ _ _) (by simp) ?_;simp only[go_sem];refine aA (fun _=>?_) (fun I=>by cases I);simp only[go_sem];exact .refl _
 rw[show C5 a b=_ from if_pos F,show KI a b=_ from if_pos F]at E;rw[show wK a b=_ from if_pos F];simp only[Xai]at F;obtain⟨x,rfl,J,O,X⟩:=fM F.1;obtain⟨y,rfl,hy,V,Z⟩:=fM F.2;rw[O,X,V,Z]at E;rw[fW,fW];have ho:=asJ x y J hy;refine pcd func148 rfl rfl ?_;simp only[go_sem];refine aG E ?_;simp only[go_sem];refine aL fun j hj=>?_
 simp only[go_sem];refine aI (aB _ _ _) (by simp) ?_;generalize hP:aM (aM _ j _) j _=HP;have Y:HP j=some (⟨107,4,[[str (zed x.num),str (dec x.den),str (zed y.num),str (dec y.den)]]⟩:Row):=by rw[<-hP,aB];rfl
 simp only[go_sem];refine aA (fun I=>by cases I) (fun _=>?_);simp only[go_sem,Y]
 repeat (refine⟨by first|decide|omega,?_⟩)
 refine aG ho ?_;simp only[go_sem];exact .refl _
def BF(a b:ByteArray)(ha:a.size<=1048576)(E:b.size<=1048576):PC prog 149 [str a,str b] (.tup [str (vR a b).1,int (vR a b).2]):=by
 have F:=TW a b ha E;by_cases I:(bZ a&&bZ b)=true;rotate_left
 ·rw[show C5 a b=_ from if_neg I,show KI a b=_ from if_neg I]at F;rw[show vR a b=(emp,3)from if_neg I];refine pcd func149 rfl rfl ?_;simp only[go_sem];refine aG F ?_;simp only[go_sem];refine aL fun j hj=>?_
  simp only[go_sem];refine aI (aB _ _ _) (by simp) ?_;simp only[go_sem];refine aA (fun _=>?_) (fun E=>by cases E);simp only[go_sem];exact .refl _
 rw[show C5 a b=_ from if_pos I,show KI a b=_ from if_pos I]at F;rw[show vR a b=_ from if_pos I];simp only[Xai]at I;obtain⟨x,rfl,V,e1,e2⟩:=fM I.1;obtain⟨y,rfl,Z,e3,e4⟩:=fM I.2;rw[e1,e2,e3,e4]at F;rw[fW,fW];have O:((x.den:Int)).natAbs<dA:=by rw[Xbh];exact V.2
 have U:((y.den:Int)).natAbs<dA:=by rw[Xbh];exact Z.2
 have m1:=HH (zed x.num) (zed y.den) (dT V.1) (dT U);have m2:=HH (zed y.num) (zed x.den) (dT Z.1) (dT O);have m3:=HH (zed x.den) (zed y.den) (dT O) (dT U);rw[tQ V.1 U,dF]at m1;rw[tQ Z.1 O,dF]at m2;rw[tQ O U,dF,dF]at m3;unfold yR;refine pcd func149 rfl rfl ?_;simp only[go_sem];refine aG F ?_;simp only[go_sem];refine aL fun j hj=>?_
 simp only[go_sem];refine aI (aB _ _ _) (by simp) ?_;generalize hP:aM (aM _ j _) j _=HP;have X:HP j=some (⟨107,4,[[str (zed x.num),str (dec x.den),str (zed y.num),str (dec y.den)]]⟩:Row):=by rw[<-hP,aB];rfl
 simp only[go_sem];refine aA (fun E=>by cases E) (fun _=>?_);simp only[go_sem,X]
 repeat (refine⟨by first|decide|omega,?_⟩)
 refine aG m1 ?_;simp only[go_sem,X]
 repeat (refine⟨by first|decide|omega,?_⟩)
 refine aG m2 ?_;simp only[go_sem,X]
 repeat (refine⟨by first|decide|omega,?_⟩)
 refine aG m3 ?_;simp only[go_sem];cases h1:nV (x.num*y.den)with
 | true=>rw[tC h1];refine aA (fun _=>?_) (fun E=>by cases E);simp only[go_sem];exact .refl _
 | false=>
 rw[yG h1];cases J:nV (y.num*x.den)with
 | true=>rw[tC J];refine aA (fun _=>?_) (fun E=>by cases E);simp only[go_sem];exact .refl _
 | false=>
 rw[yG J];cases h3:nV ((x.den:Int)*y.den)with
 | true=>rw[tC h3];refine aA (fun _=>?_) (fun E=>by cases E);simp only[go_sem,Bool.or_true];exact .refl _
 | false=>
 rw[yG h3];refine aA (fun E=>by cases E) (fun _=>?_);simp only[go_sem];have m4:=aqX (zed (x.num*y.den)) (zed (y.num*x.den)) (dT (iH.1 h1)) (dT (iH.1 J));rw[RH (iH.1 h1) (iH.1 J)]at m4;refine aG m4 ?_;simp only[go_sem];rw[O4];generalize x.num*y.den+y.num*x.den=N at *;cases Y:nV N with
 | true=>rw[tC Y];refine aA (fun _=>?_) (fun E=>by cases E);simp only[go_sem];exact .refl _
 | false=>
 rw[yG Y];refine aA (fun E=>by cases E) (fun _=>?_);simp only[go_sem];have hD:x.den*y.den<dA:=by rw[<-Cq];exact iH.1 h3
 have:=LP N (x.den*y.den) (FB x y) (iH.1 Y) hD;rw[<-dF,Int.natCast_mul]at this;refine aG this ?_;simp only[go_sem];exact .refl _
end Go.Proofs.YtpagaknmdfgfkaaGreatDoor.Nu
end
