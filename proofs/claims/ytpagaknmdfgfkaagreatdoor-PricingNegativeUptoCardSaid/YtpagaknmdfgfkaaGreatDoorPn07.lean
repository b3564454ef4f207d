import Derived.Test.YtpagaknmdfgfkaaGreatDoorPn06
set_option linter.unusedSimpArgs false
set_option linter.unusedVariables false
set_option linter.defProp false
set_option maxRecDepth 100000
namespace Go.Proofs.YtpagaknmdfgfkaaGreatDoor.Nu
open Go.Proofs.Tryz
open Go.Aw Go.Aw.D Go.Proofs Ty Go.Nu
def LS(n:Int)(d:Nat)(I:d≠0)(F:n.natAbs<cY)(E:d<cY):PC prog 212 [str (zed n),str (dec d)] (str (lO (mkRat n d))):=by
 have X:=MD (n:=n) I E;have aa:=Xu (n:=n) I;have T:=DY I F E;have zn:=dR F;have Z:=dX E;have eg:wQ (zed n) (dec (Nat.gcd n.natAbs d))=(zed (mkRat n d).num,zed (n.fmod (Nat.gcd n.natAbs d:Nat)),0):=by unfold wQ;rw[<-dJ,if_pos (rF F (by rw[Xbo];exact X)),cG,cG,if_neg (by omega),Yj I]
 have ed:wQ (dec d) (dec (Nat.gcd n.natAbs d))=(dec (mkRat n d).den,zed ((d:Int).fmod (Nat.gcd n.natAbs d:Nat)),0):=by unfold wQ;rw[<-dJ,<-dJ,if_pos (rF (by rw[Xbo];exact E) (by rw[Xbo];exact X)),cG,cG,if_neg (by omega),X4 I,dJ]
 have hE:kJ (zed n) (zed n)=0:=rF F F;have ha:=ahE (zed n) zn;rw[if_pos hE,cG]at ha;have Y:BI (dec d)=1:=by unfold BI;rw[<-dJ,if_pos (sR _),cG,Int.sign_eq_one_of_pos (by omega)]
 have hs:=apE (dec d) Z;rw[Y]at hs;have J:=adD (dec n.natAbs) (dec d) (dX F) Z;rw[show Bd (dec n.natAbs) (dec d)=(dec (Nat.gcd n.natAbs d),0)by unfold Bd;rw[if_pos (zE F E),cX,cX,Ah X]]at J;refine pcd func212 rfl rfl ?_;simp only[go_sem];refine aH hs ?_;simp only[go_sem];refine aA (fun O=>by cases O) (fun _=>?_);simp only[go_sem];refine aH ha ?_;simp only[go_sem];refine aH J ?_;simp only[go_sem];refine aH (Pq (zed n) (dec (Nat.gcd n.natAbs d)) zn (dX X)) ?_;rw[eg];simp only[go_sem];refine aH (Pq (dec d) (dec (Nat.gcd n.natAbs d)) Z (dX X)) ?_;rw[ed];simp only[go_sem,Fm];generalize mkRat n d=x at *;refine aA (fun O=>?_) (fun O=>?_)
 ·have h1:x.den=1:=sC.1 (lP.1 O);simp only[go_sem];rw[show lO x=zed x.num from if_pos h1];exact .refl _
 ·have h1:x.den≠1:=fun e=>nX.1 O (by rw[e])
  simp only[go_sem];have z1:=dR T.1;have z2:=dX T.2;have z3:(zed x.num++slB).size=(zed x.num).size+1:=by rw[ByteArray.size_append];rfl
  refine⟨by show((zed x.num).size+(1:Nat):Int)<=9223372036854775807;omega,?_⟩;refine⟨by show(((zed x.num).size+1+(dec x.den).size:Nat):Int)<=9223372036854775807;omega,?_⟩;rw[show lO x=zed x.num++slB++dec x.den from if_neg h1];exact .refl _
def C8(a b:ByteArray):List AV:=if(bV a&&bV b)=true then[str (gX a),str (gQ a),str (gX b),str (gQ b)]else[str emp,str emp,str emp,str emp]
def KU(a b:ByteArray):Int:=if(bV a&&bV b)=true then 0 else 3
def Un(a b:ByteArray)(Y:a.size<=1048576)(E:b.size<=1048576):PC prog 50 [str a,str b] (.tup [.agg (C8 a b),int (KU a b)]):=by
 have X:=Ru a Y;have O:=Ru b E;refine pcd func50 rfl rfl ?_;simp only[go_sem];refine aN fun j hj=>?_
 have R:=aB bQ j (some ⟨107,4,[[str emp,str emp,str emp,str emp]]⟩);have R:(aM bQ j (some { e:=107,sz:=4,es:=[[AV.v (Value.string ByteArray.empty),AV.v (Value.string ByteArray.empty),AV.v (Value.string ByteArray.empty),AV.v (Value.string ByteArray.empty)]] })) j=some ⟨107,4,[[str emp,str emp,str emp,str emp]]⟩:=R;generalize aM bQ j _=H1 at R |-;simp only[go_sem];refine aH X ?_;cases h1:bV a with
 | false=>
  simp only[Xbg,if_false];simp only[go_sem];refine aH O ?_;have T:C8 a b=[str emp,str emp,str emp,str emp]:=if_neg (by rw[h1];simp);have Z:KU a b=3:=if_neg (by rw[h1];simp);rw[T,Z];cases J:bV b with
  | false=>
   simp only[Xbg,if_false];simp only[go_sem];refine aA (fun _=>?_) (fun E=>by cases E);simp only[go_sem];refine aI R (by simp) ?_;generalize I:aM H1 j _=HP;have F:HP j=some (⟨107,4,[[str emp,str emp,str emp,str emp]]⟩:Row):=by rw[<-I,aB];rfl
   simp only[go_sem,F];exact .refl _
  | true=>
   simp only[if_true];simp only[go_sem];refine aA (fun _=>?_) (fun E=>by cases E);simp only[go_sem];refine aI R (by simp) ?_;generalize I:aM H1 j _=HP;have F:HP j=some (⟨107,4,[[str emp,str emp,str emp,str emp]]⟩:Row):=by rw[<-I,aB];rfl
   simp only[go_sem,F];exact .refl _
 | true=>
  simp only[if_true];simp only[go_sem];refine aH O ?_;cases J:bV b with
  | false=>
   simp only[Xbg,if_false];simp only[go_sem];refine aA (fun _=>?_) (fun E=>by cases E);simp only[go_sem];rw[show C8 a b=[str emp,str emp,str emp,str emp]from if_neg (by rw[h1,J];simp),show KU a b=3 from if_neg (by rw[h1,J];simp)];refine aI R (by simp) ?_;generalize I:aM H1 j _=HP;have F:HP j=some (⟨107,4,[[str emp,str emp,str emp,str emp]]⟩:Row):=by rw[<-I,aB];rfl
   simp only[go_sem,F];exact .refl _
  | true=>
   simp only[if_true];simp only[go_sem];refine aA (fun E=>by cases E) (fun _=>?_);simp only[go_sem];rw[show C8 a b=[str (gX a),str (gQ a),str (gX b),str (gQ b)]from if_pos (by rw[h1,J];rfl),show KU a b=0 from if_pos (by rw[h1,J];rfl)];refine aI R (by simp) ?_;generalize I:aM H1 j _=HP;have F:HP j=some (⟨107,4,[[str (gX a),str (gQ a),str (gX b),str (gQ b)]]⟩:Row):=by rw[<-I,aB];rfl
   simp only[go_sem,F];exact .refl _
def auX(x y:Rat)(F:uD x)(J:uD y):PC prog 209 [str (zed x.num),str (zed y.num),str (dec x.den),str (dec y.den)] (.tup [str (Hi x y).1,int (Hi x y).2]):=by
 have T:((x.den:Int)).natAbs<cY:=by rw[Xbo];exact F.2
 have Y:((y.den:Int)).natAbs<cY:=by rw[Xbo];exact J.2
 have O:=IU (zed x.num) (zed y.num) (dR F.1) (dR J.1);have X:=IU (zed x.den) (zed y.den) (dR T) (dR Y);rw[uA F.1 J.1]at O;rw[uA T Y,dJ,dJ]at X;unfold Hi;refine pcd func209 rfl rfl ?_;simp only[go_sem];refine aH O ?_;simp only[go_sem];refine aH X ?_;simp only[go_sem];cases h1:nQ (x.num*y.num)with
 | true=>rw[tE h1];refine aA (fun _=>?_) (fun E=>by cases E);simp only[go_sem];exact .refl _
 | false=>
  rw[xS h1];cases I:nQ ((x.den:Int)*y.den)with
  | true=>rw[tE I];refine aA (fun _=>?_) (fun E=>by cases E);simp only[go_sem];exact .refl _
  | false=>
   rw[xS I];have Z:x.den*y.den<cY:=by rw[<-CN];exact iK.1 I
   have:=LS (x.num*y.num) (x.den*y.den) (F7 x y) (iK.1 h1) Z;rw[<-dJ,Int.natCast_mul]at this;refine aA (fun E=>by cases E) (fun _=>?_);simp only[go_sem];refine aH this ?_;simp only[go_sem];rw[<-WG];exact .refl _
def avG(a b:ByteArray)(ha:a.size<=1048576)(I:b.size<=1048576):PC prog 148 [str a,str b] (.tup [str (wN a b).1,int (wN a b).2]):=by
 have E:=Un a b ha I;by_cases F:(bV a&&bV b)=true;rotate_left
 ·rw[show C8 a b=_ from if_neg F,show KU a b=_ from if_neg F]at E;rw[show wN a b=(emp,3)from if_neg F];refine pcd func148 rfl rfl ?_;simp only[go_sem];refine aH E ?_;simp only[go_sem];refine aN fun j Y=>?_
  simp only[go_sem];refine aI (aB _ _ _) (by simp) ?_;simp only[go_sem];refine aA (fun _=>?_) (fun I=>by cases I);simp only[go_sem];exact .refl _
 rw[show C8 a b=_ from if_pos F,show KU a b=_ from if_pos F]at E;rw[show wN a b=_ from if_pos F];simp only[Xak]at F;obtain⟨x,rfl,O,J,e2⟩:=fF F.1;obtain⟨y,rfl,hy,e3,X⟩:=fF F.2;rw[J,e2,e3,X]at E;rw[fN,fN];have ho:=auX x y O hy;refine pcd func148 rfl rfl ?_;simp only[go_sem];refine aH E ?_;simp only[go_sem];refine aN fun j Y=>?_
 simp only[go_sem];refine aI (aB _ _ _) (by simp) ?_;generalize Z:aM (aM _ j _) j _=HP;have T:HP j=some (⟨107,4,[[str (zed x.num),str (dec x.den),str (zed y.num),str (dec y.den)]]⟩:Row):=by rw[<-Z,aB];rfl
 simp only[go_sem];refine aA (fun I=>by cases I) (fun _=>?_);simp only[go_sem,T]
 repeat (refine⟨by first|decide|omega,?_⟩)
 refine aH ho ?_;simp only[go_sem];exact .refl _
def BB(a b:ByteArray)(ha:a.size<=1048576)(E:b.size<=1048576):PC prog 149 [str a,str b] (.tup [str (wO a b).1,int (wO a b).2]):=by
 have F:=Un a b ha E;by_cases I:(bV a&&bV b)=true;rotate_left
 ·rw[show C8 a b=_ from if_neg I,show KU a b=_ from if_neg I]at F;rw[show wO a b=(emp,3)from if_neg I];refine pcd func149 rfl rfl ?_;simp only[go_sem];refine aH F ?_;simp only[go_sem];refine aN fun j hj=>?_
  simp only[go_sem];refine aI (aB _ _ _) (by simp) ?_;simp only[go_sem];refine aA (fun _=>?_) (fun E=>by cases E);simp only[go_sem];exact .refl _
 rw[show C8 a b=_ from if_pos I,show KU a b=_ from if_pos I]at F;rw[show wO a b=_ from if_pos I];simp only[Xak]at I;obtain⟨x,rfl,Y,e1,e2⟩:=fF I.1;obtain⟨y,rfl,hy,e3,e4⟩:=fF I.2;rw[e1,e2,e3,e4]at F;rw[fN,fN];have O:((x.den:Int)).natAbs<cY:=by rw[Xbo];exact Y.2
 have J:((y.den:Int)).natAbs<cY:=by rw[Xbo];exact hy.2
 have m1:=IU (zed x.num) (zed y.den) (dR Y.1) (dR J);have m2:=IU (zed y.num) (zed x.den) (dR hy.1) (dR O);have m3:=IU (zed x.den) (zed y.den) (dR O) (dR J);rw[uA Y.1 J,dJ]at m1;rw[uA hy.1 O,dJ]at m2;rw[uA O J,dJ,dJ]at m3;unfold yQ;refine pcd func149 rfl rfl ?_;simp only[go_sem];refine aH F ?_;simp only[go_sem];refine aN fun j hj=>?_
 simp only[go_sem];refine aI (aB _ _ _) (by simp) ?_;generalize hP:aM (aM _ j _) j _=HP;have Z:HP j=some (⟨107,4,[[str (zed x.num),str (dec x.den),str (zed y.num),str (dec y.den)]]⟩:Row):=by rw[<-hP,aB];rfl
 simp only[go_sem];refine aA (fun E=>by cases E) (fun _=>?_);simp only[go_sem,Z]
 repeat (refine⟨by first|decide|omega,?_⟩)
 refine aH m1 ?_;simp only[go_sem,Z]
 repeat (refine⟨by first|decide|omega,?_⟩)
 refine aH m2 ?_;simp only[go_sem,Z]
 repeat (refine⟨by first|decide|omega,?_⟩)
 refine aH m3 ?_;simp only[go_sem];cases h1:nQ (x.num*y.den)with
 | true=>rw[tE h1];refine aA (fun _=>?_) (fun E=>by cases E);simp only[go_sem];exact .refl _
 | false=>
 rw[xS h1];cases T:nQ (y.num*x.den)with
 | true=>rw[tE T];refine aA (fun _=>?_) (fun E=>by cases E);simp only[go_sem];exact .refl _
 | false=>
 rw[xS T];cases X:nQ ((x.den:Int)*y.den)with
 | true=>rw[tE X];refine aA (fun _=>?_) (fun E=>by cases E);simp only[go_sem,Bool.or_true];exact .refl _
 | false=>
 rw[xS X];refine aA (fun E=>by cases E) (fun _=>?_);simp only[go_sem];have m4:=auM (zed (x.num*y.den)) (zed (y.num*x.den)) (dR (iK.1 h1)) (dR (iK.1 T));rw[TM (iK.1 h1) (iK.1 T)]at m4;refine aH m4 ?_;simp only[go_sem];rw[PG];generalize x.num*y.den+y.num*x.den=N at *;cases h4:nQ N with
 | true=>rw[tE h4];refine aA (fun _=>?_) (fun E=>by cases E);simp only[go_sem];exact .refl _
 | false=>
 rw[xS h4];refine aA (fun E=>by cases E) (fun _=>?_);simp only[go_sem];have hD:x.den*y.den<cY:=by rw[<-CN];exact iK.1 X
 have:=LS N (x.den*y.den) (F7 x y) (iK.1 h4) hD;rw[<-dJ,Int.natCast_mul]at this;refine aH this ?_;simp only[go_sem];exact .refl _
end Go.Proofs.YtpagaknmdfgfkaaGreatDoor.Nu
