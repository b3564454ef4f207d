import Derived.Test.YtohmomanmikphaaGreatDoorPl09
set_option linter.unusedSimpArgs false
set_option linter.unusedVariables false
set_option maxRecDepth 100000
namespace Go.Proofs.YtohmomanmikphaaGreatDoor.Nu
open Go.Proofs.Tryz(prog)
open Go.Aw Go.Aw.D Go.Proofs Ty Go.Nu
theorem H6(n:Int)(d:Nat)(J:d≠0)(E:n.natAbs<cK)(u:d<cK):PC prog 134 [str (zed n),str (dec d)] (str (jM (mkRat n d))):=by
 have I:=Iv (n:=n) J u;have aa:=RG (n:=n) J;have F:=BA J E u;have zn:=cT E;have T:=dB u;have eg:rX (zed n) (dec (Nat.gcd n.natAbs d))=(zed (mkRat n d).num,zed (n.fmod (Nat.gcd n.natAbs d:Nat)),0):=by
   unfold rX;rw[<-cN,if_pos (nM E (by rw[Xay];exact I)),bX,bX,if_neg (by omega),Q7 J]
 have ed:rX (dec d) (dec (Nat.gcd n.natAbs d))=(dec (mkRat n d).den,zed ((d:Int).fmod (Nat.gcd n.natAbs d:Nat)),0):=by
   unfold rX;rw[<-cN,<-cN,if_pos (nM (by rw[Xay];exact u) (by rw[Xay];exact I)),bX,bX,if_neg (by omega),Sx J,cN]
 have hE:iO (zed n) (zed n)=0:=nM E E;have ha:=X3 (zed n) zn;rw[if_pos hE,bX]at ha;have Z:xG (dec d)=1:=by
   unfold xG;rw[<-cN,if_pos (mK _),bX,Int.sign_eq_one_of_pos (by omega)]
 have hs:=abR (dec d) T;rw[Z]at hs;have M:=Xi (dec n.natAbs) (dec d) (dB E) T;rw[show xC (dec n.natAbs) (dec d)=(dec (Nat.gcd n.natAbs d),0)by unfold xC;rw[if_pos (uR E u),bU,bU,wK I]]at M;refine pcd Tryz.func134 ?_;unfold Tryz.f134;simp only[gdS];simp only[go_sem];refine PC.use hs ?_;simp only[go_sem];refine aA (fun O=>by cases O) (fun _=>?_);simp only[go_sem];refine PC.use ha ?_;simp only[go_sem];refine PC.use M ?_;simp only[go_sem];refine PC.use (Kv (zed n) (dec (Nat.gcd n.natAbs d)) zn (dB I)) ?_;rw[eg];simp only[go_sem];refine PC.use (Kv (dec d) (dec (Nat.gcd n.natAbs d)) T (dB I)) ?_;rw[ed];simp only[go_sem,Cp];generalize mkRat n d=x at *;refine aA (fun O=>?_) (fun O=>?_)
 . have h1:x.den=1:=pB.1 (jQ.1 O)
   simp only[go_sem];rw[show jM x=zed x.num from if_pos h1];exact .refl _
 . have h1:x.den≠1:=fun e=>kW.1 O (by rw[e])
   simp only[go_sem];have z1:=cT F.1;have z2:=dB F.2;have z3:(zed x.num++slB).size=(zed x.num).size+1:=by rw[ByteArray.size_append];rfl
   refine⟨by show((zed x.num).size+(1:Nat):Int)<=9223372036854775807;omega,?_⟩;refine⟨by show(((zed x.num).size+1+(dec x.den).size:Nat):Int)<=9223372036854775807;omega,?_⟩;rw[show jM x=zed x.num++slB++dec x.den from if_neg h1];exact .refl _
def Al(a b:ByteArray):List AV:=if(bQ a&&bQ b)=true then[str (fD a),str (eZ a),str (fD b),str (eZ b)]else[str emp,str emp,str emp,str emp]
def GK(a b:ByteArray):Int:=if(bQ a&&bQ b)=true then 0 else 3
theorem Ok(a b:ByteArray)(T:a.size<=1048576)(u:b.size<=1048576):PC prog 46 [str a,str b] (.tup [.agg (Al a b),int (GK a b)]):=by
 have M:=Mj a T;have J:=Mj b u;refine pcd Tryz.func46 ?_;unfold Tryz.f46;simp only[gdS];simp only[go_sem];refine aK fun j hj=>?_
 have R:=aB bY j (some ⟨89,4,[[str emp,str emp,str emp,str emp]]⟩);have R:(aI bY j (some { e:=89,sz:=4,es:=[[AV.v (Value.string ByteArray.empty),AV.v (Value.string ByteArray.empty),AV.v (Value.string ByteArray.empty),AV.v (Value.string ByteArray.empty)]] })) j=some ⟨89,4,[[str emp,str emp,str emp,str emp]]⟩:=R;generalize aI bY j _=H1 at R |-;simp only[go_sem];refine PC.use M ?_;cases h1:bQ a with
 | false=>
   simp only[Xbb,if_false];simp only[go_sem];refine PC.use J ?_;have Z:Al a b=[str emp,str emp,str emp,str emp]:=if_neg (by rw[h1];simp);have O:GK a b=3:=if_neg (by rw[h1];simp);rw[Z,O];cases I:bQ b with
   | false=>
     simp only[Xbb,if_false];simp only[go_sem];refine aA (fun _=>?_) (fun u=>by cases u);simp only[go_sem];refine aJ R (by simp) ?_;generalize E:aI H1 j _=HP;have F:HP j=some (⟨89,4,[[str emp,str emp,str emp,str emp]]⟩:Row):=by rw[<-E,aB];rfl
     simp only[go_sem,F];exact .refl _
   | true=>
     simp only[if_true];simp only[go_sem];refine aA (fun _=>?_) (fun u=>by cases u);simp only[go_sem];refine aJ R (by simp) ?_;generalize E:aI H1 j _=HP;have F:HP j=some (⟨89,4,[[str emp,str emp,str emp,str emp]]⟩:Row):=by rw[<-E,aB];rfl
     simp only[go_sem,F];exact .refl _
 | true=>
   simp only[if_true];simp only[go_sem];refine PC.use J ?_;cases I:bQ b with
   | false=>
     simp only[Xbb,if_false];simp only[go_sem];refine aA (fun _=>?_) (fun u=>by cases u);simp only[go_sem];rw[show Al a b=[str emp,str emp,str emp,str emp]from if_neg (by rw[h1,I];simp),show GK a b=3 from if_neg (by rw[h1,I];simp)];refine aJ R (by simp) ?_;generalize E:aI H1 j _=HP;have F:HP j=some (⟨89,4,[[str emp,str emp,str emp,str emp]]⟩:Row):=by rw[<-E,aB];rfl
     simp only[go_sem,F];exact .refl _
   | true=>
     simp only[if_true];simp only[go_sem];refine aA (fun u=>by cases u) (fun _=>?_);simp only[go_sem];rw[show Al a b=[str (fD a),str (eZ a),str (fD b),str (eZ b)]from if_pos (by rw[h1,I];rfl),show GK a b=0 from if_pos (by rw[h1,I];rfl)];refine aJ R (by simp) ?_;generalize E:aI H1 j _=HP;have F:HP j=some (⟨89,4,[[str (fD a),str (eZ a),str (fD b),str (eZ b)]]⟩:Row):=by rw[<-E,aB];rfl
     simp only[go_sem,F];exact .refl _
theorem ajC(x y:Rat)(I:pW x)(F:pW y):PC prog 131 [str (zed x.num),str (zed y.num),str (dec x.den),str (dec y.den)] (.tup [str (Dr x y).1,int (Dr x y).2]):=by
 have M:((x.den:Int)).natAbs<cK:=by rw[Xay];exact I.2
 have T:((y.den:Int)).natAbs<cK:=by rw[Xay];exact F.2
 have J:=Fw (zed x.num) (zed y.num) (cT I.1) (cT F.1);have O:=Fw (zed x.den) (zed y.den) (cT M) (cT T);rw[pN I.1 F.1]at J;rw[pN M T,cN,cN]at O;unfold Dr;refine pcd Tryz.func131 ?_;unfold Tryz.f131;simp only[gdS];simp only[go_sem];refine PC.use J ?_;simp only[go_sem];refine PC.use O ?_;simp only[go_sem];cases h1:lF (x.num*y.num)with
 | true=>
   rw[pF h1];refine aA (fun _=>?_) (fun u=>by cases u);simp only[go_sem];exact .refl _
 | false=>
   rw[tS h1];cases E:lF ((x.den:Int)*y.den)with
   | true=>
     rw[pF E];refine aA (fun _=>?_) (fun u=>by cases u);simp only[go_sem];exact .refl _
   | false=>
     rw[tS E];have Z:x.den*y.den<cK:=by rw[<-yY];exact fW.1 E
     have:=H6 (x.num*y.num) (x.den*y.den) (Cq x y) (fW.1 h1) Z;rw[<-cN,Int.natCast_mul]at this;refine aA (fun u=>by cases u) (fun _=>?_);simp only[go_sem];refine PC.use this ?_;simp only[go_sem];rw[<-Qr];exact .refl _
theorem agR(a b:ByteArray)(ha:a.size<=1048576)(F:b.size<=1048576):PC prog 73 [str a,str b] (.tup [str (rW a b).1,int (rW a b).2]):=by
 have u:=Ok a b ha F;by_cases E:(bQ a&&bQ b)=true
 rotate_left
 . rw[show Al a b=_ from if_neg E,show GK a b=_ from if_neg E]at u
   rw[show rW a b=(emp,3)from if_neg E];refine pcd Tryz.func73 ?_;unfold Tryz.f73;simp only[gdS];simp only[go_sem];refine PC.use u ?_;simp only[go_sem];refine aK fun j hj=>?_
   simp only[go_sem];refine aJ (aB _ _ _) (by simp) ?_;simp only[go_sem];refine aA (fun _=>?_) (fun F=>by cases F);simp only[go_sem];exact .refl _
 rw[show Al a b=_ from if_pos E,show GK a b=_ from if_pos E]at u;rw[show rW a b=_ from if_pos E];simp only[Xap]at E;obtain⟨x,rfl,O,e1,e2⟩:=dZ E.1;obtain⟨y,rfl,Z,e3,M⟩:=dZ E.2;rw[e1,e2,e3,M]at u;rw[eH,eH];have I:=ajC x y O Z;refine pcd Tryz.func73 ?_;unfold Tryz.f73;simp only[gdS];simp only[go_sem];refine PC.use u ?_;simp only[go_sem];refine aK fun j hj=>?_
 simp only[go_sem];refine aJ (aB _ _ _) (by simp) ?_;generalize J:aI (aI _ j _) j _=HP;have T:HP j=some (⟨89,4,[[str (zed x.num),str (dec x.den),str (zed y.num),str (dec y.den)]]⟩:Row):=by rw[<-J,aB];rfl
 simp only[go_sem];refine aA (fun F=>by cases F) (fun _=>?_);simp only[go_sem,T]
 repeat (refine⟨by first|decide|omega,?_⟩)
 refine PC.use I ?_;simp only[go_sem];exact .refl _
theorem Vv(a b:ByteArray)(ha:a.size<=1048576)(E:b.size<=1048576):PC prog 74 [str a,str b] (.tup [str (rO a b).1,int (rO a b).2]):=by
 have u:=Ok a b ha E;by_cases F:(bQ a&&bQ b)=true
 rotate_left
 . rw[show Al a b=_ from if_neg F,show GK a b=_ from if_neg F]at u
   rw[show rO a b=(emp,3)from if_neg F];refine pcd Tryz.func74 ?_;unfold Tryz.f74;simp only[gdS];simp only[go_sem];refine PC.use u ?_;simp only[go_sem];refine aK fun j hj=>?_
   simp only[go_sem];refine aJ (aB _ _ _) (by simp) ?_;simp only[go_sem];refine aA (fun _=>?_) (fun E=>by cases E);simp only[go_sem];exact .refl _
 rw[show Al a b=_ from if_pos F,show GK a b=_ from if_pos F]at u;rw[show rO a b=_ from if_pos F];simp only[Xap]at F;obtain⟨x,rfl,T,e1,e2⟩:=dZ F.1;obtain⟨y,rfl,hy,e3,e4⟩:=dZ F.2;rw[e1,e2,e3,e4]at u;rw[eH,eH];have J:((x.den:Int)).natAbs<cK:=by rw[Xay];exact T.2
 have M:((y.den:Int)).natAbs<cK:=by rw[Xay];exact hy.2
 have m1:=Fw (zed x.num) (zed y.den) (cT T.1) (cT M);have m2:=Fw (zed y.num) (zed x.den) (cT hy.1) (cT J);have m3:=Fw (zed x.den) (zed y.den) (cT J) (cT M);rw[pN T.1 M,cN]at m1;rw[pN hy.1 J,cN]at m2;rw[pN J M,cN,cN]at m3;unfold CY;refine pcd Tryz.func74 ?_;unfold Tryz.f74;simp only[gdS];simp only[go_sem];refine PC.use u ?_;simp only[go_sem];refine aK fun j hj=>?_
 simp only[go_sem];refine aJ (aB _ _ _) (by simp) ?_;generalize hP:aI (aI _ j _) j _=HP;have Z:HP j=some (⟨89,4,[[str (zed x.num),str (dec x.den),str (zed y.num),str (dec y.den)]]⟩:Row):=by rw[<-hP,aB];rfl
 simp only[go_sem];refine aA (fun E=>by cases E) (fun _=>?_);simp only[go_sem,Z]
 repeat (refine⟨by first|decide|omega,?_⟩)
 refine PC.use m1 ?_;simp only[go_sem,Z]
 repeat (refine⟨by first|decide|omega,?_⟩)
 refine PC.use m2 ?_;simp only[go_sem,Z]
 repeat (refine⟨by first|decide|omega,?_⟩)
 refine PC.use m3 ?_;simp only[go_sem];cases h1:lF (x.num*y.den)with
 | true=>
   rw[pF h1];refine aA (fun _=>?_) (fun E=>by cases E);simp only[go_sem];exact .refl _
 | false=>
 rw[tS h1];cases I:lF (y.num*x.den)with
 | true=>
   rw[pF I];refine aA (fun _=>?_) (fun E=>by cases E);simp only[go_sem];exact .refl _
 | false=>
 rw[tS I];cases h3:lF ((x.den:Int)*y.den)with
 | true=>
   rw[pF h3];refine aA (fun _=>?_) (fun E=>by cases E);simp only[go_sem,Bool.or_true,if_true];exact .refl _
 | false=>
 rw[tS h3];refine aA (fun E=>by cases E) (fun _=>?_);simp only[go_sem];have m4:=agZ (zed (x.num*y.den)) (zed (y.num*x.den)) (cT (fW.1 h1)) (cT (fW.1 I));rw[Oc (fW.1 h1) (fW.1 I)]at m4;refine PC.use m4 ?_;simp only[go_sem];rw[JY];generalize x.num*y.den+y.num*x.den=N at *;cases O:lF N with
 | true=>
   rw[pF O];refine aA (fun _=>?_) (fun E=>by cases E);simp only[go_sem];exact .refl _
 | false=>
 rw[tS O];refine aA (fun E=>by cases E) (fun _=>?_);simp only[go_sem];have hD:x.den*y.den<cK:=by rw[<-yY];exact fW.1 h3
 have:=H6 N (x.den*y.den) (Cq x y) (fW.1 O) hD;rw[<-cN,Int.natCast_mul]at this;refine PC.use this ?_;simp only[go_sem];exact .refl _
end Go.Proofs.YtohmomanmikphaaGreatDoor.Nu
