/- Texts joined by a program: NuZc, NuZd. -/
import Derived.Test.YtdlijlecpopadaaGreatDoorZy18

section
set_option linter.unusedSimpArgs false
set_option linter.unusedVariables false
namespace Go.Proofs.YtdlijlecpopadaaGreatDoor.Nu
open Go.Aw Go.Aw.D Go.Proofs Ty Go.Nu
set_option maxRecDepth 100000
theorem Pc(n:Int)(d:Nat)(hd:d≠0)(hn:n.natAbs<cC)(hdm:d<cC):PC Tryz.prog 277 [str (zed n),str (dec d)] (str (hJ (mkRat n d))):=by
 have hg:=Fy (n:=n) hd hdm;have hg0:=HZ (n:=n) hd;have hsm:=Dd hd hn hdm;have zn:=dL hn;have zd:=cV hdm;have eg:qR (zed n) (dec (Nat.gcd n.natAbs d))=(zed (mkRat n d).num,zed (n.fmod (Nat.gcd n.natAbs d:Nat)),0):=by
   unfold qR;rw[←cX,if_pos (nK hn (by rw[Int.natAbs_natCast];exact hg)),bV,bV,if_neg (by omega),Hi hd]
 have ed:qR (dec d) (dec (Nat.gcd n.natAbs d))=(dec (mkRat n d).den,zed ((d:Int).fmod (Nat.gcd n.natAbs d:Nat)),0):=by
   unfold qR;rw[←cX,←cX,if_pos (nK (by rw[Int.natAbs_natCast];exact hdm) (by rw[Int.natAbs_natCast];exact hg)),bV,bV,if_neg (by omega),Il hd,cX]
 have hE:iQ (zed n) (zed n)=0:=nK hn hn;have ha:=Td (zed n) zn;rw[if_pos hE,bV]at ha;have hsg:FY (dec d)=1:=by
   unfold FY;rw[←cX,if_pos (nT _),bV,Int.sign_eq_one_of_pos (by omega)]
 have hs:=XG (dec d) zd;rw[hsg]at hs;have hgc:=Ul (dec n.natAbs) (dec d) (cV hn) zd;rw[show vA (dec n.natAbs) (dec d)=(dec (Nat.gcd n.natAbs d),0)by unfold vA;rw[if_pos (tC hn hdm),bO,bO,tJ hg]]at hgc;refine PC.body (c:=Tryz.f277.body.getD .skip) (fun _=>false) mixed Tryz.func277 rfl (by kernel_rfl) ?_;unfold Tryz.f277;simp only[Option.getD_some];simp only[go_sem];refine PC.use hs ?_;simp only[go_sem];refine aB (fun hb=>by cases hb) (fun _=>?_);simp only[go_sem];refine PC.use ha ?_;simp only[go_sem];refine PC.use hgc ?_;simp only[go_sem];refine PC.use (Hc (zed n) (dec (Nat.gcd n.natAbs d)) zn (cV hg)) ?_;rw[eg];simp only[go_sem];refine PC.use (Hc (dec d) (dec (Nat.gcd n.natAbs d)) zd (cV hg)) ?_;rw[ed];simp only[go_sem,AL];generalize mkRat n d=x at *;refine aB (fun hb=>?_) (fun hb=>?_)
 · have h1:x.den=1:=nW.1 (kB.1 hb)
   simp only[go_sem];rw[show hJ x=zed x.num from if_pos h1];exact .refl _
 · have h1:x.den≠1:=fun e=>lS.1 hb (by rw[e])
   simp only[go_sem];have z1:=dL hsm.1;have z2:=cV hsm.2;have z3:(zed x.num++slB).size=(zed x.num).size+1:=by rw[ByteArray.size_append];rfl
   refine⟨by show((zed x.num).size+(1:Nat):Int)≤9223372036854775807;omega,?_⟩;refine⟨by show(((zed x.num).size+1+(dec x.den).size:Nat):Int)≤9223372036854775807;omega,?_⟩;rw[show hJ x=zed x.num++slB++dec x.den from if_neg h1];exact .refl _
def BA(a b:ByteArray):List AV:=if(cK a&&cK b)=true then[str (fI a),str (eZ a),str (fI b),str (eZ b)]else[str emp,str emp,str emp,str emp]
def IK(a b:ByteArray):Int:=if(cK a&&cK b)=true then 0 else 3
theorem Sf(a b:ByteArray)(ha:a.size≤1048576)(hb:b.size≤1048576):PC Tryz.prog 237 [str a,str b] (.tup [.agg (BA a b),int (IK a b)]):=by
 have pa:=IT a ha;have pb:=IT b hb;refine PC.body (c:=Tryz.f237.body.getD .skip) (fun _=>false) mixed Tryz.func237 rfl (by kernel_rfl) ?_;unfold Tryz.f237;simp only[Option.getD_some];simp only[go_sem];refine aL fun j hj=>?_
 have R:=aA bU j (some ⟨289,4,[[str emp,str emp,str emp,str emp]]⟩);have R:(aG bU j (some { e:=289,sz:=4,es:=[[AV.v (Value.string ByteArray.empty),AV.v (Value.string ByteArray.empty),AV.v (Value.string ByteArray.empty),AV.v (Value.string ByteArray.empty)]] })) j=some ⟨289,4,[[str emp,str emp,str emp,str emp]]⟩:=R;generalize aG bU j _=H1 at R ⊢;simp only[go_sem];refine PC.use pa ?_;cases h1:cK a with
 | false=>
   simp only[Bool.false_eq_true,if_false];simp only[go_sem];refine PC.use pb ?_;have e1:BA a b=[str emp,str emp,str emp,str emp]:=if_neg (by rw[h1];simp);have e2:IK a b=3:=if_neg (by rw[h1];simp);rw[e1,e2];cases h2:cK b with
   | false=>
     simp only[Bool.false_eq_true,if_false];simp only[go_sem];refine aB (fun _=>?_) (fun hb=>by cases hb);simp only[go_sem];refine aP R (by simp) ?_;generalize hP:aG H1 j _=HP;have R2:HP j=some (⟨289,4,[[str emp,str emp,str emp,str emp]]⟩:Row):=by rw[←hP,aA];rfl
     simp only[go_sem,R2];exact .refl _
   | true=>
     simp only[if_true];simp only[go_sem];refine aB (fun _=>?_) (fun hb=>by cases hb);simp only[go_sem];refine aP R (by simp) ?_;generalize hP:aG H1 j _=HP;have R2:HP j=some (⟨289,4,[[str emp,str emp,str emp,str emp]]⟩:Row):=by rw[←hP,aA];rfl
     simp only[go_sem,R2];exact .refl _
 | true=>
   simp only[if_true];simp only[go_sem];refine PC.use pb ?_;cases h2:cK b with
   | false=>
     simp only[Bool.false_eq_true,if_false];simp only[go_sem];refine aB (fun _=>?_) (fun hb=>by cases hb);simp only[go_sem];rw[show BA a b=[str emp,str emp,str emp,str emp]from if_neg (by rw[h1,h2];simp),show IK a b=3 from if_neg (by rw[h1,h2];simp)];refine aP R (by simp) ?_;generalize hP:aG H1 j _=HP;have R2:HP j=some (⟨289,4,[[str emp,str emp,str emp,str emp]]⟩:Row):=by rw[←hP,aA];rfl
     simp only[go_sem,R2];exact .refl _
   | true=>
     simp only[if_true];simp only[go_sem];refine aB (fun hb=>by cases hb) (fun _=>?_);simp only[go_sem];rw[show BA a b=[str (fI a),str (eZ a),str (fI b),str (eZ b)]from if_pos (by rw[h1,h2];rfl),show IK a b=0 from if_pos (by rw[h1,h2];rfl)];refine aP R (by simp) ?_;generalize hP:aG H1 j _=HP;have R2:HP j=some (⟨289,4,[[str (fI a),str (eZ a),str (fI b),str (eZ b)]]⟩:Row):=by rw[←hP,aA];rfl
     simp only[go_sem,R2];exact .refl _
theorem vM(a b:ByteArray)(ha:a.size≤1048576)(hb:b.size≤1048576):PC Tryz.prog 235 [str a,str b] (.tup [str (qL a b).1,int (qL a b).2]):=by
 have htwo:=Sf a b ha hb;by_cases hr:(cK a&&cK b)=true
 rotate_left
 · rw[show BA a b=_ from if_neg hr,show IK a b=_ from if_neg hr]at htwo
   rw[show qL a b=(emp,3)from if_neg hr];refine PC.body (c:=Tryz.f235.body.getD .skip) (fun _=>false) mixed Tryz.func235 rfl (by kernel_rfl) ?_;unfold Tryz.f235;simp only[Option.getD_some];simp only[go_sem];refine PC.use htwo ?_;simp only[go_sem];refine aL fun j hj=>?_
   simp only[go_sem];refine aP (aA _ _ _) (by simp) ?_;simp only[go_sem];refine aB (fun _=>?_) (fun hb=>by cases hb);simp only[go_sem];exact .refl _
 rw[show BA a b=_ from if_pos hr,show IK a b=_ from if_pos hr]at htwo;rw[show qL a b=_ from if_pos hr];simp only[Bool.and_eq_true]at hr;obtain⟨x,rfl,hx,e1,e2⟩:=gP hr.1;obtain⟨y,rfl,hy,e3,e4⟩:=gP hr.2;rw[e1,e2,e3,e4]at htwo;rw[eI,eI];have xd:((x.den:Int)).natAbs<cC:=by rw[Int.natAbs_natCast];exact hx.2
 have yd:((y.den:Int)).natAbs<cC:=by rw[Int.natAbs_natCast];exact hy.2
 have m1:=Mz (zed x.num) (zed y.den) (dL hx.1) (dL yd);have m2:=Mz (zed y.num) (zed x.den) (dL hy.1) (dL xd);have m3:=Mz (zed x.den) (zed y.den) (dL xd) (dL yd);rw[sW hx.1 yd,cX]at m1;rw[sW hy.1 xd,cX]at m2;rw[sW xd yd,cX,cX]at m3;unfold yI;refine PC.body (c:=Tryz.f235.body.getD .skip) (fun _=>false) mixed Tryz.func235 rfl (by kernel_rfl) ?_;unfold Tryz.f235;simp only[Option.getD_some];simp only[go_sem];refine PC.use htwo ?_;simp only[go_sem];refine aL fun j hj=>?_
 simp only[go_sem];refine aP (aA _ _ _) (by simp) ?_;generalize hP:aG (aG _ j _) j _=HP;have R2:HP j=some (⟨289,4,[[str (zed x.num),str (dec x.den),str (zed y.num),str (dec y.den)]]⟩:Row):=by rw[←hP,aA];rfl
 simp only[go_sem];refine aB (fun hb=>by cases hb) (fun _=>?_);simp only[go_sem,R2]
 repeat (refine⟨by first|decide|omega,?_⟩)
 refine PC.use m1 ?_;simp only[go_sem,R2]
 repeat (refine⟨by first|decide|omega,?_⟩)
 refine PC.use m2 ?_;simp only[go_sem,R2]
 repeat (refine⟨by first|decide|omega,?_⟩)
 refine PC.use m3 ?_;simp only[go_sem];cases h1:nJ (x.num*y.den)with
 | true=>
   rw[rI h1];refine aB (fun _=>?_) (fun hb=>by cases hb);simp only[go_sem];exact .refl _
 | false=>
 rw[wJ h1];cases h2:nJ (y.num*x.den)with
 | true=>
   rw[rI h2];refine aB (fun _=>?_) (fun hb=>by cases hb);simp only[go_sem];exact .refl _
 | false=>
 rw[wJ h2];cases h3:nJ ((x.den:Int)*y.den)with
 | true=>
   rw[rI h3];refine aB (fun _=>?_) (fun hb=>by cases hb);simp only[go_sem,Bool.or_true,if_true];exact .refl _
 | false=>
 rw[wJ h3];refine aB (fun hb=>by cases hb) (fun _=>?_);simp only[go_sem];have m4:=Y8 (zed (x.num*y.den)) (zed (y.num*x.den)) (dL (iX.1 h1)) (dL (iX.1 h2));rw[KC (iX.1 h1) (iX.1 h2)]at m4;refine PC.use m4 ?_;simp only[go_sem];rw[DU];generalize x.num*y.den+y.num*x.den=N at *;cases h4:nJ N with
 | true=>
   rw[rI h4];refine aB (fun _=>?_) (fun hb=>by cases hb);simp only[go_sem];exact .refl _
 | false=>
 rw[wJ h4];refine aB (fun hb=>by cases hb) (fun _=>?_);simp only[go_sem];have hD:x.den*y.den<cC:=by rw[←Cw];exact iX.1 h3
 have:=Pc N (x.den*y.den) (GW x y) (iX.1 h4) hD;rw[←cX,Int.natCast_mul]at this;refine PC.use this ?_;simp only[go_sem];exact .refl _
end Go.Proofs.YtdlijlecpopadaaGreatDoor.Nu
end

section
set_option linter.unusedSimpArgs false
set_option linter.unusedVariables false
namespace Go.Proofs.YtdlijlecpopadaaGreatDoor.Nu
open Go.Aw Go.Aw.D Go.Proofs Ty Go.Nu
set_option maxRecDepth 100000
theorem KF{y:Rat}(h:y.num<0):bl (hJ y)=45::bl (hJ (-y)):=by
 obtain⟨k,hk⟩:∃k:Nat,y.num= -(k:Int):=⟨y.num.natAbs,by omega⟩;have e1:Lib.itoa y.num=45::Lib.decDigits k:=by rw[hk];exact Lib.itoa_neg k (by omega)
 have e2:Lib.itoa (-y).num=Lib.decDigits k:=by rw[Rat.neg_num,hk,Int.neg_neg];exact Lib.itoa_nonneg k
 rw[rH,rH,e1,e2,Rat.neg_den];split <;> rfl
theorem FH{y:Rat}(h:mJ y):mJ (-y):=⟨by rw[Rat.neg_num,Int.natAbs_neg];exact h.1,by rw[Rat.neg_den];exact h.2⟩
theorem QD(y:Rat):dZ (hJ y)=decide (y.num<0):=by
 rw[←nQ];unfold dZ;rw[rH,CX];split
 · rfl
 · rcases Int.lt_or_le y.num 0 with h|h
   · obtain⟨k,hk⟩:∃k:Nat,y.num= -(k:Int):=⟨y.num.natAbs,by omega⟩
     rw[hk,show Lib.itoa (-(k:Int))=45::Lib.decDigits k from Lib.itoa_neg k (by omega)];rfl
   · obtain⟨k,hk⟩:∃k:Nat,y.num=(k:Int):=⟨y.num.natAbs,by omega⟩
     rw[hk,show Lib.itoa (k:Int)=Lib.decDigits k from Lib.itoa_nonneg k];cases hd:Lib.decDigits k with
     | nil=>exact absurd hd (Eb k)
     | cons c r=>rfl
theorem GD:hJ 0=dec 0:=(if_pos (show(0:Rat).den=1 from rfl)).trans (cX 0)
theorem vI(a b:ByteArray)(ha:a.size≤1048570)(hb:b.size≤1048570):PC Tryz.prog 203 [str a,str b] (.tup [str (pQ a b).1,int (pQ a b).2]):=by
 refine PC.body (c:=Tryz.f203.body.getD .skip) (fun _=>false) mixed Tryz.func203 rfl (by kernel_rfl) ?_;unfold Tryz.f203;simp only[Option.getD_some];simp only[go_sem];refine PC.use (sZ a (by omega)) ?_;simp only[go_sem];refine⟨_,fun _=>(sZ b (by omega)).q rfl,?_⟩;simp only[go_sem];refine aB (fun hc=>?_) (fun hc=>?_)
 · simp only[go_sem]
   rw[show pQ a b=(emp,3)from if_neg (by rw[Bool.not_eq_true,←Bool.not_eq_true',Bool.not_and];exact hc)];exact .refl _
 have hr:(cK a&&cK b)=true:=by rw[←Bool.not_eq_false',Bool.not_and];exact hc
 rw[show pQ a b=_ from if_pos hr];simp only[Bool.and_eq_true]at hr;obtain⟨x,rfl,hx,_,_⟩:=gP hr.1;obtain⟨y,rfl,hy,_,_⟩:=gP hr.2;rw[eI,eI];have hneg:qL (hJ x) (hJ (-y))=yI x (-y):=by
   unfold qL;rw[kA hx,kA (FH hy),eI,eI];rfl
 have hsz:=A5 (FH hy);have hadd:=vM (hJ x) (hJ (-y)) (by omega) (by omega);rw[hneg]at hadd;have hs:=cE (hJ y);simp only[go_sem,mE];refine aB (fun h0=>?_) (fun h0=>?_)
 · have h0:y=0:=by rw[kB,←GD,Q5]at h0;exact h0
   subst h0;rw[show(-(0:Rat))=0 from rfl]at hadd ⊢;simp only[go_sem];refine PC.use hadd ?_;simp only[go_sem];exact .refl _
 have hp:0<(hJ y).size:=by
   rw[←hs];rw[rH];have:Lib.itoa y.num≠[]:=by
     rcases Int.lt_or_le y.num 0 with h|h
     · obtain⟨k,hk⟩:∃k:Nat,y.num= -(k:Int):=⟨y.num.natAbs,by omega⟩
       rw[hk,show Lib.itoa (-(k:Int))=45::Lib.decDigits k from Lib.itoa_neg k (by omega)];simp
     · obtain⟨k,hk⟩:∃k:Nat,y.num=(k:Int):=⟨y.num.natAbs,by omega⟩
       rw[hk,show Lib.itoa (k:Int)=Lib.decDigits k from Lib.itoa_nonneg k];exact Eb k
   have:=List.length_pos_iff.2 this;split
   · exact this
   · rw[List.length_append];omega
 have hd:=sJ (hJ y);rw[show decide (((hJ y).size:Int)>0)=true by simp;omega,Bool.true_and,QD]at hd;simp only[go_sem];rw[hd];refine⟨⟨by omega,by omega⟩,?_⟩;refine aB (fun h1=>?_) (fun h1=>?_)
 · have h1:=of_decide_eq_true h1
   have e1:(hJ y).extract 1 (hJ y).size=hJ (-y):=jJ (by rw[eQ,←hs,List.take_length,KF h1];rfl);simp only[go_sem,e1];refine⟨⟨by omega,by omega⟩,?_⟩;refine PC.use hadd ?_;simp only[go_sem];exact .refl _
 · have h1:=of_decide_eq_false h1
   have hnz:y.num≠0:=fun e=>by
     have:y=0:=Rat.num_eq_zero.1 e;rw[this,GD]at h0;exact lS.1 h0 rfl
   have h2:(-y).num<0:=by rw[Rat.neg_num];omega
   have e1:(⟨#[45]⟩:ByteArray)++hJ y=hJ (-y):=jJ (by rw[kN,KF h2,Rat.neg_neg];rfl);simp only[go_sem,e1];refine⟨by show((1+(hJ y).size:Nat):Int)≤9223372036854775807;omega,?_⟩;refine PC.use hadd ?_;simp only[go_sem];exact .refl _
theorem QN(x y:Rat)(hx:mJ x)(hy:mJ y):PC Tryz.prog 238 [str (zed x.num),str (dec x.den),str (zed y.num),str (dec y.den)] (int (QK x y)):=by
 have xd:((x.den:Int)).natAbs<cC:=by rw[Int.natAbs_natCast];exact hx.2
 have yd:((y.den:Int)).natAbs<cC:=by rw[Int.natAbs_natCast];exact hy.2
 have x0:=x.den_nz;have y0:=y.den_nz;have hzz:∀{m:Int},m.natAbs<cC→(zed m).size≤4097:=fun h=>Go.Nu.dL h
 rw[←cX,←cX];refine PC.body (c:=Tryz.f238.body.getD .skip) (fun _=>false) mixed Tryz.func238 rfl (by kernel_rfl) ?_;unfold Tryz.f238;simp only[Option.getD_some];simp only[go_sem];refine⟨fun ρ _=>∃(p q r s g:Int),ρ 0=str (zed p)∧ρ 1=str (zed q)∧ρ 2=str (zed r)∧ρ 3=str (zed s)∧ρ 9=int g∧(g=1∨g= -1)∧0<q∧0<s∧p.natAbs<cC∧q.natAbs<cC∧r.natAbs<cC∧s.natAbs<cC∧QK x y=g*EC p q r s,fun ρ _=>YJ (ρ 1),
   ⟨x.num,x.den,y.num,y.den,1,by simp only[go_sem],by simp only[go_sem],by simp only[go_sem],by simp only[go_sem],by simp only[go_sem],.inl rfl,by omega,by omega,hx.1,xd,hy.1,yd,by rw[Int.one_mul,Tf]⟩,?_⟩
 rintro ρ H ⟨p,q,r,s,g,h5,h6,h7,h8,h10,hg,hq,hs,bp,bq,br,bs,hinv⟩;have zp:=hzz bp;have zq:=hzz bq;have zr:=hzz br;have zs:=hzz bs;simp only[go_sem,h5,h6,h7,h8,h10];refine PC.use (Hc (zed p) (zed q) (by omega) (by omega)) ?_;rw[Ag bp bq hq];simp only[go_sem,h5,h6,h7,h8,h10];refine PC.use (Hc (zed r) (zed s) (by omega) (by omega)) ?_;rw[Ag br bs hs];simp only[go_sem,h5,h6,h7,h8,h10];have d1:=zD (p:=p) hq;have d2:=zD (p:=r) hs;have z1:=hzz (m:=p.fdiv q) (by omega);have z2:=hzz (m:=r.fdiv s) (by omega);refine PC.use (IV (zed (p.fdiv q)) (zed (r.fdiv s)) (by omega) (by omega)) ?_;rw[Jz];simp only[go_sem,h5,h6,h7,h8,h10];obtain⟨_,m0,m1⟩:=nB (p:=p) hq;obtain⟨_,n0,n1⟩:=nB (p:=r) hs;have c3:=D6 (p.fdiv q) (r.fdiv s);refine aB (fun hc=>?_) (fun hc=>?_)
 · have hc:gD (p.fdiv q) (r.fdiv s)≠0:=by simpa using hc
   simp only[go_sem,h10,X7 hg c3];refine cI ?_;rw[hinv,CD hq hs (fun e=>hc (nF e))]
 have hc:p.fdiv q=r.fdiv s:=Bc.1 (by simpa using hc);have hX:=FK hq hs hc;generalize p.fmod q=m at *;generalize r.fmod s=n at *;simp only[go_sem,h5,h6,h7,h8,h10,sO];refine aB (fun hz=>?_) (fun hz=>?_)
 · have hz:m=0∧n=0:=by simpa using hz
   simp only[go_sem];refine cI ?_;rw[hinv,hX,hz.1,hz.2,Int.zero_mul,Int.zero_mul,nF rfl,Int.mul_zero]
 simp only[go_sem,h5,h6,h7,h8,h10,sO];refine aB (fun hm=>?_) (fun hm=>?_)
 · have hm:m=0:=of_decide_eq_true hm
   have hn:0<n:=by
     rcases Int.lt_or_le 0 n with h|h
     · exact h
     · exfalso
       have:n=0:=by omega
       rw[hm,this]at hz;cases hz
   simp only[go_sem,h10,Du hg];refine cI ?_;rw[hinv,hX,hm,Int.zero_mul,iD (Int.mul_pos hn hq)];omega
 have hm:0<m:=by have:=of_decide_eq_false hm;omega
 simp only[go_sem,h5,h6,h7,h8,h10,sO];refine aB (fun hn=>?_) (fun hn=>?_)
 · have hn:n=0:=of_decide_eq_true hn
   simp only[go_sem,h10];refine cI ?_;rw[hinv,hX,hn,Int.zero_mul,iF (Int.mul_pos hm hs)];omega
 have hn:0<n:=by have:=of_decide_eq_false hn;omega
 simp only[go_sem,h5,h6,h7,h8,h10,Du hg];refine⟨⟨q,m,s,n,-g,rfl,rfl,rfl,rfl,rfl,by omega,hm,hn,bq,by omega,bs,by omega,?_⟩,?_⟩
 · rw[hinv,hX,FG]
   rw[Int.mul_neg,Int.neg_mul]
 · rw[Ad,Ad];omega
theorem lC(a b:ByteArray)(ha:a.size≤1048576)(hb:b.size≤1048576):PC Tryz.prog 205 [str a,str b] (int (Ea a b)):=by
 have htwo:=Sf a b ha hb;by_cases hr:(cK a&&cK b)=true
 rotate_left
 · rw[show BA a b=_ from if_neg hr,show IK a b=_ from if_neg hr]at htwo
   rw[show Ea a b=0 from if_neg hr];refine PC.body (c:=Tryz.f205.body.getD .skip) (fun _=>false) mixed Tryz.func205 rfl (by kernel_rfl) ?_;unfold Tryz.f205;simp only[Option.getD_some];simp only[go_sem];refine PC.use htwo ?_;simp only[go_sem];refine aL fun j hj=>?_
   simp only[go_sem];refine aP (aA _ _ _) (by simp) ?_;simp only[go_sem];refine aB (fun _=>?_) (fun hb=>by cases hb);simp only[go_sem];exact .refl _
 rw[show BA a b=_ from if_pos hr,show IK a b=_ from if_pos hr]at htwo;rw[show Ea a b=_ from if_pos hr];simp only[Bool.and_eq_true]at hr;obtain⟨x,rfl,hx,e1,e2⟩:=gP hr.1;obtain⟨y,rfl,hy,e3,e4⟩:=gP hr.2;rw[e1,e2,e3,e4]at htwo;rw[eI,eI];refine PC.body (c:=Tryz.f205.body.getD .skip) (fun _=>false) mixed Tryz.func205 rfl (by kernel_rfl) ?_;unfold Tryz.f205;simp only[Option.getD_some];simp only[go_sem];refine PC.use htwo ?_;simp only[go_sem];refine aL fun j hj=>?_
 simp only[go_sem];refine aP (aA _ _ _) (by simp) ?_;generalize hP:aG (aG _ j _) j _=HP;have R2:HP j=some (⟨289,4,[[str (zed x.num),str (dec x.den),str (zed y.num),str (dec y.den)]]⟩:Row):=by rw[←hP,aA];rfl
 simp only[go_sem];refine aB (fun hb=>by cases hb) (fun _=>?_);simp only[go_sem,R2]
 repeat (refine⟨by first|decide|omega,?_⟩)
 refine PC.use (QN x y hx hy) ?_;simp only[go_sem];exact .refl _
end Go.Proofs.YtdlijlecpopadaaGreatDoor.Nu
end
