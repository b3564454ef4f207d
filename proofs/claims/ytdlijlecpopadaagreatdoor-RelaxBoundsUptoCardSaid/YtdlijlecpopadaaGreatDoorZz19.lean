/- Texts joined by a program: NuZc, NuZd. -/
import Derived.Test.YtdlijlecpopadaaGreatDoorZz18

section
set_option linter.unusedSimpArgs false
set_option linter.unusedVariables false
namespace Go.Proofs.YtdlijlecpopadaaGreatDoor.Nu
open Go.Aw Go.Aw.D Go.Proofs Ty Go.Nu
set_option maxRecDepth 100000
theorem Qm(n:Int)(d:Nat)(hd:d≠0)(hn:n.natAbs<cG)(hdm:d<cG):PC Tryz.prog 277 [str (zed n),str (dec d)] (str (gO (mkRat n d))):=by
 have hg:=GP (n:=n) hd hdm;have hg0:=IJ (n:=n) hd;have hsm:=DA hd hn hdm;have zn:=dQ hn;have zd:=dA hdm;have eg:rJ (zed n) (dec (Nat.gcd n.natAbs d))=(zed (mkRat n d).num,zed (n.fmod (Nat.gcd n.natAbs d:Nat)),0):=by
   unfold rJ;rw[←dB,if_pos (nO hn (by rw[Int.natAbs_natCast];exact hg)),bY,bY,if_neg (by omega),Ja hd]
 have ed:rJ (dec d) (dec (Nat.gcd n.natAbs d))=(dec (mkRat n d).den,zed ((d:Int).fmod (Nat.gcd n.natAbs d:Nat)),0):=by
   unfold rJ;rw[←dB,←dB,if_pos (nO (by rw[Int.natAbs_natCast];exact hdm) (by rw[Int.natAbs_natCast];exact hg)),bY,bY,if_neg (by omega),IS hd,dB]
 have hE:iX (zed n) (zed n)=0:=nO hn hn;have ha:=To (zed n) zn;rw[if_pos hE,bY]at ha;have hsg:FI (dec d)=1:=by
   unfold FI;rw[←dB,if_pos (oF _),bY,Int.sign_eq_one_of_pos (by omega)]
 have hs:=Yj (dec d) zd;rw[hsg]at hs;have hgc:=Ti (dec n.natAbs) (dec d) (dA hn) zd;rw[show vM (dec n.natAbs) (dec d)=(dec (Nat.gcd n.natAbs d),0)by unfold vM;rw[if_pos (tS hn hdm),bT,bT,uJ hg]]at hgc;refine PC.body (c:=Tryz.f277.body.getD .skip) (fun _=>false) mixed Tryz.func277 rfl (by kernel_rfl) ?_;unfold Tryz.f277;simp only[Option.getD_some];simp only[go_sem];refine PC.use hs ?_;simp only[go_sem];refine aB (fun hb=>by cases hb) (fun _=>?_);simp only[go_sem];refine PC.use ha ?_;simp only[go_sem];refine PC.use hgc ?_;simp only[go_sem];refine PC.use (He (zed n) (dec (Nat.gcd n.natAbs d)) zn (dA hg)) ?_;rw[eg];simp only[go_sem];refine PC.use (He (dec d) (dec (Nat.gcd n.natAbs d)) zd (dA hg)) ?_;rw[ed];simp only[go_sem,BN];generalize mkRat n d=x at *;refine aB (fun hb=>?_) (fun hb=>?_)
 · have h1:x.den=1:=oS.1 (kL.1 hb)
   simp only[go_sem];rw[show gO x=zed x.num from if_pos h1];exact .refl _
 · have h1:x.den≠1:=fun e=>mE.1 hb (by rw[e])
   simp only[go_sem];have z1:=dQ hsm.1;have z2:=dA hsm.2;have z3:(zed x.num++slB).size=(zed x.num).size+1:=by rw[ByteArray.size_append];rfl
   refine⟨by show((zed x.num).size+(1:Nat):Int)≤9223372036854775807;omega,?_⟩;refine⟨by show(((zed x.num).size+1+(dec x.den).size:Nat):Int)≤9223372036854775807;omega,?_⟩;rw[show gO x=zed x.num++slB++dec x.den from if_neg h1];exact .refl _
def Cl(a b:ByteArray):List AV:=if(bS a&&bS b)=true then[str (fS a),str (fI a),str (fS b),str (fI b)]else[str emp,str emp,str emp,str emp]
def LN(a b:ByteArray):Int:=if(bS a&&bS b)=true then 0 else 3
theorem VM(a b:ByteArray)(ha:a.size≤1048576)(hb:b.size≤1048576):PC Tryz.prog 237 [str a,str b] (.tup [.agg (Cl a b),int (LN a b)]):=by
 have pa:=LI a ha;have pb:=LI b hb;refine PC.body (c:=Tryz.f237.body.getD .skip) (fun _=>false) mixed Tryz.func237 rfl (by kernel_rfl) ?_;unfold Tryz.f237;simp only[Option.getD_some];simp only[go_sem];refine aL fun j hj=>?_
 have R:=aA bX j (some ⟨289,4,[[str emp,str emp,str emp,str emp]]⟩);have R:(aI bX j (some { e:=289,sz:=4,es:=[[AV.v (Value.string ByteArray.empty),AV.v (Value.string ByteArray.empty),AV.v (Value.string ByteArray.empty),AV.v (Value.string ByteArray.empty)]] })) j=some ⟨289,4,[[str emp,str emp,str emp,str emp]]⟩:=R;generalize aI bX j _=H1 at R ⊢;simp only[go_sem];refine PC.use pa ?_;cases h1:bS a with
 | false=>
   simp only[Bool.false_eq_true,if_false];simp only[go_sem];refine PC.use pb ?_;have e1:Cl a b=[str emp,str emp,str emp,str emp]:=if_neg (by rw[h1];simp);have e2:LN a b=3:=if_neg (by rw[h1];simp);rw[e1,e2];cases h2:bS b with
   | false=>
     simp only[Bool.false_eq_true,if_false];simp only[go_sem];refine aB (fun _=>?_) (fun hb=>by cases hb);simp only[go_sem];refine aP R (by simp) ?_;generalize hP:aI H1 j _=HP;have R2:HP j=some (⟨289,4,[[str emp,str emp,str emp,str emp]]⟩:Row):=by rw[←hP,aA];rfl
     simp only[go_sem,R2];exact .refl _
   | true=>
     simp only[if_true];simp only[go_sem];refine aB (fun _=>?_) (fun hb=>by cases hb);simp only[go_sem];refine aP R (by simp) ?_;generalize hP:aI H1 j _=HP;have R2:HP j=some (⟨289,4,[[str emp,str emp,str emp,str emp]]⟩:Row):=by rw[←hP,aA];rfl
     simp only[go_sem,R2];exact .refl _
 | true=>
   simp only[if_true];simp only[go_sem];refine PC.use pb ?_;cases h2:bS b with
   | false=>
     simp only[Bool.false_eq_true,if_false];simp only[go_sem];refine aB (fun _=>?_) (fun hb=>by cases hb);simp only[go_sem];rw[show Cl a b=[str emp,str emp,str emp,str emp]from if_neg (by rw[h1,h2];simp),show LN a b=3 from if_neg (by rw[h1,h2];simp)];refine aP R (by simp) ?_;generalize hP:aI H1 j _=HP;have R2:HP j=some (⟨289,4,[[str emp,str emp,str emp,str emp]]⟩:Row):=by rw[←hP,aA];rfl
     simp only[go_sem,R2];exact .refl _
   | true=>
     simp only[if_true];simp only[go_sem];refine aB (fun hb=>by cases hb) (fun _=>?_);simp only[go_sem];rw[show Cl a b=[str (fS a),str (fI a),str (fS b),str (fI b)]from if_pos (by rw[h1,h2];rfl),show LN a b=0 from if_pos (by rw[h1,h2];rfl)];refine aP R (by simp) ?_;generalize hP:aI H1 j _=HP;have R2:HP j=some (⟨289,4,[[str (fS a),str (fI a),str (fS b),str (fI b)]]⟩:Row):=by rw[←hP,aA];rfl
     simp only[go_sem,R2];exact .refl _
theorem wO(a b:ByteArray)(ha:a.size≤1048576)(hb:b.size≤1048576):PC Tryz.prog 235 [str a,str b] (.tup [str (qR a b).1,int (qR a b).2]):=by
 have htwo:=VM a b ha hb;by_cases hr:(bS a&&bS b)=true
 rotate_left
 · rw[show Cl a b=_ from if_neg hr,show LN a b=_ from if_neg hr]at htwo
   rw[show qR a b=(emp,3)from if_neg hr];refine PC.body (c:=Tryz.f235.body.getD .skip) (fun _=>false) mixed Tryz.func235 rfl (by kernel_rfl) ?_;unfold Tryz.f235;simp only[Option.getD_some];simp only[go_sem];refine PC.use htwo ?_;simp only[go_sem];refine aL fun j hj=>?_
   simp only[go_sem];refine aP (aA _ _ _) (by simp) ?_;simp only[go_sem];refine aB (fun _=>?_) (fun hb=>by cases hb);simp only[go_sem];exact .refl _
 rw[show Cl a b=_ from if_pos hr,show LN a b=_ from if_pos hr]at htwo;rw[show qR a b=_ from if_pos hr];simp only[Bool.and_eq_true]at hr;obtain⟨x,rfl,hx,e1,e2⟩:=fN hr.1;obtain⟨y,rfl,hy,e3,e4⟩:=fN hr.2;rw[e1,e2,e3,e4]at htwo;rw[dU,dU];have xd:((x.den:Int)).natAbs<cG:=by rw[Int.natAbs_natCast];exact hx.2
 have yd:((y.den:Int)).natAbs<cG:=by rw[Int.natAbs_natCast];exact hy.2
 have m1:=NX (zed x.num) (zed y.den) (dQ hx.1) (dQ yd);have m2:=NX (zed y.num) (zed x.den) (dQ hy.1) (dQ xd);have m3:=NX (zed x.den) (zed y.den) (dQ xd) (dQ yd);rw[tK hx.1 yd,dB]at m1;rw[tK hy.1 xd,dB]at m2;rw[tK xd yd,dB,dB]at m3;unfold zF;refine PC.body (c:=Tryz.f235.body.getD .skip) (fun _=>false) mixed Tryz.func235 rfl (by kernel_rfl) ?_;unfold Tryz.f235;simp only[Option.getD_some];simp only[go_sem];refine PC.use htwo ?_;simp only[go_sem];refine aL fun j hj=>?_
 simp only[go_sem];refine aP (aA _ _ _) (by simp) ?_;generalize hP:aI (aI _ j _) j _=HP;have R2:HP j=some (⟨289,4,[[str (zed x.num),str (dec x.den),str (zed y.num),str (dec y.den)]]⟩:Row):=by rw[←hP,aA];rfl
 simp only[go_sem];refine aB (fun hb=>by cases hb) (fun _=>?_);simp only[go_sem,R2]
 repeat (refine⟨by first|decide|omega,?_⟩)
 refine PC.use m1 ?_;simp only[go_sem,R2]
 repeat (refine⟨by first|decide|omega,?_⟩)
 refine PC.use m2 ?_;simp only[go_sem,R2]
 repeat (refine⟨by first|decide|omega,?_⟩)
 refine PC.use m3 ?_;simp only[go_sem];cases h1:nQ (x.num*y.den)with
 | true=>
   rw[sB h1];refine aB (fun _=>?_) (fun hb=>by cases hb);simp only[go_sem];exact .refl _
 | false=>
 rw[wB h1];cases h2:nQ (y.num*x.den)with
 | true=>
   rw[sB h2];refine aB (fun _=>?_) (fun hb=>by cases hb);simp only[go_sem];exact .refl _
 | false=>
 rw[wB h2];cases h3:nQ ((x.den:Int)*y.den)with
 | true=>
   rw[sB h3];refine aB (fun _=>?_) (fun hb=>by cases hb);simp only[go_sem,Bool.or_true,if_true];exact .refl _
 | false=>
 rw[wB h3];refine aB (fun hb=>by cases hb) (fun _=>?_);simp only[go_sem];have m4:=Zy (zed (x.num*y.den)) (zed (y.num*x.den)) (dQ (jM.1 h1)) (dQ (jM.1 h2));rw[Kj (jM.1 h1) (jM.1 h2)]at m4;refine PC.use m4 ?_;simp only[go_sem];rw[D3];generalize x.num*y.den+y.num*x.den=N at *;cases h4:nQ N with
 | true=>
   rw[sB h4];refine aB (fun _=>?_) (fun hb=>by cases hb);simp only[go_sem];exact .refl _
 | false=>
 rw[wB h4];refine aB (fun hb=>by cases hb) (fun _=>?_);simp only[go_sem];have hD:x.den*y.den<cG:=by rw[←CH];exact jM.1 h3
 have:=Qm N (x.den*y.den) (ID x y) (jM.1 h4) hD;rw[←dB,Int.natCast_mul]at this;refine PC.use this ?_;simp only[go_sem];exact .refl _
end Go.Proofs.YtdlijlecpopadaaGreatDoor.Nu
end

section
set_option linter.unusedSimpArgs false
set_option linter.unusedVariables false
namespace Go.Proofs.YtdlijlecpopadaaGreatDoor.Nu
open Go.Aw Go.Aw.D Go.Proofs Ty Go.Nu
set_option maxRecDepth 100000
theorem Kp{y:Rat}(h:y.num<0):bl (gO y)=45::bl (gO (-y)):=by
 obtain⟨k,hk⟩:∃k:Nat,y.num= -(k:Int):=⟨y.num.natAbs,by omega⟩;have e1:Lib.itoa y.num=45::Lib.decDigits k:=by rw[hk];exact Lib.itoa_neg k (by omega)
 have e2:Lib.itoa (-y).num=Lib.decDigits k:=by rw[Rat.neg_num,hk,Int.neg_neg];exact Lib.itoa_nonneg k
 rw[rM,rM,e1,e2,Rat.neg_den];split <;> rfl
theorem GV{y:Rat}(h:mS y):mS (-y):=⟨by rw[Rat.neg_num,Int.natAbs_neg];exact h.1,by rw[Rat.neg_den];exact h.2⟩
theorem Re(y:Rat):eF (gO y)=decide (y.num<0):=by
 rw[←oP];unfold eF;rw[rM,D4];split
 · rfl
 · rcases Int.lt_or_le y.num 0 with h|h
   · obtain⟨k,hk⟩:∃k:Nat,y.num= -(k:Int):=⟨y.num.natAbs,by omega⟩
     rw[hk,show Lib.itoa (-(k:Int))=45::Lib.decDigits k from Lib.itoa_neg k (by omega)];rfl
   · obtain⟨k,hk⟩:∃k:Nat,y.num=(k:Int):=⟨y.num.natAbs,by omega⟩
     rw[hk,show Lib.itoa (k:Int)=Lib.decDigits k from Lib.itoa_nonneg k];cases hd:Lib.decDigits k with
     | nil=>exact absurd hd (DF k)
     | cons c r=>rfl
theorem FZ:gO 0=dec 0:=(if_pos (show(0:Rat).den=1 from rfl)).trans (dB 0)
theorem vV(a b:ByteArray)(ha:a.size≤1048570)(hb:b.size≤1048570):PC Tryz.prog 203 [str a,str b] (.tup [str (pZ a b).1,int (pZ a b).2]):=by
 refine PC.body (c:=Tryz.f203.body.getD .skip) (fun _=>false) mixed Tryz.func203 rfl (by kernel_rfl) ?_;unfold Tryz.f203;simp only[Option.getD_some];simp only[go_sem];refine PC.use (pO a (by omega)) ?_;simp only[go_sem];refine⟨_,fun _=>(pO b (by omega)).q rfl,?_⟩;simp only[go_sem];refine aB (fun hc=>?_) (fun hc=>?_)
 · simp only[go_sem]
   rw[show pZ a b=(emp,3)from if_neg (by rw[Bool.not_eq_true,←Bool.not_eq_true',Bool.not_and];exact hc)];exact .refl _
 have hr:(bS a&&bS b)=true:=by rw[←Bool.not_eq_false',Bool.not_and];exact hc
 rw[show pZ a b=_ from if_pos hr];simp only[Bool.and_eq_true]at hr;obtain⟨x,rfl,hx,_,_⟩:=fN hr.1;obtain⟨y,rfl,hy,_,_⟩:=fN hr.2;rw[dU,dU];have hneg:qR (gO x) (gO (-y))=zF x (-y):=by
   unfold qR;rw[kI hx,kI (GV hy),dU,dU];rfl
 have hsz:=Bu (GV hy);have hadd:=wO (gO x) (gO (-y)) (by omega) (by omega);rw[hneg]at hadd;have hs:=cA (gO y);simp only[go_sem,mR];refine aB (fun h0=>?_) (fun h0=>?_)
 · have h0:y=0:=by rw[kL,←FZ,TZ]at h0;exact h0
   subst h0;rw[show(-(0:Rat))=0 from rfl]at hadd ⊢;simp only[go_sem];refine PC.use hadd ?_;simp only[go_sem];exact .refl _
 have hp:0<(gO y).size:=by
   rw[←hs];rw[rM];have:Lib.itoa y.num≠[]:=by
     rcases Int.lt_or_le y.num 0 with h|h
     · obtain⟨k,hk⟩:∃k:Nat,y.num= -(k:Int):=⟨y.num.natAbs,by omega⟩
       rw[hk,show Lib.itoa (-(k:Int))=45::Lib.decDigits k from Lib.itoa_neg k (by omega)];simp
     · obtain⟨k,hk⟩:∃k:Nat,y.num=(k:Int):=⟨y.num.natAbs,by omega⟩
       rw[hk,show Lib.itoa (k:Int)=Lib.decDigits k from Lib.itoa_nonneg k];exact DF k
   have:=List.length_pos_iff.2 this;split
   · exact this
   · rw[List.length_append];omega
 have hd:=sW (gO y);rw[show decide (((gO y).size:Int)>0)=true by simp;omega,Bool.true_and,Re]at hd;simp only[go_sem];rw[hd];refine⟨⟨by omega,by omega⟩,?_⟩;refine aB (fun h1=>?_) (fun h1=>?_)
 · have h1:=of_decide_eq_true h1
   have e1:(gO y).extract 1 (gO y).size=gO (-y):=jR (by rw[fA,←hs,List.take_length,Kp h1];rfl);simp only[go_sem,e1];refine⟨⟨by omega,by omega⟩,?_⟩;refine PC.use hadd ?_;simp only[go_sem];exact .refl _
 · have h1:=of_decide_eq_false h1
   have hnz:y.num≠0:=fun e=>by
     have:y=0:=Rat.num_eq_zero.1 e;rw[this,FZ]at h0;exact mE.1 h0 rfl
   have h2:(-y).num<0:=by rw[Rat.neg_num];omega
   have e1:(⟨#[45]⟩:ByteArray)++gO y=gO (-y):=jR (by rw[kV,Kp h2,Rat.neg_neg];rfl);simp only[go_sem,e1];refine⟨by show((1+(gO y).size:Nat):Int)≤9223372036854775807;omega,?_⟩;refine PC.use hadd ?_;simp only[go_sem];exact .refl _
theorem Qa(x y:Rat)(hx:mS x)(hy:mS y):PC Tryz.prog 238 [str (zed x.num),str (dec x.den),str (zed y.num),str (dec y.den)] (int (JG x y)):=by
 have xd:((x.den:Int)).natAbs<cG:=by rw[Int.natAbs_natCast];exact hx.2
 have yd:((y.den:Int)).natAbs<cG:=by rw[Int.natAbs_natCast];exact hy.2
 have x0:=x.den_nz;have y0:=y.den_nz;have hzz:∀{m:Int},m.natAbs<cG→(zed m).size≤4097:=fun h=>Go.Nu.dQ h
 rw[←dB,←dB];refine PC.body (c:=Tryz.f238.body.getD .skip) (fun _=>false) mixed Tryz.func238 rfl (by kernel_rfl) ?_;unfold Tryz.f238;simp only[Option.getD_some];simp only[go_sem];refine⟨fun ρ _=>∃(p q r s g:Int),ρ 0=str (zed p)∧ρ 1=str (zed q)∧ρ 2=str (zed r)∧ρ 3=str (zed s)∧ρ 9=int g∧(g=1∨g= -1)∧0<q∧0<s∧p.natAbs<cG∧q.natAbs<cG∧r.natAbs<cG∧s.natAbs<cG∧JG x y=g*EN p q r s,fun ρ _=>ZH (ρ 1),
   ⟨x.num,x.den,y.num,y.den,1,by simp only[go_sem],by simp only[go_sem],by simp only[go_sem],by simp only[go_sem],by simp only[go_sem],.inl rfl,by omega,by omega,hx.1,xd,hy.1,yd,by rw[Int.one_mul,Vb]⟩,?_⟩
 rintro ρ H ⟨p,q,r,s,g,h5,h6,h7,h8,h10,hg,hq,hs,bp,bq,br,bs,hinv⟩;have zp:=hzz bp;have zq:=hzz bq;have zr:=hzz br;have zs:=hzz bs;simp only[go_sem,h5,h6,h7,h8,h10];refine PC.use (He (zed p) (zed q) (by omega) (by omega)) ?_;rw[Ad bp bq hq];simp only[go_sem,h5,h6,h7,h8,h10];refine PC.use (He (zed r) (zed s) (by omega) (by omega)) ?_;rw[Ad br bs hs];simp only[go_sem,h5,h6,h7,h8,h10];have d1:=Av (p:=p) hq;have d2:=Av (p:=r) hs;have z1:=hzz (m:=p.fdiv q) (by omega);have z2:=hzz (m:=r.fdiv s) (by omega);refine PC.use (LW (zed (p.fdiv q)) (zed (r.fdiv s)) (by omega) (by omega)) ?_;rw[Ln];simp only[go_sem,h5,h6,h7,h8,h10];obtain⟨_,m0,m1⟩:=nJ (p:=p) hq;obtain⟨_,n0,n1⟩:=nJ (p:=r) hs;have c3:=EG (p.fdiv q) (r.fdiv s);refine aB (fun hc=>?_) (fun hc=>?_)
 · have hc:gM (p.fdiv q) (r.fdiv s)≠0:=by simpa using hc
   simp only[go_sem,h10,Y3 hg c3];refine cI ?_;rw[hinv,C7 hq hs (fun e=>hc (nH e))]
 have hc:p.fdiv q=r.fdiv s:=Bx.1 (by simpa using hc);have hX:=Fj hq hs hc;generalize p.fmod q=m at *;generalize r.fmod s=n at *;simp only[go_sem,h5,h6,h7,h8,h10,tE];refine aB (fun hz=>?_) (fun hz=>?_)
 · have hz:m=0∧n=0:=by simpa using hz
   simp only[go_sem];refine cI ?_;rw[hinv,hX,hz.1,hz.2,Int.zero_mul,Int.zero_mul,nH rfl,Int.mul_zero]
 simp only[go_sem,h5,h6,h7,h8,h10,tE];refine aB (fun hm=>?_) (fun hm=>?_)
 · have hm:m=0:=of_decide_eq_true hm
   have hn:0<n:=by
     rcases Int.lt_or_le 0 n with h|h
     · exact h
     · exfalso
       have:n=0:=by omega
       rw[hm,this]at hz;cases hz
   simp only[go_sem,h10,Dd hg];refine cI ?_;rw[hinv,hX,hm,Int.zero_mul,iG (Int.mul_pos hn hq)];omega
 have hm:0<m:=by have:=of_decide_eq_false hm;omega
 simp only[go_sem,h5,h6,h7,h8,h10,tE];refine aB (fun hn=>?_) (fun hn=>?_)
 · have hn:n=0:=of_decide_eq_true hn
   simp only[go_sem,h10];refine cI ?_;rw[hinv,hX,hn,Int.zero_mul,iK (Int.mul_pos hm hs)];omega
 have hn:0<n:=by have:=of_decide_eq_false hn;omega
 simp only[go_sem,h5,h6,h7,h8,h10,Dd hg];refine⟨⟨q,m,s,n,-g,rfl,rfl,rfl,rfl,rfl,by omega,hm,hn,bq,by omega,bs,by omega,?_⟩,?_⟩
 · rw[hinv,hX,FH]
   rw[Int.mul_neg,Int.neg_mul]
 · rw[AQ,AQ];omega
theorem lP(a b:ByteArray)(ha:a.size≤1048576)(hb:b.size≤1048576):PC Tryz.prog 205 [str a,str b] (int (qD a b)):=by
 have htwo:=VM a b ha hb;by_cases hr:(bS a&&bS b)=true
 rotate_left
 · rw[show Cl a b=_ from if_neg hr,show LN a b=_ from if_neg hr]at htwo
   rw[show qD a b=0 from if_neg hr];refine PC.body (c:=Tryz.f205.body.getD .skip) (fun _=>false) mixed Tryz.func205 rfl (by kernel_rfl) ?_;unfold Tryz.f205;simp only[Option.getD_some];simp only[go_sem];refine PC.use htwo ?_;simp only[go_sem];refine aL fun j hj=>?_
   simp only[go_sem];refine aP (aA _ _ _) (by simp) ?_;simp only[go_sem];refine aB (fun _=>?_) (fun hb=>by cases hb);simp only[go_sem];exact .refl _
 rw[show Cl a b=_ from if_pos hr,show LN a b=_ from if_pos hr]at htwo;rw[show qD a b=_ from if_pos hr];simp only[Bool.and_eq_true]at hr;obtain⟨x,rfl,hx,e1,e2⟩:=fN hr.1;obtain⟨y,rfl,hy,e3,e4⟩:=fN hr.2;rw[e1,e2,e3,e4]at htwo;rw[dU,dU];refine PC.body (c:=Tryz.f205.body.getD .skip) (fun _=>false) mixed Tryz.func205 rfl (by kernel_rfl) ?_;unfold Tryz.f205;simp only[Option.getD_some];simp only[go_sem];refine PC.use htwo ?_;simp only[go_sem];refine aL fun j hj=>?_
 simp only[go_sem];refine aP (aA _ _ _) (by simp) ?_;generalize hP:aI (aI _ j _) j _=HP;have R2:HP j=some (⟨289,4,[[str (zed x.num),str (dec x.den),str (zed y.num),str (dec y.den)]]⟩:Row):=by rw[←hP,aA];rfl
 simp only[go_sem];refine aB (fun hb=>by cases hb) (fun _=>?_);simp only[go_sem,R2]
 repeat (refine⟨by first|decide|omega,?_⟩)
 refine PC.use (Qa x y hx hy) ?_;simp only[go_sem];exact .refl _
end Go.Proofs.YtdlijlecpopadaaGreatDoor.Nu
end
