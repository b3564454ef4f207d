/- Texts joined by a program: NuN, NuO, NuT, NuP, NuR. -/
import Derived.Test.YtdlijlecpopadaaGreatDoorZv15
set_option linter.unusedSimpArgs false
set_option linter.unusedVariables false
set_option maxRecDepth 100000
section
namespace Go.Proofs.YtdlijlecpopadaaGreatDoor.Nu
open Go.Aw Go.Aw.D Go.Proofs Ty Go.Nu
open Go.RowKit (Below)
theorem Ar:∀l:List UInt8,Lib.indexByte l 47=if l.any (· == cT)=true then((l.takeWhile (· != cT)).length:Int)else -1
 | []=>rfl
 | c::l=>by
   have ih:=Ar l;unfold Lib.indexByte;by_cases h:c=cT
   · subst h;rfl
   · have h1:(c == (47:UInt8))=false:=by simpa[cT]using h
     have h2:(c == cT)=false:=by simpa using h
     have h3:(c != cT)=true:=by simpa using h
     rw[h1,ih,List.any_cons,h2,List.takeWhile_cons,h3];simp only[Bool.false_eq_true,if_false,Bool.false_or,if_true];split
     · rw[if_neg (by simp)]
       simp
     · rfl
theorem Br{α:Type}(p:α→Bool):∀l:List α,l.take (l.takeWhile p).length=l.takeWhile p
 | []=>rfl
 | a::l=>by
   rw[List.takeWhile_cons];split
   · rw[List.length_cons,List.take_succ_cons,Br p l]
   · rfl
theorem MS{α:Type}(p:α→Bool):∀l:List α,l.drop ((l.takeWhile p).length+1)=(l.dropWhile p).drop 1
 | []=>rfl
 | a::l=>by
   rw[List.takeWhile_cons,List.dropWhile_cons];split
   · rw[List.length_cons,List.drop_succ_cons,MS p l]
   · rfl
theorem agG{l:List UInt8}(h:l.any (· == cT)=true):(l.takeWhile (· != cT)).length<l.length:=by
 rcases Nat.lt_or_ge (l.takeWhile (· != cT)).length l.length with h1|h1
 · exact h1
 · exfalso
   have h2:=Br (· != cT) l;rw[List.take_of_length_le h1]at h2;obtain⟨c,hc,hcs⟩:=List.any_eq_true.1 h;rw[h2]at hc;have:=Ag hc;simp at this hcs;exact this hcs
def RV(s:ByteArray):Int:=if iS s=true then(((bl s).takeWhile (· != cT)).length:Int)else -1
theorem Tf(s:ByteArray):PC Tryz.prog 183 [str s,str ⟨#[47]⟩] (int (RV s)):=by
 refine PC.lib (a:=[.string s,.string ⟨#[47]⟩]) (v:=.int .i64 (RV s)) (fun S w=>rfl) fun w _=>(Tryz.stringslite_Index_one s 47 w).mono fun e w' ⟨he,hw⟩=>?_
 rw[hw];exact⟨he.trans (by rw[show s.data.toList=bl s from rfl,Ar];rfl),Below.refl _ _⟩
theorem JB(s:ByteArray):PC Tryz.prog 84 [str s,str ⟨#[47]⟩] (boo (iS s)):=by
 refine PC.lib (a:=[.string s,.string ⟨#[47]⟩]) (v:=.bool (iS s)) (fun S w=>rfl) fun w _=>(Tryz.strings_Contains_one s 47 w).mono fun e w' ⟨he,hw⟩=>?_
 rw[hw];refine⟨he.trans ?_,Below.refl _ _⟩;rw[show s.data.toList=bl s from rfl,Ar];unfold iS;cases(bl s).any (· == cT) <;> simp
def FO(s:ByteArray):ByteArray:=⟨(((bl s).dropWhile (· != cT)).drop 1).toArray⟩
theorem QS(s:ByteArray)(h:s.size≤1048576):PC Tryz.prog 182 [str s,str ⟨#[47]⟩] (.tup (if iS s=true then[str (fN s),str (FO s),boo true]else[str s,str emp,boo false])):=by
 refine PC.body (c:=Tryz.f182.body.getD .skip) (fun _=>false) mixed Tryz.func182 rfl (by kernel_rfl) ?_;unfold Tryz.f182;simp only[Option.getD_some];simp only[go_sem];refine PC.use (Tf s) ?_;simp only[go_sem];have hl:=bV s;refine aA (fun hb=>?_) (fun hb=>?_)
 · have hs : iS s = true := by
     have hb:=of_decide_eq_true hb;unfold RV at hb;split at hb
     · assumption
     · omega
   have hlt:=agG hs;rw[if_pos hs,show RV s=(((bl s).takeWhile (· != cT)).length:Int)from if_pos hs];simp only[go_sem];refine gL (by rfl) (by kernel_rfl) ?_;simp only[go_sem];have e1:s.extract 0 ((bl s).takeWhile (· != cT)).length=fN s:=jG (by rw[eJ,List.drop_zero,Br];exact(gM _).symm);have e2:s.extract (((bl s).takeWhile (· != cT)).length+1) s.size=FO s:=jG (by rw[eJ,←hl,List.take_length,MS];exact(gM _).symm);refine⟨⟨by omega,by omega⟩,?_⟩;have e3:IntKind.i64.wrap ((((bl s).takeWhile (· != cT)).length:Int)+((#[47]:Array UInt8).size:Nat))=((((bl s).takeWhile (· != cT)).length+1:Nat):Int):=bG (by omega);simp only[e3,Int.toNat_natCast,e1,e2];refine⟨⟨by omega,by omega⟩,?_⟩;exact .refl _
 · have hs : ¬ iS s = true := fun hs => by
     have hb:=of_decide_eq_false hb;unfold RV at hb;rw[if_pos hs]at hb;omega
   rw[if_neg hs];simp only[go_sem];exact .refl _
theorem J3{s:ByteArray}(h:iS s=false):fN s=s:=by
 refine jG ?_;unfold fN;rw[gM];refine tK fun c hc=>?_
 unfold iS at h;rw[List.any_eq_false]at h;have:=h c hc;simpa using this
theorem YI(s:ByteArray)(h:s.size≤1048576):PC Tryz.prog 142 [str s,str ⟨#[47]⟩] (.tup (if iS s=true then[str (fN s),str (FO s),boo true]else[str s,str emp,boo false])):=by
 by_cases hs:iS s=true
 · have:=QS s h
   rw[if_pos hs]at this ⊢;refine PC.body (c:=Tryz.f142.body.getD .skip) (fun _=>false) mixed Tryz.func142 rfl (by kernel_rfl) ?_;unfold Tryz.f142;simp only[Option.getD_some];simp only[go_sem];refine PC.use this ?_;simp only[go_sem];exact .refl _
 · have:=QS s h
   rw[if_neg hs]at this ⊢;refine PC.body (c:=Tryz.f142.body.getD .skip) (fun _=>false) mixed Tryz.func142 rfl (by kernel_rfl) ?_;unfold Tryz.f142;simp only[Option.getD_some];simp only[go_sem];refine PC.use this ?_;simp only[go_sem];exact .refl _
theorem Gc(s:ByteArray)(h:s.size≤1048576):PC Tryz.prog 81 [str s] (.tup [str (fN s),str (fG s)]):=by
 have hc:=YI s h;by_cases hs:iS s=true
 · rw[if_pos hs]at hc
   refine PC.body (c:=Tryz.f81.body.getD .skip) (fun _=>false) mixed Tryz.func81 rfl (by kernel_rfl) ?_;unfold Tryz.f81;simp only[Option.getD_some];simp only[go_sem];refine PC.use hc ?_;simp only[go_sem];refine aA (fun hb=>by cases hb) (fun _=>?_);simp only[go_sem];rw[show fG s=FO s from if_pos hs];exact .refl _
 · rw[if_neg hs]at hc
   refine PC.body (c:=Tryz.f81.body.getD .skip) (fun _=>false) mixed Tryz.func81 rfl (by kernel_rfl) ?_;unfold Tryz.f81;simp only[Option.getD_some];simp only[go_sem];refine PC.use hc ?_;simp only[go_sem];refine aA (fun _=>?_) (fun hb=>by cases hb);simp only[go_sem];rw[show fG s=dec 1 from if_neg hs,J3 (by simpa using hs),←xN];exact .refl _
theorem Iq(s:ByteArray):PC Tryz.prog 83 [str s] (int (cY s).size):=by
 refine PC.body (c:=Tryz.f83.body.getD .skip) (fun _=>false) mixed Tryz.func83 rfl (by kernel_rfl) ?_;unfold Tryz.f83;simp only[Option.getD_some];simp only[go_sem];refine PC.use (vB s) ?_;simp only[go_sem];exact .refl _
theorem EN(s:ByteArray):(fN s).size≤s.size:=by
 rw[←bV,←bV,show bl (fN s)=(bl s).takeWhile (· != cT)from gM _,←Br];simp;omega
theorem E2(s:ByteArray):(fG s).size≤max s.size 1:=by
 unfold fG;split
 · rw[←bV,←bV,gM,List.length_drop]
   have:((bl s).dropWhile (· != cT)).length≤(bl s).length:=(List.dropWhile_suffix _).length_le;omega
 · rw[←xN];exact Nat.le_max_right _ _
theorem KG:cR (dec 1)=true:=jD 1
theorem Ce{s:ByteArray}(h:cR s=true):cY s=s:=by rw[←gV h,I6]
theorem Fh{s:ByteArray}(h:iS s=false):fG s=dec 1:=if_neg (by rw[h];simp)
theorem CT{s:ByteArray}(hb:(!eU (fN s)||decide (((cY (fN s)).size:Int)>4096)||decide (((cY (fG s)).size:Int)>4096))=true):cE s=false:=by
 unfold cE;rw[Bool.eq_false_iff];simp only[ne_eq,Bool.and_eq_true,decide_eq_true_eq];rintro⟨⟨⟨⟨h1,h2⟩,h3⟩,h4⟩,_⟩;rw[h1,Ce h2]at hb;simp only[Bool.not_true,Bool.false_or,Bool.or_eq_true,decide_eq_true_eq]at hb;omega
theorem tZ{s:ByteArray}(hb:(!eU (fN s)||decide (((cY (fN s)).size:Int)>4096)||decide (((cY (fG s)).size:Int)>4096))=false)(hr:cR (fG s)=true):
   (eU (fN s)&&cR (fG s)&&decide ((cY (fN s)).size≤4096)&&decide ((fG s).size≤4096))=true∧eU (fN s)=true∧(cY (fN s)).size≤4096∧(fG s).size≤4096:=by
 simp only[Bool.or_eq_false_iff,Bool.not_eq_false',decide_eq_false_iff_not]at hb;rw[Ce hr]at hb;obtain⟨⟨h1,h2⟩,h3⟩:=hb;have h2:(cY (fN s)).size≤4096:=by omega
 have h3:(fG s).size≤4096:=by omega
 refine⟨?_,h1,h2,h3⟩;rw[h1,hr];simp[h2,h3]
theorem yY(s:ByteArray)(h:s.size≤1048576):PC Tryz.prog 44 [str s] (boo (cE s)):=by
 have hn:=EN s;have hd:=E2 s;have h1:(1:Nat)≤1048576:=by omega
 have hdn:=Gn (fN s);have hdd:=Gn (fG s);refine PC.body (c:=Tryz.f44.body.getD .skip) (fun _=>false) mixed Tryz.func44 rfl (by kernel_rfl) ?_;unfold Tryz.f44;simp only[Option.getD_some];simp only[go_sem];refine PC.use (Gc s h) ?_;simp only[go_sem];refine PC.use (P4 (fN s) (by omega)) ?_;simp only[go_sem];refine⟨_,fun _=>(Iq (fN s)).q rfl,?_⟩;simp only[go_sem];refine⟨_,fun _=>(Iq (fG s)).q rfl,?_⟩;simp only[go_sem];refine aA (fun hb=>?_) (fun hb=>?_)
 · simp only[go_sem]
   exact cB (CT hb).symm
 simp only[go_sem];refine PC.use (JB s) ?_;simp only[go_sem];refine aA (fun hs=>?_) (fun hs=>?_)
 · simp only[go_sem]
   refine cB ?_;have h0:iS s=false:=by simpa using hs
   have h2:cR (fG s)=true:=by rw[Fh h0];exact KG
   unfold cE;rw[(tZ hb h2).1,h0];rfl
 have h0:iS s=true:=by simpa using hs
 simp only[go_sem];refine PC.use (xO (fG s) (by omega)) ?_;simp only[go_sem,nM,Cw];refine aA (fun hc=>?_) (fun hc=>?_)
 · simp only[go_sem]
   refine cB ?_;unfold cE;rw[h0];simp only[Bool.or_eq_true,Bool.not_eq_true']at hc;rcases hc with((hc|hc)|hc)|hc <;> simp[hc]
 simp only[Bool.or_eq_false_iff,Bool.not_eq_false']at hc;obtain⟨⟨⟨h2,h3⟩,h4⟩,h5⟩:=hc;obtain⟨f1,f2,f3,f4⟩:=tZ hb h2;simp only[go_sem];refine PC.use (vB (fN s)) ?_;simp only[go_sem];refine PC.use (Q2 (cY (fN s)) (fG s) (by omega) (by omega)) ?_;simp only[go_sem,Cw];refine cB ?_;have fd:=zQ f2;have v0:dJ (fG s)≠0:=fun e=>mT.1 h3 (by rw[←gV h2,e])
 have v1:dJ (fG s)<cC:=(sJ h2).1 f4;have e:wA (cY (fN s)) (fG s)=(dec (Nat.gcd (dJ (cY (fN s))) (dJ (fG s))),0):=by
   unfold wA;rw[if_pos (Bj fd h2 f3 f4),vH (Nat.lt_of_le_of_lt (Nat.gcd_le_right _ (by omega)) v1)]
 have ev:(iU (fN s)).natAbs=dJ (cY (fN s)):=by unfold iU;split <;> omega
 rw[e];unfold cE;rw[f1,h0,h3,h4,h5,ev];simp only[beq_self_eq_true,Bool.true_and,Bool.not_true,Bool.not_false,Bool.false_or];rw[Bool.eq_iff_iff,lC,oB,beq_iff_eq]
theorem wL(n:Int)(h0: -9223372036854775808≤n)(h1:n≤9223372036854775807):PC Tryz.prog 26 [int n] (str (zed n)):=by
 refine PC.body (c:=Tryz.f26.body.getD .skip) (fun _=>false) mixed Tryz.func26 rfl (by kernel_rfl) ?_;unfold Tryz.f26;simp only[Option.getD_some];simp only[go_sem];refine PC.use (ZC n h0 h1) ?_;simp only[go_sem];exact .refl _
def LV(a b:ByteArray):List AV:=if(cE a&&cE b)=true then[str (fN a),str (fG a),str (fN b),str (fG b),int 0]else[str emp,str emp,str emp,str emp,int 3]
theorem QV(a b:ByteArray)(ha:a.size≤1048576)(hb:b.size≤1048576):PC Tryz.prog 56 [str a,str b] (.tup (LV a b)):=by
 refine PC.body (c:=Tryz.f56.body.getD .skip) (fun _=>false) mixed Tryz.func56 rfl (by kernel_rfl) ?_;unfold Tryz.f56;simp only[Option.getD_some];simp only[go_sem];refine PC.use (yY a ha) ?_;simp only[go_sem];refine⟨_,fun _=>(yY b hb).q rfl,?_⟩;simp only[go_sem];refine aA (fun hc=>?_) (fun hc=>?_)
 · simp only[go_sem]
   rw[show LV a b=[str emp,str emp,str emp,str emp,int 3]from if_neg (by rw[Bool.not_eq_true,←Bool.not_eq_true',Bool.not_and];exact hc)];exact .refl _
 · simp only[go_sem]
   refine PC.use (Gc a ha) ?_;simp only[go_sem];refine PC.use (Gc b hb) ?_;simp only[go_sem];rw[show LV a b=_ from if_pos (by rw[←Bool.not_eq_false',Bool.not_and];exact hc)];exact .refl _
theorem WN(n:Int)(d:Nat)(hd:d≠0)(hn:n.natAbs<cC)(hdm:d<cC):PC Tryz.prog 118 [str (zed n),str (dec d)] (.tup [str (lH (mkRat n d)),int 0]):=by
 have hg:=NX (n:=n) hd hdm;have hg0:=Mp (n:=n) hd;have zs:∀{m:Int},m.natAbs<cC→(zed m).size≤1048576:=fun {m} hm=>by
   have:=(pB m).2 hm;unfold cY at this;split at this
   · rw[←bV,gM,List.length_drop]at this
     rw[←bV];omega
   · omega
 have hsm:=IN hd hn hdm;have eg:A8 (zed n) (dec (Nat.gcd n.natAbs d))=(zed (mkRat n d).num,zed (n.fmod (Nat.gcd n.natAbs d:Nat)),0):=by
   unfold A8;rw[←fM,if_pos (rQ hn (by rw[Int.natAbs_natCast];exact hg)),cU,cU,if_neg (by omega),MT hd]
 have ed:A8 (dec d) (dec (Nat.gcd n.natAbs d))=(dec (mkRat n d).den,zed ((d:Int).fmod (Nat.gcd n.natAbs d:Nat)),0):=by
   unfold A8;rw[←fM,←fM,if_pos (rQ (by rw[Int.natAbs_natCast];exact hdm) (by rw[Int.natAbs_natCast];exact hg)),cU,cU,if_neg (by omega),M0 hd,fM]
 refine PC.body (c:=Tryz.f118.body.getD .skip) (fun _=>false) mixed Tryz.func118 rfl (by kernel_rfl) ?_;unfold Tryz.f118;simp only[Option.getD_some];simp only[go_sem];refine PC.use (vB (zed n)) ?_;rw[gU];simp only[go_sem];refine PC.use (Q2 (dec n.natAbs) (dec d) (dF hn) (dF hdm)) ?_;rw[show wA (dec n.natAbs) (dec d)=(dec (Nat.gcd n.natAbs d),0)by unfold wA;rw[if_pos (uV hn hdm),bP,bP,vH hg]];simp only[go_sem];refine aA (fun hb=>by cases hb) (fun _=>?_);simp only[go_sem];refine PC.use (Gb (zed n) (dec (Nat.gcd n.natAbs d)) (zs hn) (dF hg)) ?_;rw[eg];simp only[go_sem];refine aA (fun hb=>by cases hb) (fun _=>?_);simp only[go_sem];refine PC.use (Gb (dec d) (dec (Nat.gcd n.natAbs d)) (dF hdm) (dF hg)) ?_;rw[ed];simp only[go_sem];refine aA (fun hb=>by cases hb) (fun _=>?_);simp only[go_sem,Cw];generalize mkRat n d=x at *;refine aA (fun hb=>?_) (fun hb=>?_)
 · have h1:x.den=1:=oB.1 (lC.1 hb)
   simp only[go_sem];rw[show lH x=zed x.num from if_pos h1];exact .refl _
 · have h1:x.den≠1:=fun e=>mT.1 hb (by rw[e])
   simp only[go_sem];have z1:=zs hsm.1;have z2:=dF hsm.2;have z3:(zed x.num++slB).size=(zed x.num).size+1:=by rw[ByteArray.size_append];rfl
   refine⟨by show((zed x.num).size+(1:Nat):Int)≤9223372036854775807;omega,?_⟩;refine⟨by show(((zed x.num).size+1+(dec x.den).size:Nat):Int)≤9223372036854775807;omega,?_⟩;rw[show lH x=zed x.num++slB++dec x.den from if_neg h1];exact .refl _
end Go.Proofs.YtdlijlecpopadaaGreatDoor.Nu
end
section
namespace Go.Proofs.YtdlijlecpopadaaGreatDoor.Nu
open Go.Aw Go.Aw.D Go.Proofs Ty Go.Nu
abbrev Pr:=ByteArray×ByteArray
def wJ(p:Pr):List AV:=[str p.1,str p.2]
theorem EK(p:Pr):(wJ p).length=2:=(rfl)
theorem Uc(p:Pr):(wJ p).getD 0 .any=str p.1:=(rfl)
theorem U7(p:Pr):(wJ p).getD 1 .any=str p.2:=(rfl)
theorem O0(p:Pr):(wJ p).take 2=wJ p:=(rfl)
attribute [go_sem] EK Uc U7 O0
def prA(p:Pr):List AV:=[str (uT p.1 p.2).1]
def prE:List Pr→Int
 | []=>0
 | p::l=>if(uT p.1 p.2).2≠0 then(uT p.1 p.2).2 else prE l
theorem IY:∀{l:List Pr},(∀p∈l,(uT p.1 p.2).2=0)→prE l=0
 | [],_=>rfl
 | p::l,h=>by unfold prE;rw[if_neg (by simp[h p (by simp)])];exact IY fun q hq=>h q (by simp[hq])
theorem Q0:∀{l:List Pr} {k:Nat} {p:Pr},l[k]?=some p→(∀q∈l.take k,(uT q.1 q.2).2=0)→(uT p.1 p.2).2≠0→prE l=(uT p.1 p.2).2
 | [],k,p,h,_,_=>by simp at h
 | a::l,0,p,h,_,h2=>by
   simp at h;subst h;unfold prE;rw[if_pos h2]
 | a::l,k+1,p,h,h1,h2=>by
   unfold prE;rw[if_neg (by simp[h1 a (by simp)])];exact Q0 (k:=k) (by simpa using h) (fun q hq=>h1 q (by simp[hq])) h2
def Vd(l:List (List AV)):Row:=⟨9,1,l⟩
theorem CW(l:List Pr)(hl:l.length≤1048576)(hs:∀p∈l,p.1.size≤1048576∧p.2.size≤1048576):PC Tryz.prog 117 [.sl (l.map wJ)] (.tup [.sl (if prE l=0 then l.map prA else[]),int (prE l)]):=by
 refine PC.body (c:=Tryz.f117.body.getD .skip) (fun t=>t == 6||t == 11) mixed Tryz.func117 rfl (by kernel_rfl) ?_;unfold Tryz.f117;simp only[Option.getD_some];simp only[go_sem];refine⟨⟨⟨by omega,by omega⟩,by omega⟩,?_⟩;refine aN fun j hj=>?_
 simp only[go_sem];refine⟨fun ρ H=>∃(k j:Nat),k≤l.length∧ρ 12=.sl (l.map wJ)∧ρ 13=int l.length∧ρ 4=.os j∧ρ 14=int k∧H j=some (Vd ((l.take k).map prA))∧∀p∈l.take k,(uT p.1 p.2).2=0,fun ρ _=>l.length-bQ (ρ 14),
   ⟨0,j,Nat.zero_le _,by simp only[go_sem],by simp only[go_sem,List.length_map],by simp only[go_sem],by simp only[go_sem];rfl,aB _ _ _,by simp⟩,?_⟩
 clear hj j;rintro ρ H ⟨k,j,hk,h12,h13,h4,h14,Rj,hz⟩;simp only[go_sem,h12,h13,h4,h14];refine aA (fun hlt=>?_) (fun hge=>?_)
 · have hlt:=ltB hlt
   obtain⟨p,hp0⟩:=bC hlt;have b1:=inB hlt;have hps:=hs p (List.mem_of_getElem? hp0);simp only[go_sem,h12,h13,h4,h14,aH hp0,b1];refine aN fun i hi=>?_
   have nji:j≠i:=aO Rj hi;simp only[go_sem,h12,h13,h4,h14];refine aU (aB _ _ _) (by simp[EK]) ?_;generalize hG:aJ (aJ _ i _) i _=HG;have Ri:HG i=some (⟨189,2,[wJ p]⟩:Row):=by rw[←hG,aB];rfl
   have Rj':HG j=some (Vd ((l.take k).map prA)):=by rw[←hG,aD _ _ _ _ nji,aD _ _ _ _ nji];exact Rj
   clear hG hi Rj;simp only[go_sem,h12,h13,h4,h14,Ri]
   repeat (refine⟨by first|decide|omega,?_⟩)
   refine PC.use (WH p.1 p.2 hps.1 hps.2) ?_;simp only[go_sem,h12,h13,h4,h14];refine aA (fun hb=>?_) (fun hb=>?_)
   · have hb:(uT p.1 p.2).2≠0:=by simpa using hb
     simp only[go_sem];have e:prE l=(uT p.1 p.2).2:=Q0 hp0 hz hb;rw[e,if_neg hb];exact .refl _
   · have hb:(uT p.1 p.2).2=0:=by simpa using hb
     simp only[go_sem,h12,h13,h4,h14];refine bA Rj' ⟨rfl,rfl⟩ ⟨rfl,trivial⟩ (by simp only[Vd,List.length_map,List.length_take,List.length_cons,List.length_nil];omega) (fun j' hj'=>?_);simp only[go_sem,h12,h13,h4,h14,bG (show k≤4611686018427387904 by omega)];refine⟨⟨k+1,j',hlt,rfl,rfl,?_,?_⟩,by simp only[aI];omega⟩
     · rw[aB]
       simp only[Vd,cN hp0,List.map_append,List.map_cons,List.map_nil];rfl
     · intro q hq
       rw[cN hp0]at hq;rcases List.mem_append.1 hq with hq|hq
       · exact hz q hq
       · rw[List.mem_singleton.1 hq];exact hb
 · have hge:=geB hk hge
   subst hge;rw[List.take_length]at Rj hz;simp only[go_sem,h4,Rj];have e:prE l=0:=IY hz;rw[if_pos e,e];exact .tup _ _ (.cons _ _ _ _ (.row _ _ _ Rj (ConvE.refl _)) (ConvL.refl _))
theorem Cu{m n:Int}(hm:m.natAbs<cC)(hn:n.natAbs<cC):uT (zed m) (zed n)=szZ (m*n):=by unfold uT;rw[if_pos (rQ hm hn),cU,cU]
theorem RJ{m n:Int}(hm:m.natAbs<cC)(hn:n.natAbs<cC):O3 (zed m) (zed n)=szZ (m+n):=by unfold O3;rw[if_pos (rQ hm hn),cU,cU]
theorem Su{m n:Int}(hm:m.natAbs<cC)(hn:n.natAbs<cC):Oe (zed m) (zed n)=szZ (m-n):=by unfold Oe;rw[if_pos (rQ hm hn),cU,cU]
theorem GS{n:Int}(h:oE n=false):szZ n=(zed n,0):=if_pos (nU.1 h)
theorem Bg{n:Int}(h:oE n=true):szZ n=(emp,4):=if_neg (fun h2=>by rw[nU.2 h2]at h;cases h)
theorem gI{m:Int}(hm:m.natAbs<cC):(zed m).size≤1048576:=by
 have:=(pB m).2 hm;unfold cY at this;split at this
 · rw[←bV,gM,List.length_drop]at this
   rw[←bV];omega
 · omega
theorem HS{a b c d:Int}(ha:a.natAbs<cC)(hb:b.natAbs<cC)(hc:c.natAbs<cC)(hd:d.natAbs<cC):
   PC Tryz.prog 117 [.sl [[str (zed a),str (zed b)],[str (zed c),str (zed d)]]] (if(oE (a*b)||oE (c*d))=true then .tup [.sl [],int 4]else .tup [.sl [[str (zed (a*b))],[str (zed (c*d))]],int 0]):=by
 have:=CW [(zed a,zed b),(zed c,zed d)] (by simp) (by simp[gI,ha,hb,hc,hd]);simp only[prE,Cu ha hb,Cu hc hd,List.map_cons,List.map_nil,prA,wJ]at this;cases h1:oE (a*b)with
 | true=>rw[Bg h1]at this;simpa using this
 | false=>
   rw[GS h1]at this;cases h2:oE (c*d)with
   | true=>rw[Bg h2]at this;simpa using this
   | false=>rw[GS h2]at this;simpa using this
theorem IX{a b:Int}(ha:a.natAbs<cC)(hb:b.natAbs<cC):
   PC Tryz.prog 117 [.sl [[str (zed a),str (zed b)]]] (if oE (a*b)=true then .tup [.sl [],int 4]else .tup [.sl [[str (zed (a*b))]],int 0]):=by
 have:=CW [(zed a,zed b)] (by simp) (by simp[gI,ha,hb]);simp only[prE,Cu ha hb,List.map_cons,List.map_nil,prA,wJ]at this;cases h1:oE (a*b)with
 | true=>rw[Bg h1]at this;simpa using this
 | false=>rw[GS h1]at this;simpa using this
def fv(g:FuncId):AV:=.v (.func (.func g) #[] #[])
def M9(op:Int→Int→Int)(x y:Rat):ByteArray×Int:=
 if(oE (x.num*y.den)||oE (y.num*x.den)||oE (op (x.num*y.den) (y.num*x.den))||oE (x.den*y.den))=true then(emp,4)else(lH (mkRat (op (x.num*y.den) (y.num*x.den)) (x.den*y.den)),0)
def AK(op:Int→Int→Int)(a b:ByteArray):ByteArray×Int:=if(cE a&&cE b)=true then M9 op (gR a) (gR b)else(emp,3)
theorem Ey(g:FuncId)(op:Int→Int→Int)(hok:aC Tryz.prog g=true)(hg:∀m n:Int,m.natAbs<cC→n.natAbs<cC→PC Tryz.prog g [str (zed m),str (zed n)] (.tup [str (szZ (op m n)).1,int (szZ (op m n)).2]))
   (a b:ByteArray) (ha:a.size≤1048576) (hb:b.size≤1048576):PC Tryz.prog 59 [str a,str b,fv g] (.tup [str (AK op a b).1,int (AK op a b).2]):=by
 have htwo:=QV a b ha hb;by_cases hr:(cE a&&cE b)=true
 rotate_left
 · rw[show LV a b=_ from if_neg hr]at htwo
   rw[show AK op a b=(emp,3)from if_neg hr];unfold fv;refine PC.body (c:=Tryz.f59.body.getD .skip) (fun _=>false) mixed Tryz.func59 rfl (by kernel_rfl) ?_;unfold Tryz.f59;simp only[Option.getD_some];simp only[go_sem];refine PC.use htwo ?_;simp only[go_sem];refine aA (fun _=>?_) (fun hb=>by cases hb);simp only[go_sem];exact .refl _
 rw[show LV a b=_ from if_pos hr]at htwo;rw[show AK op a b=_ from if_pos hr];simp only[Bool.and_eq_true]at hr;obtain⟨x,rfl,hx,e1,e2⟩:=iK hr.1;obtain⟨y,rfl,hy,e3,e4⟩:=iK hr.2;rw[e1,e2,e3,e4]at htwo;rw[gS,gS];have xd:((x.den:Int)).natAbs<cC:=by rw[Int.natAbs_natCast];exact hx.2
 have yd:((y.den:Int)).natAbs<cC:=by rw[Int.natAbs_natCast];exact hy.2
 have p2:=HS hx.1 yd hy.1 xd;have p1:=IX xd yd;rw[fM,fM]at p2 p1;unfold fv;refine PC.body (c:=Tryz.f59.body.getD .skip) (fun _=>false) mixed Tryz.func59 rfl (by kernel_rfl) ?_;unfold Tryz.f59;simp only[Option.getD_some];simp only[go_sem];refine PC.use htwo ?_;simp only[go_sem];refine aA (fun hb=>by cases hb) (fun _=>?_);simp only[go_sem];unfold M9;cases hb1:(oE (x.num*y.den)||oE (y.num*x.den))with
 | true=>
   rw[hb1,if_pos rfl]at p2;refine PC.use p2 ?_;simp only[go_sem];refine aA (fun _=>?_) (fun hb=>by cases hb);exact .refl _
 | false=>
   rw[hb1]at p2;simp only[Bool.false_eq_true,if_false]at p2;refine PC.use p2 ?_;simp only[go_sem];refine aA (fun hb=>by cases hb) (fun _=>?_);simp only[go_sem];have hb1':=hb1;simp only[Bool.or_eq_false_iff]at hb1';have hgg:=hg _ _ (nU.1 hb1'.1) (nU.1 hb1'.2);refine gL (by rfl) (by kernel_rfl) ?_;simp only[go_sem,List.length_cons,List.length_nil]
   repeat (refine⟨by first|decide|omega,?_⟩)
   refine⟨_,hgg.q rfl,?_⟩;simp only[go_sem];generalize hN:op (x.num*y.den) (y.num*x.den)=N;cases hb2:oE N with
   | true=>
     rw[Bg hb2];refine aA (fun _=>?_) (fun hb=>by cases hb);simp only[go_sem,hb1,Bool.false_or,Bool.true_or,if_true];exact .refl _
   | false=>
     rw[GS hb2];refine aA (fun hb=>by cases hb) (fun _=>?_);simp only[go_sem];cases hb3:oE ((x.den:Int)*y.den)with
     | true=>
       rw[hb3,if_pos rfl]at p1;refine PC.use p1 ?_;simp only[go_sem];refine aA (fun _=>?_) (fun hb=>by cases hb);simp only[go_sem,Bool.or_true,if_true];exact .refl _
     | false=>
       rw[hb3]at p1;simp only[Bool.false_eq_true,if_false]at p1;refine PC.use p1 ?_;simp only[go_sem];refine aA (fun hb=>by cases hb) (fun _=>?_);simp only[go_sem,List.length_cons,List.length_nil]
       repeat (refine⟨by first|decide|omega,?_⟩)
       have hD:x.den*y.den<cC:=by rw[←GH];exact nU.1 hb3
       have:=WN N (x.den*y.den) (Lj x y) (nU.1 hb2) hD;rw[←fM,Int.natCast_mul]at this;refine PC.use this ?_;simp only[go_sem];exact .refl _
theorem NL(a b:ByteArray):AK (·+·) a b=oF a b:=by
 unfold AK oF M9 Au;simp only[F8]
theorem Oq(a b:ByteArray):AK (·-·) a b=wB a b:=by
 unfold AK wB M9 Au;simp only[F8,Rat.neg_num,Rat.neg_den,Int.neg_mul,←Int.sub_eq_add_neg];have:∀n:Int,oE (-n)=oE n:=fun n=>by unfold oE;rw[Int.natAbs_neg]
 simp only[this]
theorem qN(a b:ByteArray)(ha:a.size≤1048576)(hb:b.size≤1048576):PC Tryz.prog 25 [str a,str b] (.tup [str (oF a b).1,int (oF a b).2]):=by
 have:=Ey 60 (·+·) (by kernel_rfl) (fun m n hm hn=>by rw[←RJ hm hn];exact Xv _ _ (gI hm) (gI hn)) a b ha hb;rw[NL]at this;unfold fv at this;refine PC.body (c:=Tryz.f25.body.getD .skip) (fun _=>false) mixed Tryz.func25 rfl (by kernel_rfl) ?_;unfold Tryz.f25;simp only[Option.getD_some];simp only[go_sem];refine PC.use this ?_;simp only[go_sem];exact .refl _
theorem uH(a b:ByteArray)(ha:a.size≤1048576)(hb:b.size≤1048576):PC Tryz.prog 28 [str a,str b] (.tup [str (wB a b).1,int (wB a b).2]):=by
 have:=Ey 67 (·-·) (by kernel_rfl) (fun m n hm hn=>by rw[←Su hm hn];exact Wf _ _ (gI hm) (gI hn)) a b ha hb;rw[Oq]at this;unfold fv at this;refine PC.body (c:=Tryz.f28.body.getD .skip) (fun _=>false) mixed Tryz.func28 rfl (by kernel_rfl) ?_;unfold Tryz.f28;simp only[Option.getD_some];simp only[go_sem];refine PC.use this ?_;simp only[go_sem];exact .refl _
end Go.Proofs.YtdlijlecpopadaaGreatDoor.Nu
end
section
namespace Go.Nu
open Go Go.Lib
theorem gI{m:Int}(hm:m.natAbs<cC):(zed m).size≤4097:=by
 have:=(pB m).2 hm;unfold cY at this;split at this
 · rw[←bV,gM,List.length_drop]at this
   rw[←bV];omega
 · omega
theorem Dv{x:Rat}(h:mX x):(lH x).size≤8194:=by
 have h1:=gI h.1;have h2:=(fX x.den).2 h.2;unfold lH;split
 · omega
 · rw[ByteArray.size_append,ByteArray.size_append]
   have:slB.size=1:=rfl;omega
theorem uS{s:ByteArray}(h:cE s=true):s.size≤8194:=by
 obtain⟨x,rfl,hs,_⟩:=iK h;exact Dv hs
theorem KO:cE (dec 0)=true:=by
 have:dec 0=lH 0:=(fM 0).symm.trans (if_pos (show(0:Rat).den=1 from rfl)).symm;rw[this];exact lL ⟨Un,uB (k:=1) (by decide) (by decide)⟩
end Go.Nu
end
section
namespace Go.Proofs.YtdlijlecpopadaaGreatDoor.Nu
open Go.Aw Go.Aw.D Go.Proofs Ty Go.Nu
theorem HL{p q:Int}(hq:0<q):(p.fdiv q).natAbs≤p.natAbs:=by
 obtain⟨e,h0,h1⟩:=pQ (p:=p) hq;generalize p.fdiv q=d at *;generalize p.fmod q=m at *;rcases Int.lt_or_le d 0 with hd|hd
 · have h2:(d+1)*q≤(d+1)*1:=Int.mul_le_mul_of_nonpos_left (by omega) (by omega)
   rw[Int.add_mul]at h2;omega
 · have h2:d*1≤d*q:=Int.mul_le_mul_of_nonneg_left (by omega) hd
   omega
theorem J1{p q:Int}(hp:p.natAbs<cC)(hq:q.natAbs<cC)(h:0<q):A8 (zed p) (zed q)=(zed (p.fdiv q),zed (p.fmod q),0):=by
 unfold A8;rw[if_pos (rQ hp hq),cU,cU,if_neg (by omega)]
theorem Sf(i j:Int):QR (zed i) (zed j)=iC i j:=by unfold QR;rw[if_pos ⟨pO _,pO _⟩,cU,cU]
theorem Ku(i j:Int):iC i j= -1∨iC i j=0∨iC i j=1:=by
 unfold iC;split
 · exact .inl rfl
 · split
   · exact .inr (.inr rfl)
   · exact .inr (.inl rfl)
def aeT:AV→Nat
 | .v (.string s)=>(iU s).natAbs
 | _=>0
theorem Io(n:Int):aeT (str (zed n))=n.natAbs:=by show(iU (zed n)).natAbs=_;rw[cU]
theorem CX(n:Int):(bl (zed n) == [48])=decide (n=0):=by
 rw[nM,←show zed ((0:Nat):Int)=dec 0 from fM 0,Bool.eq_iff_iff,lC,Td,decide_eq_true_iff];exact Iff.rfl
theorem acJ{a b:Int}(ha:a=1∨a= -1)(hb:b= -1∨b=0∨b=1):IntKind.i64.wrap (a*b)=a*b:=by
 rcases ha with rfl|rfl <;> rcases hb with rfl|rfl|rfl <;> rfl
theorem Hg{a:Int}(ha:a=1∨a= -1):IntKind.i64.wrap (0-a)= -a:=by rcases ha with rfl|rfl <;> rfl
theorem lF(a b:ByteArray)(ha:a.size≤1048576)(hb:b.size≤1048576):PC Tryz.prog 24 [str a,str b] (int (sY a b)):=by
 have htwo:=QV a b ha hb;by_cases hr:(cE a&&cE b)=true
 rotate_left
 · rw[show LV a b=_ from if_neg hr]at htwo
   rw[show sY a b=0 from if_neg hr];refine PC.body (c:=Tryz.f24.body.getD .skip) (fun _=>false) mixed Tryz.func24 rfl (by kernel_rfl) ?_;unfold Tryz.f24;simp only[Option.getD_some];simp only[go_sem];refine PC.use htwo ?_;simp only[go_sem];refine aA (fun _=>?_) (fun hb=>by cases hb);simp only[go_sem];exact .refl _
 rw[show LV a b=_ from if_pos hr]at htwo;rw[show sY a b=_ from if_pos hr];simp only[Bool.and_eq_true]at hr;obtain⟨x,rfl,hx,e1,e2⟩:=iK hr.1;obtain⟨y,rfl,hy,e3,e4⟩:=iK hr.2;rw[e1,e2,e3,e4]at htwo;rw[gS,gS];have xd:((x.den:Int)).natAbs<cC:=by rw[Int.natAbs_natCast];exact hx.2
 have yd:((y.den:Int)).natAbs<cC:=by rw[Int.natAbs_natCast];exact hy.2
 have x0:=x.den_nz;have y0:=y.den_nz;rw[←fM,←fM]at htwo;refine PC.body (c:=Tryz.f24.body.getD .skip) (fun _=>false) mixed Tryz.func24 rfl (by kernel_rfl) ?_;unfold Tryz.f24;simp only[Option.getD_some];simp only[go_sem];refine PC.use htwo ?_;simp only[go_sem];refine aA (fun hb=>by cases hb) (fun _=>?_);simp only[go_sem];refine⟨fun ρ _=>∃(p q r s g:Int),ρ 5=str (zed p)∧ρ 6=str (zed q)∧ρ 7=str (zed r)∧ρ 8=str (zed s)∧ρ 10=int g∧(g=1∨g= -1)∧0<q∧0<s∧p.natAbs<cC∧q.natAbs<cC∧r.natAbs<cC∧s.natAbs<cC∧OU x y=g*Gq p q r s,fun ρ _=>aeT (ρ 6),
   ⟨x.num,x.den,y.num,y.den,1,by simp only[go_sem],by simp only[go_sem],by simp only[go_sem],by simp only[go_sem],by simp only[go_sem],.inl rfl,by omega,by omega,hx.1,xd,hy.1,yd,by rw[Int.one_mul,WD]⟩,?_⟩
 rintro ρ H ⟨p,q,r,s,g,h5,h6,h7,h8,h10,hg,hq,hs,bp,bq,br,bs,hinv⟩;simp only[go_sem,h5,h6,h7,h8,h10];refine PC.use (Gb (zed p) (zed q) (gI bp) (gI bq)) ?_;rw[J1 bp bq hq];simp only[go_sem,h5,h6,h7,h8,h10];refine PC.use (Gb (zed r) (zed s) (gI br) (gI bs)) ?_;rw[J1 br bs hs];simp only[go_sem,h5,h6,h7,h8,h10];have d1:=HL (p:=p) hq;have d2:=HL (p:=r) hs;refine PC.use (Kj (zed (p.fdiv q)) (zed (r.fdiv s)) (gI (by omega)) (gI (by omega))) ?_;rw[Sf];simp only[go_sem,h5,h6,h7,h8,h10];obtain⟨_,m0,m1⟩:=pQ (p:=p) hq;obtain⟨_,n0,n1⟩:=pQ (p:=r) hs;have c3:=Ku (p.fdiv q) (r.fdiv s);refine aA (fun hc=>?_) (fun hc=>?_)
 · have hc:iC (p.fdiv q) (r.fdiv s)≠0:=by simpa using hc
   simp only[go_sem,h10,acJ hg c3];refine cI ?_;rw[hinv,KK hq hs (fun e=>hc (oL e))]
 have hc:p.fdiv q=r.fdiv s:=DK.1 (by simpa using hc);have hX:=OD hq hs hc;generalize p.fmod q=m at *;generalize r.fmod s=n at *;simp only[go_sem,h5,h6,h7,h8,h10,CX];refine aA (fun hz=>?_) (fun hz=>?_)
 · have hz:m=0∧n=0:=by simpa using hz
   simp only[go_sem];refine cI ?_;rw[hinv,hX,hz.1,hz.2,Int.zero_mul,Int.zero_mul,oL rfl,Int.mul_zero]
 simp only[go_sem,h5,h6,h7,h8,h10,CX];refine aA (fun hm=>?_) (fun hm=>?_)
 · have hm:m=0:=of_decide_eq_true hm
   have hn:0<n:=by
     rcases Int.lt_or_le 0 n with h|h
     · exact h
     · exfalso
       have:n=0:=by omega
       rw[hm,this]at hz;cases hz
   simp only[go_sem,h10,Hg hg];refine cI ?_;rw[hinv,hX,hm,Int.zero_mul,iX (Int.mul_pos hn hq)];omega
 have hm:0<m:=by have:=of_decide_eq_false hm;omega
 simp only[go_sem,h5,h6,h7,h8,h10,CX];refine aA (fun hn=>?_) (fun hn=>?_)
 · have hn:n=0:=of_decide_eq_true hn
   simp only[go_sem,h10];refine cI ?_;rw[hinv,hX,hn,Int.zero_mul,iZ (Int.mul_pos hm hs)];omega
 have hn:0<n:=by have:=of_decide_eq_false hn;omega
 simp only[go_sem,h5,h6,h7,h8,h10,Hg hg];refine⟨⟨q,m,s,n,-g,rfl,rfl,rfl,rfl,rfl,by omega,hm,hn,bq,by omega,bs,by omega,?_⟩,?_⟩
 · rw[hinv,hX,O6]
   rw[Int.mul_neg,Int.neg_mul]
 · rw[Io,Io];omega
theorem Dw{P:Program}{G:_}{t:TypeId}{a b:ByteArray}{k:AV→Prop}:fP P G .lss t (.v (.string a)) (.v (.string b)) k=k (.v (.bool (Op.bytesLess a.toList b.toList))):=(rfl)
attribute [go_sem ↓] Dw
attribute [go_sem] Dw
theorem Wg(s:ByteArray):s.toList=bl s:=ByteArray.toList_eq s
theorem I1:∀{l r:List UInt8},l.length=r.length→Op.bytesLess l r=decide (Lib.compareBytes l r= -1)
 | [],[],_=>rfl
 | [],_::_,h=>by simp at h
 | _::_,[],h=>by simp at h
 | a::l,b::r,h=>by
   simp only[List.length_cons,Nat.add_right_cancel_iff]at h;have ih:=I1 h;rw[Op.bytesLess,Lib.compareBytes,ih];by_cases h1:a<b
   · simp[h1]
   · by_cases h2:b<a
     · have : (a == b) = false := by
         rw[beq_eq_false_iff_ne];rintro rfl;exact absurd h2 h1
       simp[h1,h2,this]
     · have : a = b := by
         rw[UInt8.lt_iff_toNat_lt]at h1 h2;exact UInt8.toNat_inj.1 (by omega)
       subst this;simp
theorem SE{m n:Nat}(h:(dec m).size=(dec n).size):Op.bytesLess (bl (dec m)) (bl (dec n))=decide (m<n):=by
 have hm:=eY m;have hn:=eY n;rw[fS,fS,I1 (by omega),At (qC m) (qC n) (by omega),mA,mA,decide_eq_decide];unfold iC;split
 · simp;omega
 · split <;> simp <;> omega
theorem vD(s:ByteArray)(h:s.size≤4611686018427387904):PC Tryz.prog 103 [str s] (boo (cR s)):=by
 have hs:=bV s;refine PC.body (c:=Tryz.f103.body.getD .skip) (fun _=>false) mixed Tryz.func103 rfl (by kernel_rfl) ?_;unfold Tryz.f103;simp only[Option.getD_some];simp only[go_sem];refine⟨fun h=>⟨by omega,by have:=of_decide_eq_true h.2;omega⟩,?_⟩;have hc:((s.size:Int) == 0||decide ((s.size:Int)>1)&&((bl s).getD 0 0).toNat == (48:Int))= !(bl s != []&&((bl s).length == 1||(bl s).getD 0 0 != 48)):=by
   rw[←hs];cases bl s with
   | nil=>rfl
   | cons c r=>
     have e1:(((c.toNat:Nat):Int) == 48)=(c == 48):=by
       rw[Bool.eq_iff_iff,beq_iff_eq,beq_iff_eq,←UInt8.toNat_inj];exact Int.ofNat_inj (n:=48)
     simp only[List.getD_cons_zero,e1];cases r with
     | nil=>simp
     | cons c2 r=>
       have h0:(((c::c2::r).length:Int) == 0)=false:=by simp;omega
       have h1:decide (((c::c2::r).length:Int)>1)=true:=by simp;omega
       rw[h0,h1,show((c::c2::r) != [])=true from rfl,show((c::c2::r).length == 1)=false from rfl];cases h:(c == 48) <;> simp[bne,h]
 rw[hc];refine aA (fun hb=>?_) (fun hb=>?_)
 · simp only[go_sem]
   refine cB ?_;unfold cR dL;rw[Bool.not_eq_true']at hb;rw[hb];rfl
 rw[Bool.not_eq_false']at hb;simp only[go_sem];refine⟨fun ρ _=>∃k:Nat,k≤(bl s).length∧ρ 0=str s∧ρ 3=int k∧∀c∈(bl s).take k,isD c=true,fun ρ _=>(bl s).length-bQ (ρ 3),⟨0,Nat.zero_le _,rfl,rfl,by simp⟩,?_⟩;rintro ρ H ⟨k,hk,h0,h3,hz⟩;simp only[go_sem,h0,h3];refine aA (fun hlt=>?_) (fun hge=>?_)
 · have hlt:k<(bl s).length:=by have:=ltB hlt;omega
   obtain⟨c,hc⟩:=bC hlt;have hi:=nJ hc;simp only[go_sem,h0,h3,hi,F4];refine⟨⟨by omega,by omega⟩,fun _=>⟨by omega,by omega⟩,aA (fun hb2=>?_) (fun hb2=>?_)⟩
   · simp only[go_sem]
     refine cB ?_;unfold cR dL;rw[Li hc (by simpa using hb2),Bool.and_false]
   · simp only[go_sem,h0,h3,bG (show k≤4611686018427387904 by omega)]
     exact⟨⟨k+1,hlt,rfl,rR hc (by simpa using hb2) hz⟩,by simp only[aI];omega⟩
 · have hge:k=(bl s).length:=by rw[←hs]at hge;exact geB hk hge
   subst hge;rw[List.take_length]at hz;simp only[go_sem];refine cB ?_;unfold cR dL;rw[hb,Gx hz];rfl
def PT(a b:ByteArray):Int:=if(cR a&&cR b)=true then iC (dJ a) (dJ b)else 0
theorem KN(a b:ByteArray)(ha:a.size≤1048576)(hb:b.size≤1048576):PC Tryz.prog 199 [str a,str b] (int (PT a b)):=by
 refine PC.body (c:=Tryz.f199.body.getD .skip) (fun _=>false) mixed Tryz.func199 rfl (by kernel_rfl) ?_;unfold Tryz.f199;simp only[Option.getD_some];simp only[go_sem];refine PC.use (vD a (by omega)) ?_;simp only[go_sem];refine⟨_,fun _=>(vD b (by omega)).q rfl,?_⟩;simp only[go_sem];refine aA (fun hc=>?_) (fun hc=>?_)
 · simp only[go_sem]
   refine cI ?_;unfold PT;split
   · rename_i hr
     simp only[Bool.and_eq_true]at hr;rw[hr.1,hr.2]at hc;have:a=b:=lC.1 (by simpa[eqB]using hc);rw[this,oL rfl]
   · rfl
 have hc:cR a=true∧cR b=true∧eqB a b=false:=by
   simp only[Bool.or_eq_false_iff,Bool.not_eq_false']at hc;exact⟨hc.1.1,hc.1.2,hc.2⟩
 obtain⟨h1,h2,h3⟩:=hc;rw[show PT a b=iC (dJ a) (dJ b)from if_pos (by rw[h1,h2];rfl)];rw[←gV h1,←gV h2,mT]at *;generalize dJ a=m at *;generalize dJ b=n at *;have hmn:m≠n:=fun e=>h3 (by rw[e])
 have hm:=eY m;have hn:=eY n;have hmono:∀{p q:Nat},(Lib.decDigits p).length<(Lib.decDigits q).length→p<q:=fun {p q} h=>by
   have h1:=(eW (n:=p) (k:=(Lib.decDigits p).length) (fW p)).1 (Nat.le_refl _);rcases Nat.lt_or_ge p q with h2|h2
   · exact h2
   · have:=(eW (n:=q) (k:=(Lib.decDigits p).length) (fW p)).2 (by omega)
     omega
 simp only[go_sem,Wg];have hk:(decide (((dec m).size:Int)<(dec n).size)||((dec m).size:Int) == (dec n).size&&Op.bytesLess (bl (dec m)) (bl (dec n)))=decide (m<n):=by
   by_cases h1:(dec m).size=(dec n).size
   · rw[SE h1,h1]
     simp
   · rcases Nat.lt_or_ge (dec m).size (dec n).size with h2|h2
     · have:=hmono (p:=m) (q:=n) (by omega)
       simp[this];omega
     · have:=hmono (p:=n) (q:=m) (by omega)
       have h3:¬m<n:=by omega
       have h4:(((dec m).size:Int) == (dec n).size)=false:=by simp;omega
       rw[h4];simp[h3];omega
 rw[hk];refine aA (fun hb=>?_) (fun hb=>?_)
 · have:=of_decide_eq_true hb
   simp only[go_sem];exact cI (by rw[bP,bP,iX (by omega)])
 · have:=of_decide_eq_false hb
   simp only[go_sem];exact cI (by rw[bP,bP,iZ (by omega)])
theorem IA(a b:ByteArray)(ha:a.size≤1048576)(hb:b.size≤1048576):PC Tryz.prog 160 [str a,str b] (int (gX a b)):=by
 refine PC.body (c:=Tryz.f160.body.getD .skip) (fun _=>false) mixed Tryz.func160 rfl (by kernel_rfl) ?_;unfold Tryz.f160;simp only[Option.getD_some];simp only[go_sem];refine PC.use (vD a (by omega)) ?_;simp only[go_sem];refine⟨_,fun _=>(vD b (by omega)).q rfl,?_⟩;simp only[go_sem];unfold gX;refine aA (fun hc=>?_) (fun hc=>?_)
 · simp only[go_sem]
   exact cI (by rw[if_pos hc])
 · simp only[go_sem]
   have e1:decide ((a.size:Int)>4096)=decide (a.size>4096):=by rw[decide_eq_decide];omega
   have e2:decide ((b.size:Int)>4096)=decide (b.size>4096):=by rw[decide_eq_decide];omega
   rw[if_neg (by rw[hc];simp),e1,e2];refine aA (fun hd=>?_) (fun hd=>?_)
   · simp only[go_sem]
     exact cI (by rw[if_pos hd])
   · simp only[go_sem]
     exact cI (by rw[if_neg (by rw[hd];simp)])
theorem yN(d:Nat)(hd:d<10):PC Tryz.prog 201 [int d] (str (dec d)):=by
 refine PC.body (c:=Tryz.f201.body.getD .skip) (fun _=>false) mixed Tryz.func201 rfl (by kernel_rfl) ?_;unfold Tryz.f201;simp only[Option.getD_some];simp only[go_sem];have e1:IntKind.i64.wrap ((d:Int)+1)=((d+1:Nat):Int):=bG (by omega);rw[e1];refine⟨⟨by omega,by omega,by show((d+1:Nat):Int)≤10;omega⟩,?_⟩;refine cS (jG ?_);rw[eJ,fS,Lib.decDigits_one hd];have key:∀e:Fin 10,(List.take (e.val+1) (bl ⟨#[48,49,50,51,52,53,54,55,56,57]⟩)).drop e.val=[UInt8.ofNat (48+e.val)]:=by decide
 exact key ⟨d,hd⟩
theorem acC{l:List UInt8}{i:Nat}(h:i<l.length):(dl l).getD i 0=(l.getD (l.length-1-i) 0).toNat-48:=by
 have h2:l.length-1-i<l.length:=by omega
 simp only[dl,List.getD,List.getElem?_reverse (show i<(l.map fun c=>c.toNat-48).length by simpa using h),List.length_map,List.getElem?_map,List.getElem?_eq_getElem h2,Option.map_some,Option.getD_some]
theorem Hw(s:ByteArray)(hs:(bl s).all isD=true)(i:Nat)(h:s.size≤1048576)(hi:i≤1048576):PC Tryz.prog 233 [str s,int i] (int ((dl (bl s)).getD i 0:Nat)):=by
 have hsz:=bV s;refine PC.body (c:=Tryz.f233.body.getD .skip) (fun _=>false) mixed Tryz.func233 rfl (by kernel_rfl) ?_;unfold Tryz.f233;simp only[Option.getD_some];simp only[go_sem];refine aA (fun hc=>?_) (fun hc=>?_)
 · simp only[go_sem]
   refine cI ?_;have:=of_decide_eq_true hc;have h2:(dl (bl s)).getD i 0=0:=by
     simp only[List.getD,List.getElem?_eq_none (show(dl (bl s)).length≤i by rw[Ch];omega),Option.getD_none]
   rw[h2];rfl
 have hc:i<s.size:=by have:=of_decide_eq_false hc;omega
 have e1:IntKind.i64.wrap (IntKind.i64.wrap ((s.size:Int)-1)-(i:Int))=((s.size-1-i:Nat):Int):=by
   rw[show IntKind.i64.wrap ((s.size:Int)-1)=(s.size:Int)-1 from aT (by omega),aT (by omega)];omega
 obtain⟨c,hcc⟩:=bC (l:=bl s) (k:=s.size-1-i) (by omega);have hcd:=jT.1 (List.all_eq_true.1 hs c (List.mem_of_getElem? hcc));simp only[go_sem,e1,Int.toNat_natCast,nJ hcc,u8w hcd.1 (by omega)];refine⟨by omega,?_⟩;refine cI ?_;rw[acC (by omega),hsz,nJ hcc,aT (by omega)]
theorem FJ(s:ByteArray)(h:s.size≤1048576)(h0:bl s≠[])(hd:(bl s).all isD=true):PC Tryz.prog 198 [str s] (str (dec (dJ s))):=by
 refine PC.body (c:=Tryz.f198.body.getD .skip) (fun _=>false) mixed Tryz.func198 rfl (by kernel_rfl) ?_;unfold Tryz.f198;simp only[Option.getD_some];simp only[go_sem];refine⟨fun ρ _=>∃t:ByteArray,ρ 0=str t∧bl t≠[]∧(bl t).all isD=true∧dJ t=dJ s∧t.size≤1048576,fun ρ _=>match ρ 0 with| .v (.string t)=>t.size|_=>0,⟨s,rfl,h0,hd,rfl,h⟩,?_⟩;rintro ρ H ⟨t,e0,ht0,htd,htv,hts⟩;simp only[go_sem,e0];have hts2:=bV t;refine⟨fun h=>⟨by omega,by have:=of_decide_eq_true h;omega⟩,aA (fun hb=>?_) (fun hb=>?_)⟩
 · have hb : t.size > 1 ∧ ((bl t).getD 0 0).toNat = 48 := by
     simp only[Bool.and_eq_true,decide_eq_true_eq,beq_iff_eq]at hb;omega
   simp only[go_sem,e0];have e1:bl (t.extract 1 t.size)=(bl t).drop 1:=by rw[eJ,←hts2,List.take_length]
   have e2:(t.extract 1 t.size).size=t.size-1:=by rw[←bV,e1,List.length_drop,hts2]
   refine⟨⟨by omega,by omega⟩,?_⟩;refine⟨⟨t.extract 1 t.size,rfl,?_,?_,?_,by omega⟩,by show(t.extract 1 t.size).size<t.size;omega⟩
   · intro e
     have:=congrArg List.length e;rw[bV,e2]at this;simp at this;omega
   · rw[e1,List.all_eq_true]
     intro c hc;exact List.all_eq_true.1 htd c (List.mem_of_mem_drop hc)
   · rw[←htv]
     unfold dJ;rw[e1];cases hbt:bl t with
     | nil=>exact absurd hbt ht0
     | cons c r=>
       rw[hbt]at hb;have:=pZ [c] r;rw[List.drop_one,List.tail_cons,show c::r=[c]++r from rfl,this];have h48:c.toNat=48:=by simpa using hb.2
       simp[fJ,h48]
 · simp only[go_sem,e0]
   refine cS ?_;have hR:cR t=true:=by
     unfold cR dL;rw[htd,Bool.and_true];have:(bl t != [])=true:=by simpa using ht0
     rw[this,Bool.true_and,Bool.or_eq_true,beq_iff_eq,bne_iff_ne];by_cases h1:t.size>1
     · refine .inr fun e=>?_
       rw[e]at hb;simp[h1]at hb;omega
     · have:=List.length_pos_iff.2 ht0
       exact .inl (by omega)
   rw[←htv,gV hR]
end Go.Proofs.YtdlijlecpopadaaGreatDoor.Nu
end
