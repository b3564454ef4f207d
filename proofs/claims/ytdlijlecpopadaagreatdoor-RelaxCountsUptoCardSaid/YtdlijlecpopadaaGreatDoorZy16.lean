/- Texts joined by a program: NuN, NuO, NuT, NuP, NuR. -/
import Derived.Test.YtdlijlecpopadaaGreatDoorZy12
import Derived.Test.YtdlijlecpopadaaGreatDoorZy15

section
set_option linter.unusedSimpArgs false
set_option linter.unusedVariables false
namespace Go.Proofs.YtdlijlecpopadaaGreatDoor.Nu
open Go.Aw Go.Aw.D Go.Proofs Ty Go.Nu
open Go.RowKit (Below)
set_option maxRecDepth 100000
theorem A0:∀l:List UInt8,Lib.indexByte l 47=if l.any (· == dC)=true then((l.takeWhile (· != dC)).length:Int)else -1
 | []=>rfl
 | c::l=>by
   have ih:=A0 l;unfold Lib.indexByte;by_cases h:c=dC
   · subst h;rfl
   · have h1:(c == (47:UInt8))=false:=by simpa[dC]using h
     have h2:(c == dC)=false:=by simpa using h
     have h3:(c != dC)=true:=by simpa using h
     rw[h1,ih,List.any_cons,h2,List.takeWhile_cons,h3];simp only[Bool.false_eq_true,if_false,Bool.false_or,if_true];split
     · rw[if_neg (by simp)]
       simp
     · rfl
theorem Cl{α:Type}(p:α→Bool):∀l:List α,l.take (l.takeWhile p).length=l.takeWhile p
 | []=>rfl
 | a::l=>by
   rw[List.takeWhile_cons];split
   · rw[List.length_cons,List.take_succ_cons,Cl p l]
   · rfl
theorem N1{α:Type}(p:α→Bool):∀l:List α,l.drop ((l.takeWhile p).length+1)=(l.dropWhile p).drop 1
 | []=>rfl
 | a::l=>by
   rw[List.takeWhile_cons,List.dropWhile_cons];split
   · rw[List.length_cons,List.drop_succ_cons,N1 p l]
   · rfl
theorem afW{l:List UInt8}(h:l.any (· == dC)=true):(l.takeWhile (· != dC)).length<l.length:=by
 rcases Nat.lt_or_ge (l.takeWhile (· != dC)).length l.length with h1|h1
 · exact h1
 · exfalso
   have h2:=Cl (· != dC) l;rw[List.take_of_length_le h1]at h2;obtain⟨c,hc,hcs⟩:=List.any_eq_true.1 h;rw[h2]at hc;have:=Bj hc;simp at this hcs;exact this hcs
def TL(s:ByteArray):Int:=if jP s=true then(((bl s).takeWhile (· != dC)).length:Int)else -1
theorem TE(s:ByteArray):PC Tryz.prog 183 [str s,str ⟨#[47]⟩] (int (TL s)):=by
 refine PC.lib (a:=[.string s,.string ⟨#[47]⟩]) (v:=.int .i64 (TL s)) (fun S w=>rfl) fun w _=>(Tryz.stringslite_Index_one s 47 w).mono fun e w' ⟨he,hw⟩=>?_
 rw[hw];exact⟨he.trans (by rw[show s.data.toList=bl s from rfl,A0];rfl),Below.refl _ _⟩
theorem Lb(s:ByteArray):PC Tryz.prog 84 [str s,str ⟨#[47]⟩] (boo (jP s)):=by
 refine PC.lib (a:=[.string s,.string ⟨#[47]⟩]) (v:=.bool (jP s)) (fun S w=>rfl) fun w _=>(Tryz.strings_Contains_one s 47 w).mono fun e w' ⟨he,hw⟩=>?_
 rw[hw];refine⟨he.trans ?_,Below.refl _ _⟩;rw[show s.data.toList=bl s from rfl,A0];unfold jP;cases(bl s).any (· == dC) <;> simp
def GN(s:ByteArray):ByteArray:=⟨(((bl s).dropWhile (· != dC)).drop 1).toArray⟩
theorem Si(s:ByteArray)(h:s.size≤1048576):PC Tryz.prog 182 [str s,str ⟨#[47]⟩] (.tup (if jP s=true then[str (fI s),str (GN s),boo true]else[str s,str emp,boo false])):=by
 refine PC.body (c:=Tryz.f182.body.getD .skip) (fun _=>false) mixed Tryz.func182 rfl (by kernel_rfl) ?_;unfold Tryz.f182;simp only[Option.getD_some];simp only[go_sem];refine PC.use (TE s) ?_;simp only[go_sem];have hl:=cE s;refine aB (fun hb=>?_) (fun hb=>?_)
 · have hs : jP s = true := by
     have hb:=of_decide_eq_true hb;unfold TL at hb;split at hb
     · assumption
     · omega
   have hlt:=afW hs;rw[if_pos hs,show TL s=(((bl s).takeWhile (· != dC)).length:Int)from if_pos hs];simp only[go_sem];refine fQ (by rfl) (by kernel_rfl) ?_;simp only[go_sem];have e1:s.extract 0 ((bl s).takeWhile (· != dC)).length=fI s:=jJ (by rw[eQ,List.drop_zero,Cl];exact(iO _).symm);have e2:s.extract (((bl s).takeWhile (· != dC)).length+1) s.size=GN s:=jJ (by rw[eQ,←hl,List.take_length,N1];exact(iO _).symm);refine⟨⟨by omega,by omega⟩,?_⟩;have e3:IntKind.i64.wrap ((((bl s).takeWhile (· != dC)).length:Int)+((#[47]:Array UInt8).size:Nat))=((((bl s).takeWhile (· != dC)).length+1:Nat):Int):=bA (by omega);simp only[e3,Int.toNat_natCast,e1,e2];refine⟨⟨by omega,by omega⟩,?_⟩;exact .refl _
 · have hs : ¬ jP s = true := fun hs => by
     have hb:=of_decide_eq_false hb;unfold TL at hb;rw[if_pos hs]at hb;omega
   rw[if_neg hs];simp only[go_sem];exact .refl _
theorem Kv{s:ByteArray}(h:jP s=false):fI s=s:=by
 refine jJ ?_;unfold fI;rw[iO];refine uR fun c hc=>?_
 unfold jP at h;rw[List.any_eq_false]at h;have:=h c hc;simpa using this
theorem alM(s:ByteArray)(h:s.size≤1048576):PC Tryz.prog 142 [str s,str ⟨#[47]⟩] (.tup (if jP s=true then[str (fI s),str (GN s),boo true]else[str s,str emp,boo false])):=by
 by_cases hs:jP s=true
 · have:=Si s h
   rw[if_pos hs]at this ⊢;refine PC.body (c:=Tryz.f142.body.getD .skip) (fun _=>false) mixed Tryz.func142 rfl (by kernel_rfl) ?_;unfold Tryz.f142;simp only[Option.getD_some];simp only[go_sem];refine PC.use this ?_;simp only[go_sem];exact .refl _
 · have:=Si s h
   rw[if_neg hs]at this ⊢;refine PC.body (c:=Tryz.f142.body.getD .skip) (fun _=>false) mixed Tryz.func142 rfl (by kernel_rfl) ?_;unfold Tryz.f142;simp only[Option.getD_some];simp only[go_sem];refine PC.use this ?_;simp only[go_sem];exact .refl _
theorem GK(s:ByteArray)(h:s.size≤1048576):PC Tryz.prog 81 [str s] (.tup [str (fI s),str (eZ s)]):=by
 have hc:=alM s h;by_cases hs:jP s=true
 · rw[if_pos hs]at hc
   refine PC.body (c:=Tryz.f81.body.getD .skip) (fun _=>false) mixed Tryz.func81 rfl (by kernel_rfl) ?_;unfold Tryz.f81;simp only[Option.getD_some];simp only[go_sem];refine PC.use hc ?_;simp only[go_sem];refine aB (fun hb=>by cases hb) (fun _=>?_);simp only[go_sem];rw[show eZ s=GN s from if_pos hs];exact .refl _
 · rw[if_neg hs]at hc
   refine PC.body (c:=Tryz.f81.body.getD .skip) (fun _=>false) mixed Tryz.func81 rfl (by kernel_rfl) ?_;unfold Tryz.f81;simp only[Option.getD_some];simp only[go_sem];refine PC.use hc ?_;simp only[go_sem];refine aB (fun _=>?_) (fun hb=>by cases hb);simp only[go_sem];rw[show eZ s=dec 1 from if_neg hs,Kv (by simpa using hs),←zW];exact .refl _
theorem IQ(s:ByteArray):PC Tryz.prog 83 [str s] (int (dO s).size):=by
 refine PC.body (c:=Tryz.f83.body.getD .skip) (fun _=>false) mixed Tryz.func83 rfl (by kernel_rfl) ?_;unfold Tryz.f83;simp only[Option.getD_some];simp only[go_sem];refine PC.use (wC s) ?_;simp only[go_sem];exact .refl _
theorem Gs(s:ByteArray):(fI s).size≤s.size:=by
 rw[←cE,←cE,show bl (fI s)=(bl s).takeWhile (· != dC)from iO _,←Cl];simp;omega
theorem FD(s:ByteArray):(eZ s).size≤max s.size 1:=by
 unfold eZ;split
 · rw[←cE,←cE,iO,List.length_drop]
   have:((bl s).dropWhile (· != dC)).length≤(bl s).length:=(List.dropWhile_suffix _).length_le;omega
 · rw[←zW];exact Nat.le_max_right _ _
theorem LB:dB (dec 1)=true:=kC 1
theorem CW{s:ByteArray}(h:dB s=true):dO s=s:=by rw[←iP h,K9]
theorem F8{s:ByteArray}(h:jP s=false):eZ s=dec 1:=if_neg (by rw[h];simp)
theorem Ec{s:ByteArray}(hb:(!eC (fI s)||decide (((dO (fI s)).size:Int)>4096)||decide (((dO (eZ s)).size:Int)>4096))=true):cK s=false:=by
 unfold cK;rw[Bool.eq_false_iff];simp only[ne_eq,Bool.and_eq_true,decide_eq_true_eq];rintro⟨⟨⟨⟨h1,h2⟩,h3⟩,h4⟩,_⟩;rw[h1,CW h2]at hb;simp only[Bool.not_true,Bool.false_or,Bool.or_eq_true,decide_eq_true_eq]at hb;omega
theorem vU{s : ByteArray}(hb : (!eC (fI s) || decide (((dO (fI s)).size : Int) > 4096) || decide (((dO (eZ s)).size : Int) > 4096)) = false)(hr : dB (eZ s) = true):
   (eC (fI s)&&dB (eZ s)&&decide ((dO (fI s)).size≤4096)&&decide ((eZ s).size≤4096))=true∧eC (fI s)=true∧(dO (fI s)).size≤4096∧(eZ s).size≤4096:=by
 simp only[Bool.or_eq_false_iff,Bool.not_eq_false',decide_eq_false_iff_not]at hb;rw[CW hr]at hb;obtain⟨⟨h1,h2⟩,h3⟩:=hb;have h2:(dO (fI s)).size≤4096:=by omega
 have h3:(eZ s).size≤4096:=by omega
 refine⟨?_,h1,h2,h3⟩;rw[h1,hr];simp[h2,h3]
theorem As(s:ByteArray)(h:s.size≤1048576):PC Tryz.prog 44 [str s] (boo (cK s)):=by
 have hn:=Gs s;have hd:=FD s;have h1:(1:Nat)≤1048576:=by omega
 have hdn:=Ak (fI s);have hdd:=Ak (eZ s);refine PC.body (c:=Tryz.f44.body.getD .skip) (fun _=>false) mixed Tryz.func44 rfl (by kernel_rfl) ?_;unfold Tryz.f44;simp only[Option.getD_some];simp only[go_sem];refine PC.use (GK s h) ?_;simp only[go_sem];refine PC.use (T2 (fI s) (by omega)) ?_;simp only[go_sem];refine⟨_,fun _=>(IQ (fI s)).q rfl,?_⟩;simp only[go_sem];refine⟨_,fun _=>(IQ (eZ s)).q rfl,?_⟩;simp only[go_sem];refine aB (fun hb=>?_) (fun hb=>?_)
 · simp only[go_sem]
   exact cB (Ec hb).symm
 simp only[go_sem];refine PC.use (Lb s) ?_;simp only[go_sem];refine aB (fun hs=>?_) (fun hs=>?_)
 · simp only[go_sem]
   refine cB ?_;have h0:jP s=false:=by simpa using hs
   have h2:dB (eZ s)=true:=by rw[F8 h0];exact LB
   unfold cK;rw[(vU hb h2).1,h0];rfl
 have h0:jP s=true:=by simpa using hs
 simp only[go_sem];refine PC.use (An (eZ s) (by omega)) ?_;simp only[go_sem,mE,AL];refine aB (fun hc=>?_) (fun hc=>?_)
 · simp only[go_sem]
   refine cB ?_;unfold cK;rw[h0];simp only[Bool.or_eq_true,Bool.not_eq_true']at hc;rcases hc with((hc|hc)|hc)|hc <;> simp[hc]
 simp only[Bool.or_eq_false_iff,Bool.not_eq_false']at hc;obtain⟨⟨⟨h2,h3⟩,h4⟩,h5⟩:=hc;obtain⟨f1,f2,f3,f4⟩:=vU hb h2;simp only[go_sem];refine PC.use (wC (fI s)) ?_;simp only[go_sem];refine PC.use (Vg (dO (fI s)) (eZ s) (by omega) (by omega)) ?_;simp only[go_sem,AL];refine cB ?_;have fd:=AY f2;have v0:dR (eZ s)≠0:=fun e=>lS.1 h3 (by rw[←iP h2,e])
 have v1:dR (eZ s)<cC:=(tS h2).1 f4;have e:vA (dO (fI s)) (eZ s)=(dec (Nat.gcd (dR (dO (fI s))) (dR (eZ s))),0):=by
   unfold vA;rw[if_pos (Co fd h2 f3 f4),tJ (Nat.lt_of_le_of_lt (Nat.gcd_le_right _ (by omega)) v1)]
 have ev:(fF (fI s)).natAbs=dR (dO (fI s)):=by unfold fF;split <;> omega
 rw[e];unfold cK;rw[f1,h0,h3,h4,h5,ev];simp only[beq_self_eq_true,Bool.true_and,Bool.not_true,Bool.not_false,Bool.false_or];rw[Bool.eq_iff_iff,kB,nW,beq_iff_eq]
theorem Bu(n:Int)(h0: -9223372036854775808≤n)(h1:n≤9223372036854775807):PC Tryz.prog 26 [int n] (str (zed n)):=by
 refine PC.body (c:=Tryz.f26.body.getD .skip) (fun _=>false) mixed Tryz.func26 rfl (by kernel_rfl) ?_;unfold Tryz.f26;simp only[Option.getD_some];simp only[go_sem];refine PC.use (acO n h0 h1) ?_;simp only[go_sem];exact .refl _
def LW(a b:ByteArray):List AV:=if(cK a&&cK b)=true then[str (fI a),str (eZ a),str (fI b),str (eZ b),int 0]else[str emp,str emp,str emp,str emp,int 3]
theorem UU(a b:ByteArray)(ha:a.size≤1048576)(hb:b.size≤1048576):PC Tryz.prog 56 [str a,str b] (.tup (LW a b)):=by
 refine PC.body (c:=Tryz.f56.body.getD .skip) (fun _=>false) mixed Tryz.func56 rfl (by kernel_rfl) ?_;unfold Tryz.f56;simp only[Option.getD_some];simp only[go_sem];refine PC.use (As a ha) ?_;simp only[go_sem];refine⟨_,fun _=>(As b hb).q rfl,?_⟩;simp only[go_sem];refine aB (fun hc=>?_) (fun hc=>?_)
 · simp only[go_sem]
   rw[show LW a b=[str emp,str emp,str emp,str emp,int 3]from if_neg (by rw[Bool.not_eq_true,←Bool.not_eq_true',Bool.not_and];exact hc)];exact .refl _
 · simp only[go_sem]
   refine PC.use (GK a ha) ?_;simp only[go_sem];refine PC.use (GK b hb) ?_;simp only[go_sem];rw[show LW a b=_ from if_pos (by rw[←Bool.not_eq_false',Bool.not_and];exact hc)];exact .refl _
theorem Zv(n:Int)(d:Nat)(hd:d≠0)(hn:n.natAbs<cC)(hdm:d<cC):PC Tryz.prog 118 [str (zed n),str (dec d)] (.tup [str (hJ (mkRat n d)),int 0]):=by
 have hg:=Fy (n:=n) hd hdm;have hg0:=HZ (n:=n) hd;have zs:∀{m:Int},m.natAbs<cC→(zed m).size≤1048576:=fun {m} hm=>by
   have:=(nZ m).2 hm;unfold dO at this;split at this
   · rw[←cE,iO,List.length_drop]at this
     rw[←cE];omega
   · omega
 have hsm:=Dd hd hn hdm;have eg:qR (zed n) (dec (Nat.gcd n.natAbs d))=(zed (mkRat n d).num,zed (n.fmod (Nat.gcd n.natAbs d:Nat)),0):=by
   unfold qR;rw[←cX,if_pos (nK hn (by rw[Int.natAbs_natCast];exact hg)),bV,bV,if_neg (by omega),Hi hd]
 have ed:qR (dec d) (dec (Nat.gcd n.natAbs d))=(dec (mkRat n d).den,zed ((d:Int).fmod (Nat.gcd n.natAbs d:Nat)),0):=by
   unfold qR;rw[←cX,←cX,if_pos (nK (by rw[Int.natAbs_natCast];exact hdm) (by rw[Int.natAbs_natCast];exact hg)),bV,bV,if_neg (by omega),Il hd,cX]
 refine PC.body (c:=Tryz.f118.body.getD .skip) (fun _=>false) mixed Tryz.func118 rfl (by kernel_rfl) ?_;unfold Tryz.f118;simp only[Option.getD_some];simp only[go_sem];refine PC.use (wC (zed n)) ?_;rw[hY];simp only[go_sem];refine PC.use (Vg (dec n.natAbs) (dec d) (cV hn) (cV hdm)) ?_;rw[show vA (dec n.natAbs) (dec d)=(dec (Nat.gcd n.natAbs d),0)by unfold vA;rw[if_pos (tC hn hdm),bO,bO,tJ hg]];simp only[go_sem];refine aB (fun hb=>by cases hb) (fun _=>?_);simp only[go_sem];refine PC.use (HT (zed n) (dec (Nat.gcd n.natAbs d)) (zs hn) (cV hg)) ?_;rw[eg];simp only[go_sem];refine aB (fun hb=>by cases hb) (fun _=>?_);simp only[go_sem];refine PC.use (HT (dec d) (dec (Nat.gcd n.natAbs d)) (cV hdm) (cV hg)) ?_;rw[ed];simp only[go_sem];refine aB (fun hb=>by cases hb) (fun _=>?_);simp only[go_sem,AL];generalize mkRat n d=x at *;refine aB (fun hb=>?_) (fun hb=>?_)
 · have h1:x.den=1:=nW.1 (kB.1 hb)
   simp only[go_sem];rw[show hJ x=zed x.num from if_pos h1];exact .refl _
 · have h1:x.den≠1:=fun e=>lS.1 hb (by rw[e])
   simp only[go_sem];have z1:=zs hsm.1;have z2:=cV hsm.2;have z3:(zed x.num++slB).size=(zed x.num).size+1:=by rw[ByteArray.size_append];rfl
   refine⟨by show((zed x.num).size+(1:Nat):Int)≤9223372036854775807;omega,?_⟩;refine⟨by show(((zed x.num).size+1+(dec x.den).size:Nat):Int)≤9223372036854775807;omega,?_⟩;rw[show hJ x=zed x.num++slB++dec x.den from if_neg h1];exact .refl _
end Go.Proofs.YtdlijlecpopadaaGreatDoor.Nu
end

section
set_option linter.unusedSimpArgs false
set_option linter.unusedVariables false
namespace Go.Proofs.YtdlijlecpopadaaGreatDoor.Nu
open Go.Aw Go.Aw.D Go.Proofs Ty Go.Nu
set_option maxRecDepth 100000
abbrev Pr:=ByteArray×ByteArray
def xY(p:Pr):List AV:=[str p.1,str p.2]
theorem Ge(p:Pr):(xY p).length=2:=(rfl)
theorem X1(p:Pr):(xY p).getD 0 .any=str p.1:=(rfl)
theorem VN(p:Pr):(xY p).getD 1 .any=str p.2:=(rfl)
theorem PV(p:Pr):(xY p).take 2=xY p:=(rfl)
attribute [go_sem] Ge X1 VN PV
def prA(p:Pr):List AV:=[str (sC p.1 p.2).1]
def prE:List Pr→Int
 | []=>0
 | p::l=>if(sC p.1 p.2).2≠0 then(sC p.1 p.2).2 else prE l
theorem JT:∀{l:List Pr},(∀p∈l,(sC p.1 p.2).2=0)→prE l=0
 | [],_=>rfl
 | p::l,h=>by unfold prE;rw[if_neg (by simp[h p (by simp)])];exact JT fun q hq=>h q (by simp[hq])
theorem TS:∀{l:List Pr} {k:Nat} {p:Pr},l[k]?=some p→(∀q∈l.take k,(sC q.1 q.2).2=0)→(sC p.1 p.2).2≠0→prE l=(sC p.1 p.2).2
 | [],k,p,h,_,_=>by simp at h
 | a::l,0,p,h,_,h2=>by
   simp at h;subst h;unfold prE;rw[if_pos h2]
 | a::l,k+1,p,h,h1,h2=>by
   unfold prE;rw[if_neg (by simp[h1 a (by simp)])];exact TS (k:=k) (by simpa using h) (fun q hq=>h1 q (by simp[hq])) h2
def WR(l:List (List AV)):Row:=⟨9,1,l⟩
theorem D5(l:List Pr)(hl:l.length≤1048576)(hs:∀p∈l,p.1.size≤1048576∧p.2.size≤1048576):PC Tryz.prog 117 [.sl (l.map xY)] (.tup [.sl (if prE l=0 then l.map prA else[]),int (prE l)]):=by
 refine PC.body (c:=Tryz.f117.body.getD .skip) (fun t=>t == 6||t == 11) mixed Tryz.func117 rfl (by kernel_rfl) ?_;unfold Tryz.f117;simp only[Option.getD_some];simp only[go_sem];refine⟨⟨⟨by omega,by omega⟩,by omega⟩,?_⟩;refine aL fun j hj=>?_
 simp only[go_sem];refine⟨fun ρ H=>∃(k j:Nat),k≤l.length∧ρ 12=.sl (l.map xY)∧ρ 13=int l.length∧ρ 4=.os j∧ρ 14=int k∧H j=some (WR ((l.take k).map prA))∧∀p∈l.take k,(sC p.1 p.2).2=0,fun ρ _=>l.length-bE (ρ 14),
   ⟨0,j,Nat.zero_le _,by simp only[go_sem],by simp only[go_sem,List.length_map],by simp only[go_sem],by simp only[go_sem];rfl,aA _ _ _,by simp⟩,?_⟩
 clear hj j;rintro ρ H ⟨k,j,hk,h12,h13,h4,h14,Rj,hz⟩;simp only[go_sem,h12,h13,h4,h14];refine aB (fun hlt=>?_) (fun hge=>?_)
 · have hlt:=ltB hlt
   obtain⟨p,hp0⟩:=aW hlt;have b1:=inB hlt;have hps:=hs p (List.mem_of_getElem? hp0);simp only[go_sem,h12,h13,h4,h14,aF hp0,b1];refine aL fun i hi=>?_
   have nji:j≠i:=aN Rj hi;simp only[go_sem,h12,h13,h4,h14];refine aP (aA _ _ _) (by simp[Ge]) ?_;generalize hG:aG (aG _ i _) i _=HG;have Ri:HG i=some (⟨189,2,[xY p]⟩:Row):=by rw[←hG,aA];rfl
   have Rj':HG j=some (WR ((l.take k).map prA)):=by rw[←hG,aC _ _ _ _ nji,aC _ _ _ _ nji];exact Rj
   clear hG hi Rj;simp only[go_sem,h12,h13,h4,h14,Ri]
   repeat (refine⟨by first|decide|omega,?_⟩)
   refine PC.use (YF p.1 p.2 hps.1 hps.2) ?_;simp only[go_sem,h12,h13,h4,h14];refine aB (fun hb=>?_) (fun hb=>?_)
   · have hb:(sC p.1 p.2).2≠0:=by simpa using hb
     simp only[go_sem];have e:prE l=(sC p.1 p.2).2:=TS hp0 hz hb;rw[e,if_neg hb];exact .refl _
   · have hb:(sC p.1 p.2).2=0:=by simpa using hb
     simp only[go_sem,h12,h13,h4,h14];refine aX Rj' ⟨rfl,rfl⟩ ⟨rfl,trivial⟩ (by simp only[WR,List.length_map,List.length_take,List.length_cons,List.length_nil];omega) (fun j' hj'=>?_);simp only[go_sem,h12,h13,h4,h14,bA (show k≤4611686018427387904 by omega)];refine⟨⟨k+1,j',hlt,rfl,rfl,?_,?_⟩,by simp only[aH];omega⟩
     · rw[aA]
       simp only[WR,cM hp0,List.map_append,List.map_cons,List.map_nil];rfl
     · intro q hq
       rw[cM hp0]at hq;rcases List.mem_append.1 hq with hq|hq
       · exact hz q hq
       · rw[List.mem_singleton.1 hq];exact hb
 · have hge:=geB hk hge
   subst hge;rw[List.take_length]at Rj hz;simp only[go_sem,h4,Rj];have e:prE l=0:=JT hz;rw[if_pos e,e];exact .tup _ _ (.cons _ _ _ _ (.row _ _ _ Rj (ConvE.refl _)) (ConvL.refl _))
theorem sW{m n:Int}(hm:m.natAbs<cC)(hn:n.natAbs<cC):sC (zed m) (zed n)=szZ (m*n):=by unfold sC;rw[if_pos (nK hm hn),bV,bV]
theorem KC{m n:Int}(hm:m.natAbs<cC)(hn:n.natAbs<cC):Er (zed m) (zed n)=szZ (m+n):=by unfold Er;rw[if_pos (nK hm hn),bV,bV]
theorem UM{m n:Int}(hm:m.natAbs<cC)(hn:n.natAbs<cC):Pa (zed m) (zed n)=szZ (m-n):=by unfold Pa;rw[if_pos (nK hm hn),bV,bV]
theorem wJ{n:Int}(h:nJ n=false):szZ n=(zed n,0):=if_pos (iX.1 h)
theorem rI{n:Int}(h:nJ n=true):szZ n=(emp,4):=if_neg (fun h2=>by rw[iX.2 h2]at h;cases h)
theorem dL{m:Int}(hm:m.natAbs<cC):(zed m).size≤1048576:=by
 have:=(nZ m).2 hm;unfold dO at this;split at this
 · rw[←cE,iO,List.length_drop]at this
   rw[←cE];omega
 · omega
theorem IX{a b c d : Int}(ha : a.natAbs < cC)(hb : b.natAbs < cC)(hc : c.natAbs < cC)(hd : d.natAbs < cC):
   PC Tryz.prog 117 [.sl [[str (zed a),str (zed b)],[str (zed c),str (zed d)]]] (if(nJ (a*b)||nJ (c*d))=true then .tup [.sl [],int 4]else .tup [.sl [[str (zed (a*b))],[str (zed (c*d))]],int 0]):=by
 have:=D5 [(zed a,zed b),(zed c,zed d)] (by simp) (by simp[dL,ha,hb,hc,hd]);simp only[prE,sW ha hb,sW hc hd,List.map_cons,List.map_nil,prA,xY]at this;cases h1:nJ (a*b)with
 | true=>rw[rI h1]at this;simpa using this
 | false=>
   rw[wJ h1]at this;cases h2:nJ (c*d)with
   | true=>rw[rI h2]at this;simpa using this
   | false=>rw[wJ h2]at this;simpa using this
theorem JB{a b : Int}(ha : a.natAbs < cC)(hb : b.natAbs < cC):
   PC Tryz.prog 117 [.sl [[str (zed a),str (zed b)]]] (if nJ (a*b)=true then .tup [.sl [],int 4]else .tup [.sl [[str (zed (a*b))]],int 0]):=by
 have:=D5 [(zed a,zed b)] (by simp) (by simp[dL,ha,hb]);simp only[prE,sW ha hb,List.map_cons,List.map_nil,prA,xY]at this;cases h1:nJ (a*b)with
 | true=>rw[rI h1]at this;simpa using this
 | false=>rw[wJ h1]at this;simpa using this
def fv(g:FuncId):AV:=.v (.func (.func g) #[] #[])
def NK(op:Int→Int→Int)(x y:Rat):ByteArray×Int:=
 if(nJ (x.num*y.den)||nJ (y.num*x.den)||nJ (op (x.num*y.den) (y.num*x.den))||nJ (x.den*y.den))=true then(emp,4)else(hJ (mkRat (op (x.num*y.den) (y.num*x.den)) (x.den*y.den)),0)
def BV(op:Int→Int→Int)(a b:ByteArray):ByteArray×Int:=if(cK a&&cK b)=true then NK op (yD a) (yD b)else(emp,3)
theorem Ff(g : FuncId)(op : Int → Int → Int)(hok : aD Tryz.prog g = true)(hg : ∀ m n : Int, m.natAbs < cC → n.natAbs < cC → PC Tryz.prog g [str (zed m), str (zed n)] (.tup [str (szZ (op m n)).1, int (szZ (op m n)).2]))
   (a b:ByteArray) (ha:a.size≤1048576) (hb:b.size≤1048576):PC Tryz.prog 59 [str a,str b,fv g] (.tup [str (BV op a b).1,int (BV op a b).2]):=by
 have htwo:=UU a b ha hb;by_cases hr:(cK a&&cK b)=true
 rotate_left
 · rw[show LW a b=_ from if_neg hr]at htwo
   rw[show BV op a b=(emp,3)from if_neg hr];unfold fv;refine PC.body (c:=Tryz.f59.body.getD .skip) (fun _=>false) mixed Tryz.func59 rfl (by kernel_rfl) ?_;unfold Tryz.f59;simp only[Option.getD_some];simp only[go_sem];refine PC.use htwo ?_;simp only[go_sem];refine aB (fun _=>?_) (fun hb=>by cases hb);simp only[go_sem];exact .refl _
 rw[show LW a b=_ from if_pos hr]at htwo;rw[show BV op a b=_ from if_pos hr];simp only[Bool.and_eq_true]at hr;obtain⟨x,rfl,hx,e1,e2⟩:=gP hr.1;obtain⟨y,rfl,hy,e3,e4⟩:=gP hr.2;rw[e1,e2,e3,e4]at htwo;rw[eI,eI];have xd:((x.den:Int)).natAbs<cC:=by rw[Int.natAbs_natCast];exact hx.2
 have yd:((y.den:Int)).natAbs<cC:=by rw[Int.natAbs_natCast];exact hy.2
 have p2:=IX hx.1 yd hy.1 xd;have p1:=JB xd yd;rw[cX,cX]at p2 p1;unfold fv;refine PC.body (c:=Tryz.f59.body.getD .skip) (fun _=>false) mixed Tryz.func59 rfl (by kernel_rfl) ?_;unfold Tryz.f59;simp only[Option.getD_some];simp only[go_sem];refine PC.use htwo ?_;simp only[go_sem];refine aB (fun hb=>by cases hb) (fun _=>?_);simp only[go_sem];unfold NK;cases hb1:(nJ (x.num*y.den)||nJ (y.num*x.den))with
 | true=>
   rw[hb1,if_pos rfl]at p2;refine PC.use p2 ?_;simp only[go_sem];refine aB (fun _=>?_) (fun hb=>by cases hb);exact .refl _
 | false=>
   rw[hb1]at p2;simp only[Bool.false_eq_true,if_false]at p2;refine PC.use p2 ?_;simp only[go_sem];refine aB (fun hb=>by cases hb) (fun _=>?_);simp only[go_sem];have hb1':=hb1;simp only[Bool.or_eq_false_iff]at hb1';have hgg:=hg _ _ (iX.1 hb1'.1) (iX.1 hb1'.2);refine fQ (by rfl) (by kernel_rfl) ?_;simp only[go_sem,List.length_cons,List.length_nil]
   repeat (refine⟨by first|decide|omega,?_⟩)
   refine⟨_,hgg.q rfl,?_⟩;simp only[go_sem];generalize hN:op (x.num*y.den) (y.num*x.den)=N;cases hb2:nJ N with
   | true=>
     rw[rI hb2];refine aB (fun _=>?_) (fun hb=>by cases hb);simp only[go_sem,hb1,Bool.false_or,Bool.true_or,if_true];exact .refl _
   | false=>
     rw[wJ hb2];refine aB (fun hb=>by cases hb) (fun _=>?_);simp only[go_sem];cases hb3:nJ ((x.den:Int)*y.den)with
     | true=>
       rw[hb3,if_pos rfl]at p1;refine PC.use p1 ?_;simp only[go_sem];refine aB (fun _=>?_) (fun hb=>by cases hb);simp only[go_sem,Bool.or_true,if_true];exact .refl _
     | false=>
       rw[hb3]at p1;simp only[Bool.false_eq_true,if_false]at p1;refine PC.use p1 ?_;simp only[go_sem];refine aB (fun hb=>by cases hb) (fun _=>?_);simp only[go_sem,List.length_cons,List.length_nil]
       repeat (refine⟨by first|decide|omega,?_⟩)
       have hD:x.den*y.den<cC:=by rw[←Cw];exact iX.1 hb3
       have:=Zv N (x.den*y.den) (GW x y) (iX.1 hb2) hD;rw[←cX,Int.natCast_mul]at this;refine PC.use this ?_;simp only[go_sem];exact .refl _
theorem P9(a b:ByteArray):BV (·+·) a b=qL a b:=by
 unfold BV qL NK yI;simp only[DU]
theorem QT(a b:ByteArray):BV (·-·) a b=pQ a b:=by
 unfold BV pQ NK yI;simp only[DU,Rat.neg_num,Rat.neg_den,Int.neg_mul,←Int.sub_eq_add_neg];have:∀n:Int,nJ (-n)=nJ n:=fun n=>by unfold nJ;rw[Int.natAbs_neg]
 simp only[this]
theorem wL(a b:ByteArray)(ha:a.size≤1048576)(hb:b.size≤1048576):PC Tryz.prog 25 [str a,str b] (.tup [str (qL a b).1,int (qL a b).2]):=by
 have:=Ff 60 (·+·) (by kernel_rfl) (fun m n hm hn=>by rw[←KC hm hn];exact Zd _ _ (dL hm) (dL hn)) a b ha hb;rw[P9]at this;unfold fv at this;refine PC.body (c:=Tryz.f25.body.getD .skip) (fun _=>false) mixed Tryz.func25 rfl (by kernel_rfl) ?_;unfold Tryz.f25;simp only[Option.getD_some];simp only[go_sem];refine PC.use this ?_;simp only[go_sem];exact .refl _
theorem vQ(a b:ByteArray)(ha:a.size≤1048576)(hb:b.size≤1048576):PC Tryz.prog 28 [str a,str b] (.tup [str (pQ a b).1,int (pQ a b).2]):=by
 have:=Ff 67 (·-·) (by kernel_rfl) (fun m n hm hn=>by rw[←UM hm hn];exact YO _ _ (dL hm) (dL hn)) a b ha hb;rw[QT]at this;unfold fv at this;refine PC.body (c:=Tryz.f28.body.getD .skip) (fun _=>false) mixed Tryz.func28 rfl (by kernel_rfl) ?_;unfold Tryz.f28;simp only[Option.getD_some];simp only[go_sem];refine PC.use this ?_;simp only[go_sem];exact .refl _
end Go.Proofs.YtdlijlecpopadaaGreatDoor.Nu
end

section
set_option linter.unusedSimpArgs false
set_option linter.unusedVariables false
namespace Go.Nu
open Go Go.Lib
theorem dL{m:Int}(hm:m.natAbs<cC):(zed m).size≤4097:=by
 have:=(nZ m).2 hm;unfold dO at this;split at this
 · rw[←cE,iO,List.length_drop]at this
   rw[←cE];omega
 · omega
theorem A5{x:Rat}(h:mJ x):(hJ x).size≤8194:=by
 have h1:=dL h.1;have h2:=(gJ x.den).2 h.2;unfold hJ;split
 · omega
 · rw[ByteArray.size_append,ByteArray.size_append]
   have:slB.size=1:=rfl;omega
theorem IM{s:ByteArray}(h:cK s=true):s.size≤8194:=by
 obtain⟨x,rfl,hs,_⟩:=gP h;exact A5 hs
theorem MK:cK (dec 0)=true:=by
 have:dec 0=hJ 0:=(cX 0).symm.trans (if_pos (show(0:Rat).den=1 from rfl)).symm;rw[this];exact kA ⟨Wp,GS (k:=1) (by decide) (by decide)⟩
end Go.Nu
end

section
set_option linter.unusedSimpArgs false
set_option linter.unusedVariables false
namespace Go.Proofs.YtdlijlecpopadaaGreatDoor.Nu
open Go.Aw Go.Aw.D Go.Proofs Ty Go.Nu
set_option maxRecDepth 100000
theorem zD{p q:Int}(hq:0<q):(p.fdiv q).natAbs≤p.natAbs:=by
 obtain⟨e,h0,h1⟩:=nB (p:=p) hq;generalize p.fdiv q=d at *;generalize p.fmod q=m at *;rcases Int.lt_or_le d 0 with hd|hd
 · have h2:(d+1)*q≤(d+1)*1:=Int.mul_le_mul_of_nonpos_left (by omega) (by omega)
   rw[Int.add_mul]at h2;omega
 · have h2:d*1≤d*q:=Int.mul_le_mul_of_nonneg_left (by omega) hd
   omega
theorem Ag{p q:Int}(hp:p.natAbs<cC)(hq:q.natAbs<cC)(h:0<q):qR (zed p) (zed q)=(zed (p.fdiv q),zed (p.fmod q),0):=by
 unfold qR;rw[if_pos (nK hp hq),bV,bV,if_neg (by omega)]
theorem Jz(i j:Int):La (zed i) (zed j)=gD i j:=by unfold La;rw[if_pos ⟨nT _,nT _⟩,bV,bV]
theorem D6(i j:Int):gD i j= -1∨gD i j=0∨gD i j=1:=by
 unfold gD;split
 · exact .inl rfl
 · split
   · exact .inr (.inr rfl)
   · exact .inr (.inl rfl)
def YJ:AV→Nat
 | .v (.string s)=>(fF s).natAbs
 | _=>0
theorem Ad(n:Int):YJ (str (zed n))=n.natAbs:=by show(fF (zed n)).natAbs=_;rw[bV]
theorem sO(n:Int):(bl (zed n) == [48])=decide (n=0):=by
 rw[mE,←show zed ((0:Nat):Int)=dec 0 from cX 0,Bool.eq_iff_iff,kB,Up,decide_eq_true_iff];exact Iff.rfl
theorem X7{a b:Int}(ha:a=1∨a= -1)(hb:b= -1∨b=0∨b=1):IntKind.i64.wrap (a*b)=a*b:=by
 rcases ha with rfl|rfl <;> rcases hb with rfl|rfl|rfl <;> rfl
theorem Du{a:Int}(ha:a=1∨a= -1):IntKind.i64.wrap (0-a)= -a:=by rcases ha with rfl|rfl <;> rfl
theorem qF(a b:ByteArray)(ha:a.size≤1048576)(hb:b.size≤1048576):PC Tryz.prog 24 [str a,str b] (int (Ea a b)):=by
 have htwo:=UU a b ha hb;by_cases hr:(cK a&&cK b)=true
 rotate_left
 · rw[show LW a b=_ from if_neg hr]at htwo
   rw[show Ea a b=0 from if_neg hr];refine PC.body (c:=Tryz.f24.body.getD .skip) (fun _=>false) mixed Tryz.func24 rfl (by kernel_rfl) ?_;unfold Tryz.f24;simp only[Option.getD_some];simp only[go_sem];refine PC.use htwo ?_;simp only[go_sem];refine aB (fun _=>?_) (fun hb=>by cases hb);simp only[go_sem];exact .refl _
 rw[show LW a b=_ from if_pos hr]at htwo;rw[show Ea a b=_ from if_pos hr];simp only[Bool.and_eq_true]at hr;obtain⟨x,rfl,hx,e1,e2⟩:=gP hr.1;obtain⟨y,rfl,hy,e3,e4⟩:=gP hr.2;rw[e1,e2,e3,e4]at htwo;rw[eI,eI];have xd:((x.den:Int)).natAbs<cC:=by rw[Int.natAbs_natCast];exact hx.2
 have yd:((y.den:Int)).natAbs<cC:=by rw[Int.natAbs_natCast];exact hy.2
 have x0:=x.den_nz;have y0:=y.den_nz;rw[←cX,←cX]at htwo;refine PC.body (c:=Tryz.f24.body.getD .skip) (fun _=>false) mixed Tryz.func24 rfl (by kernel_rfl) ?_;unfold Tryz.f24;simp only[Option.getD_some];simp only[go_sem];refine PC.use htwo ?_;simp only[go_sem];refine aB (fun hb=>by cases hb) (fun _=>?_);simp only[go_sem];refine⟨fun ρ _=>∃(p q r s g:Int),ρ 5=str (zed p)∧ρ 6=str (zed q)∧ρ 7=str (zed r)∧ρ 8=str (zed s)∧ρ 10=int g∧(g=1∨g= -1)∧0<q∧0<s∧p.natAbs<cC∧q.natAbs<cC∧r.natAbs<cC∧s.natAbs<cC∧QK x y=g*EC p q r s,fun ρ _=>YJ (ρ 6),
   ⟨x.num,x.den,y.num,y.den,1,by simp only[go_sem],by simp only[go_sem],by simp only[go_sem],by simp only[go_sem],by simp only[go_sem],.inl rfl,by omega,by omega,hx.1,xd,hy.1,yd,by rw[Int.one_mul,Tf]⟩,?_⟩
 rintro ρ H ⟨p,q,r,s,g,h5,h6,h7,h8,h10,hg,hq,hs,bp,bq,br,bs,hinv⟩;simp only[go_sem,h5,h6,h7,h8,h10];refine PC.use (HT (zed p) (zed q) (dL bp) (dL bq)) ?_;rw[Ag bp bq hq];simp only[go_sem,h5,h6,h7,h8,h10];refine PC.use (HT (zed r) (zed s) (dL br) (dL bs)) ?_;rw[Ag br bs hs];simp only[go_sem,h5,h6,h7,h8,h10];have d1:=zD (p:=p) hq;have d2:=zD (p:=r) hs;refine PC.use (Me (zed (p.fdiv q)) (zed (r.fdiv s)) (dL (by omega)) (dL (by omega))) ?_;rw[Jz];simp only[go_sem,h5,h6,h7,h8,h10];obtain⟨_,m0,m1⟩:=nB (p:=p) hq;obtain⟨_,n0,n1⟩:=nB (p:=r) hs;have c3:=D6 (p.fdiv q) (r.fdiv s);refine aB (fun hc=>?_) (fun hc=>?_)
 · have hc:gD (p.fdiv q) (r.fdiv s)≠0:=by simpa using hc
   simp only[go_sem,h10,X7 hg c3];refine cI ?_;rw[hinv,CD hq hs (fun e=>hc (nF e))]
 have hc:p.fdiv q=r.fdiv s:=Bc.1 (by simpa using hc);have hX:=FK hq hs hc;generalize p.fmod q=m at *;generalize r.fmod s=n at *;simp only[go_sem,h5,h6,h7,h8,h10,sO];refine aB (fun hz=>?_) (fun hz=>?_)
 · have hz:m=0∧n=0:=by simpa using hz
   simp only[go_sem];refine cI ?_;rw[hinv,hX,hz.1,hz.2,Int.zero_mul,Int.zero_mul,nF rfl,Int.mul_zero]
 simp only[go_sem,h5,h6,h7,h8,h10,sO];refine aB (fun hm=>?_) (fun hm=>?_)
 · have hm:m=0:=of_decide_eq_true hm
   have hn:0<n:=by
     rcases Int.lt_or_le 0 n with h|h
     · exact h
     · exfalso
       have:n=0:=by omega
       rw[hm,this]at hz;cases hz
   simp only[go_sem,h10,Du hg];refine cI ?_;rw[hinv,hX,hm,Int.zero_mul,iD (Int.mul_pos hn hq)];omega
 have hm:0<m:=by have:=of_decide_eq_false hm;omega
 simp only[go_sem,h5,h6,h7,h8,h10,sO];refine aB (fun hn=>?_) (fun hn=>?_)
 · have hn:n=0:=of_decide_eq_true hn
   simp only[go_sem,h10];refine cI ?_;rw[hinv,hX,hn,Int.zero_mul,iF (Int.mul_pos hm hs)];omega
 have hn:0<n:=by have:=of_decide_eq_false hn;omega
 simp only[go_sem,h5,h6,h7,h8,h10,Du hg];refine⟨⟨q,m,s,n,-g,rfl,rfl,rfl,rfl,rfl,by omega,hm,hn,bq,by omega,bs,by omega,?_⟩,?_⟩
 · rw[hinv,hX,FG]
   rw[Int.mul_neg,Int.neg_mul]
 · rw[Ad,Ad];omega
end Go.Proofs.YtdlijlecpopadaaGreatDoor.Nu
end

section
set_option linter.unusedSimpArgs false
set_option linter.unusedVariables false
namespace Go.Proofs.YtdlijlecpopadaaGreatDoor.Nu
open Go.Aw Go.Aw.D Go.Proofs Ty Go.Nu
set_option maxRecDepth 100000
theorem Gq{P:Program}{G:_}{t:TypeId}{a b:ByteArray}{k:AV→Prop}:gH P G .lss t (.v (.string a)) (.v (.string b)) k=k (.v (.bool (Op.bytesLess a.toList b.toList))):=(rfl)
attribute [go_sem ↓] Gq
attribute [go_sem] Gq
theorem YE(s:ByteArray):s.toList=bl s:=ByteArray.toList_eq s
theorem Li:∀{l r:List UInt8},l.length=r.length→Op.bytesLess l r=decide (Lib.compareBytes l r= -1)
 | [],[],_=>rfl
 | [],_::_,h=>by simp at h
 | _::_,[],h=>by simp at h
 | a::l,b::r,h=>by
   simp only[List.length_cons,Nat.add_right_cancel_iff]at h;have ih:=Li h;rw[Op.bytesLess,Lib.compareBytes,ih];by_cases h1:a<b
   · simp[h1]
   · by_cases h2:b<a
     · have : (a == b) = false := by
         rw[beq_eq_false_iff_ne];rintro rfl;exact absurd h2 h1
       simp[h1,h2,this]
     · have : a = b := by
         rw[UInt8.lt_iff_toNat_lt]at h1 h2;exact UInt8.toNat_inj.1 (by omega)
       subst this;simp
theorem QZ{m n:Nat}(h:(dec m).size=(dec n).size):Op.bytesLess (bl (dec m)) (bl (dec n))=decide (m<n):=by
 have hm:=hU m;have hn:=hU n;rw[gI,gI,Li (by omega),Bi (qU m) (qU n) (by omega),nN,nN,decide_eq_decide];unfold gD;split
 · simp;omega
 · split <;> simp <;> omega
theorem wO(s:ByteArray)(h:s.size≤4611686018427387904):PC Tryz.prog 103 [str s] (boo (dB s)):=by
 have hs:=cE s;refine PC.body (c:=Tryz.f103.body.getD .skip) (fun _=>false) mixed Tryz.func103 rfl (by kernel_rfl) ?_;unfold Tryz.f103;simp only[Option.getD_some];simp only[go_sem];refine⟨fun h=>⟨by omega,by have:=of_decide_eq_true h.2;omega⟩,?_⟩;have hc:((s.size:Int) == 0||decide ((s.size:Int)>1)&&((bl s).getD 0 0).toNat == (48:Int))= !(bl s != []&&((bl s).length == 1||(bl s).getD 0 0 != 48)):=by
   rw[←hs];cases bl s with
   | nil=>rfl
   | cons c r=>
     have e1:(((c.toNat:Nat):Int) == 48)=(c == 48):=by
       rw[Bool.eq_iff_iff,beq_iff_eq,beq_iff_eq,←UInt8.toNat_inj];exact Int.ofNat_inj (n:=48)
     simp only[List.getD_cons_zero,e1];cases r with
     | nil=>simp
     | cons c2 r=>
       have h0:(((c::c2::r).length:Int) == 0)=false:=by simp;omega
       have h1:decide (((c::c2::r).length:Int)>1)=true:=by simp;omega
       rw[h0,h1,show((c::c2::r) != [])=true from rfl,show((c::c2::r).length == 1)=false from rfl];cases h:(c == 48) <;> simp[bne,h]
 rw[hc];refine aB (fun hb=>?_) (fun hb=>?_)
 · simp only[go_sem]
   refine cB ?_;unfold dB dU;rw[Bool.not_eq_true']at hb;rw[hb];rfl
 rw[Bool.not_eq_false']at hb;simp only[go_sem];refine⟨fun ρ _=>∃k:Nat,k≤(bl s).length∧ρ 0=str s∧ρ 3=int k∧∀c∈(bl s).take k,isD c=true,fun ρ _=>(bl s).length-bE (ρ 3),⟨0,Nat.zero_le _,rfl,rfl,by simp⟩,?_⟩;rintro ρ H ⟨k,hk,h0,h3,hz⟩;simp only[go_sem,h0,h3];refine aB (fun hlt=>?_) (fun hge=>?_)
 · have hlt:k<(bl s).length:=by have:=ltB hlt;omega
   obtain⟨c,hc⟩:=aW hlt;have hi:=oK hc;simp only[go_sem,h0,h3,hi,Ii];refine⟨⟨by omega,by omega⟩,fun _=>⟨by omega,by omega⟩,aB (fun hb2=>?_) (fun hb2=>?_)⟩
   · simp only[go_sem]
     refine cB ?_;unfold dB dU;rw[Mp hc (by simpa using hb2),Bool.and_false]
   · simp only[go_sem,h0,h3,bA (show k≤4611686018427387904 by omega)]
     exact⟨⟨k+1,hlt,rfl,sT hc (by simpa using hb2) hz⟩,by simp only[aH];omega⟩
 · have hge:k=(bl s).length:=by rw[←hs]at hge;exact geB hk hge
   subst hge;rw[List.take_length]at hz;simp only[go_sem];refine cB ?_;unfold dB dU;rw[hb,Hd hz];rfl
def UP(a b:ByteArray):Int:=if(dB a&&dB b)=true then gD (dR a) (dR b)else 0
theorem Mj(a b:ByteArray)(ha:a.size≤1048576)(hb:b.size≤1048576):PC Tryz.prog 199 [str a,str b] (int (UP a b)):=by
 refine PC.body (c:=Tryz.f199.body.getD .skip) (fun _=>false) mixed Tryz.func199 rfl (by kernel_rfl) ?_;unfold Tryz.f199;simp only[Option.getD_some];simp only[go_sem];refine PC.use (wO a (by omega)) ?_;simp only[go_sem];refine⟨_,fun _=>(wO b (by omega)).q rfl,?_⟩;simp only[go_sem];refine aB (fun hc=>?_) (fun hc=>?_)
 · simp only[go_sem]
   refine cI ?_;unfold UP;split
   · rename_i hr
     simp only[Bool.and_eq_true]at hr;rw[hr.1,hr.2]at hc;have:a=b:=kB.1 (by simpa[eqB]using hc);rw[this,nF rfl]
   · rfl
 have hc:dB a=true∧dB b=true∧eqB a b=false:=by
   simp only[Bool.or_eq_false_iff,Bool.not_eq_false']at hc;exact⟨hc.1.1,hc.1.2,hc.2⟩
 obtain⟨h1,h2,h3⟩:=hc;rw[show UP a b=gD (dR a) (dR b)from if_pos (by rw[h1,h2];rfl)];rw[←iP h1,←iP h2,lS]at *;generalize dR a=m at *;generalize dR b=n at *;have hmn:m≠n:=fun e=>h3 (by rw[e])
 have hm:=hU m;have hn:=hU n;have hmono:∀{p q:Nat},(Lib.decDigits p).length<(Lib.decDigits q).length→p<q:=fun {p q} h=>by
   have h1:=(jH (n:=p) (k:=(Lib.decDigits p).length) (gN p)).1 (Nat.le_refl _);rcases Nat.lt_or_ge p q with h2|h2
   · exact h2
   · have:=(jH (n:=q) (k:=(Lib.decDigits p).length) (gN p)).2 (by omega)
     omega
 simp only[go_sem,YE];have hk:(decide (((dec m).size:Int)<(dec n).size)||((dec m).size:Int) == (dec n).size&&Op.bytesLess (bl (dec m)) (bl (dec n)))=decide (m<n):=by
   by_cases h1:(dec m).size=(dec n).size
   · rw[QZ h1,h1]
     simp
   · rcases Nat.lt_or_ge (dec m).size (dec n).size with h2|h2
     · have:=hmono (p:=m) (q:=n) (by omega)
       simp[this];omega
     · have:=hmono (p:=n) (q:=m) (by omega)
       have h3:¬m<n:=by omega
       have h4:(((dec m).size:Int) == (dec n).size)=false:=by simp;omega
       rw[h4];simp[h3];omega
 rw[hk];refine aB (fun hb=>?_) (fun hb=>?_)
 · have:=of_decide_eq_true hb
   simp only[go_sem];exact cI (by rw[bO,bO,iD (by omega)])
 · have:=of_decide_eq_false hb
   simp only[go_sem];exact cI (by rw[bO,bO,iF (by omega)])
theorem Jp(a b:ByteArray)(ha:a.size≤1048576)(hb:b.size≤1048576):PC Tryz.prog 160 [str a,str b] (int (iK a b)):=by
 refine PC.body (c:=Tryz.f160.body.getD .skip) (fun _=>false) mixed Tryz.func160 rfl (by kernel_rfl) ?_;unfold Tryz.f160;simp only[Option.getD_some];simp only[go_sem];refine PC.use (wO a (by omega)) ?_;simp only[go_sem];refine⟨_,fun _=>(wO b (by omega)).q rfl,?_⟩;simp only[go_sem];unfold iK;refine aB (fun hc=>?_) (fun hc=>?_)
 · simp only[go_sem]
   exact cI (by rw[if_pos hc])
 · simp only[go_sem]
   have e1:decide ((a.size:Int)>4096)=decide (a.size>4096):=by rw[decide_eq_decide];omega
   have e2:decide ((b.size:Int)>4096)=decide (b.size>4096):=by rw[decide_eq_decide];omega
   rw[if_neg (by rw[hc];simp),e1,e2];refine aB (fun hd=>?_) (fun hd=>?_)
   · simp only[go_sem]
     exact cI (by rw[if_pos hd])
   · simp only[go_sem]
     exact cI (by rw[if_neg (by rw[hd];simp)])
theorem zC(d:Nat)(hd:d<10):PC Tryz.prog 201 [int d] (str (dec d)):=by
 refine PC.body (c:=Tryz.f201.body.getD .skip) (fun _=>false) mixed Tryz.func201 rfl (by kernel_rfl) ?_;unfold Tryz.f201;simp only[Option.getD_some];simp only[go_sem];have e1:IntKind.i64.wrap ((d:Int)+1)=((d+1:Nat):Int):=bA (by omega);rw[e1];refine⟨⟨by omega,by omega,by show((d+1:Nat):Int)≤10;omega⟩,?_⟩;refine cS (jJ ?_);rw[eQ,gI,Lib.decDigits_one hd];have key:∀e:Fin 10,(List.take (e.val+1) (bl ⟨#[48,49,50,51,52,53,54,55,56,57]⟩)).drop e.val=[UInt8.ofNat (48+e.val)]:=by decide
 exact key ⟨d,hd⟩
theorem abC{l:List UInt8}{i:Nat}(h:i<l.length):(dl l).getD i 0=(l.getD (l.length-1-i) 0).toNat-48:=by
 have h2:l.length-1-i<l.length:=by omega
 simp only[dl,List.getD,List.getElem?_reverse (show i<(l.map fun c=>c.toNat-48).length by simpa using h),List.length_map,List.getElem?_map,List.getElem?_eq_getElem h2,Option.map_some,Option.getD_some]
theorem Jx(s:ByteArray)(hs:(bl s).all isD=true)(i:Nat)(h:s.size≤1048576)(hi:i≤1048576):PC Tryz.prog 233 [str s,int i] (int ((dl (bl s)).getD i 0:Nat)):=by
 have hsz:=cE s;refine PC.body (c:=Tryz.f233.body.getD .skip) (fun _=>false) mixed Tryz.func233 rfl (by kernel_rfl) ?_;unfold Tryz.f233;simp only[Option.getD_some];simp only[go_sem];refine aB (fun hc=>?_) (fun hc=>?_)
 · simp only[go_sem]
   refine cI ?_;have:=of_decide_eq_true hc;have h2:(dl (bl s)).getD i 0=0:=by
     simp only[List.getD,List.getElem?_eq_none (show(dl (bl s)).length≤i by rw[Dj];omega),Option.getD_none]
   rw[h2];rfl
 have hc:i<s.size:=by have:=of_decide_eq_false hc;omega
 have e1:IntKind.i64.wrap (IntKind.i64.wrap ((s.size:Int)-1)-(i:Int))=((s.size-1-i:Nat):Int):=by
   rw[show IntKind.i64.wrap ((s.size:Int)-1)=(s.size:Int)-1 from aQ (by omega),aQ (by omega)];omega
 obtain⟨c,hcc⟩:=aW (l:=bl s) (k:=s.size-1-i) (by omega);have hcd:=kT.1 (List.all_eq_true.1 hs c (List.mem_of_getElem? hcc));simp only[go_sem,e1,Int.toNat_natCast,oK hcc,u8w hcd.1 (by omega)];refine⟨by omega,?_⟩;refine cI ?_;rw[abC (by omega),hsz,oK hcc,aQ (by omega)]
theorem HU(s:ByteArray)(h:s.size≤1048576)(h0:bl s≠[])(hd:(bl s).all isD=true):PC Tryz.prog 198 [str s] (str (dec (dR s))):=by
 refine PC.body (c:=Tryz.f198.body.getD .skip) (fun _=>false) mixed Tryz.func198 rfl (by kernel_rfl) ?_;unfold Tryz.f198;simp only[Option.getD_some];simp only[go_sem];refine⟨fun ρ _=>∃t:ByteArray,ρ 0=str t∧bl t≠[]∧(bl t).all isD=true∧dR t=dR s∧t.size≤1048576,fun ρ _=>match ρ 0 with| .v (.string t)=>t.size|_=>0,⟨s,rfl,h0,hd,rfl,h⟩,?_⟩;rintro ρ H ⟨t,e0,ht0,htd,htv,hts⟩;simp only[go_sem,e0];have hts2:=cE t;refine⟨fun h=>⟨by omega,by have:=of_decide_eq_true h;omega⟩,aB (fun hb=>?_) (fun hb=>?_)⟩
 · have hb : t.size > 1 ∧ ((bl t).getD 0 0).toNat = 48 := by
     simp only[Bool.and_eq_true,decide_eq_true_eq,beq_iff_eq]at hb;omega
   simp only[go_sem,e0];have e1:bl (t.extract 1 t.size)=(bl t).drop 1:=by rw[eQ,←hts2,List.take_length]
   have e2:(t.extract 1 t.size).size=t.size-1:=by rw[←cE,e1,List.length_drop,hts2]
   refine⟨⟨by omega,by omega⟩,?_⟩;refine⟨⟨t.extract 1 t.size,rfl,?_,?_,?_,by omega⟩,by show(t.extract 1 t.size).size<t.size;omega⟩
   · intro e
     have:=congrArg List.length e;rw[cE,e2]at this;simp at this;omega
   · rw[e1,List.all_eq_true]
     intro c hc;exact List.all_eq_true.1 htd c (List.mem_of_mem_drop hc)
   · rw[←htv]
     unfold dR;rw[e1];cases hbt:bl t with
     | nil=>exact absurd hbt ht0
     | cons c r=>
       rw[hbt]at hb;have:=rJ [c] r;rw[List.drop_one,List.tail_cons,show c::r=[c]++r from rfl,this];have h48:c.toNat=48:=by simpa using hb.2
       simp[gA,h48]
 · simp only[go_sem,e0]
   refine cS ?_;have hR:dB t=true:=by
     unfold dB dU;rw[htd,Bool.and_true];have:(bl t != [])=true:=by simpa using ht0
     rw[this,Bool.true_and,Bool.or_eq_true,beq_iff_eq,bne_iff_ne];by_cases h1:t.size>1
     · refine .inr fun e=>?_
       rw[e]at hb;simp[h1]at hb;omega
     · have:=List.length_pos_iff.2 ht0
       exact .inl (by omega)
   rw[←htv,iP hR]
end Go.Proofs.YtdlijlecpopadaaGreatDoor.Nu
end
