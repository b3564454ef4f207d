/- Texts joined by a program: NuN, NuO, NuT, NuP, NuR. -/
import Derived.Test.YtdlijlecpopadaaGreatDoorZw15
set_option linter.unusedSimpArgs false
set_option linter.unusedVariables false
set_option maxRecDepth 100000
section
namespace Go.Proofs.YtdlijlecpopadaaGreatDoor.Nu
open Go.Aw Go.Aw.D Go.Proofs Ty Go.Nu
open Go.RowKit (Below)
theorem Au:∀l:List UInt8,Lib.indexByte l 47=if l.any (· == cU)=true then((l.takeWhile (· != cU)).length:Int)else -1
 | []=>rfl
 | c::l=>by
   have ih:=Au l;unfold Lib.indexByte;by_cases h:c=cU
   · subst h;rfl
   · have h1:(c == (47:UInt8))=false:=by simpa[cU]using h
     have h2:(c == cU)=false:=by simpa using h
     have h3:(c != cU)=true:=by simpa using h
     rw[h1,ih,List.any_cons,h2,List.takeWhile_cons,h3];simp only[Bool.false_eq_true,if_false,Bool.false_or,if_true];split
     · rw[if_neg (by simp)]
       simp
     · rfl
theorem Bu{α:Type}(p:α→Bool):∀l:List α,l.take (l.takeWhile p).length=l.takeWhile p
 | []=>rfl
 | a::l=>by
   rw[List.takeWhile_cons];split
   · rw[List.length_cons,List.take_succ_cons,Bu p l]
   · rfl
theorem NL{α:Type}(p:α→Bool):∀l:List α,l.drop ((l.takeWhile p).length+1)=(l.dropWhile p).drop 1
 | []=>rfl
 | a::l=>by
   rw[List.takeWhile_cons,List.dropWhile_cons];split
   · rw[List.length_cons,List.drop_succ_cons,NL p l]
   · rfl
theorem adX{l:List UInt8}(h:l.any (· == cU)=true):(l.takeWhile (· != cU)).length<l.length:=by
 rcases Nat.lt_or_ge (l.takeWhile (· != cU)).length l.length with h1|h1
 · exact h1
 · exfalso
   have h2:=Bu (· != cU) l;rw[List.take_of_length_le h1]at h2;obtain⟨c,hc,hcs⟩:=List.any_eq_true.1 h;rw[h2]at hc;have:=Ab hc;simp at this hcs;exact this hcs
def Sh(s:ByteArray):Int:=if iS s=true then(((bl s).takeWhile (· != cU)).length:Int)else -1
theorem SJ(s:ByteArray):PC Tryz.prog 183 [str s,str ⟨#[47]⟩] (int (Sh s)):=by
 refine PC.lib (a:=[.string s,.string ⟨#[47]⟩]) (v:=.int .i64 (Sh s)) (fun S w=>rfl) fun w _=>(Tryz.stringslite_Index_one s 47 w).mono fun e w' ⟨he,hw⟩=>?_
 rw[hw];exact⟨he.trans (by rw[show s.data.toList=bl s from rfl,Au];rfl),Below.refl _ _⟩
theorem JJ(s:ByteArray):PC Tryz.prog 84 [str s,str ⟨#[47]⟩] (boo (iS s)):=by
 refine PC.lib (a:=[.string s,.string ⟨#[47]⟩]) (v:=.bool (iS s)) (fun S w=>rfl) fun w _=>(Tryz.strings_Contains_one s 47 w).mono fun e w' ⟨he,hw⟩=>?_
 rw[hw];refine⟨he.trans ?_,Below.refl _ _⟩;rw[show s.data.toList=bl s from rfl,Au];unfold iS;cases(bl s).any (· == cU) <;> simp
def GS(s:ByteArray):ByteArray:=⟨(((bl s).dropWhile (· != cU)).drop 1).toArray⟩
theorem Rl(s:ByteArray)(h:s.size≤1048576):PC Tryz.prog 182 [str s,str ⟨#[47]⟩] (.tup (if iS s=true then[str (fN s),str (GS s),boo true]else[str s,str emp,boo false])):=by
 refine PC.body (c:=Tryz.f182.body.getD .skip) (fun _=>false) mixed Tryz.func182 rfl (by kernel_rfl) ?_;unfold Tryz.f182;simp only[Option.getD_some];simp only[go_sem];refine PC.use (SJ s) ?_;simp only[go_sem];have hl:=bY s;refine aA (fun hb=>?_) (fun hb=>?_)
 · have hs : iS s = true := by
     have hb:=of_decide_eq_true hb;unfold Sh at hb;split at hb
     · assumption
     · omega
   have hlt:=adX hs;rw[if_pos hs,show Sh s=(((bl s).takeWhile (· != cU)).length:Int)from if_pos hs];simp only[go_sem];refine gI (by rfl) (by kernel_rfl) ?_;simp only[go_sem];have e1:s.extract 0 ((bl s).takeWhile (· != cU)).length=fN s:=jI (by rw[eJ,List.drop_zero,Bu];exact(gS _).symm);have e2:s.extract (((bl s).takeWhile (· != cU)).length+1) s.size=GS s:=jI (by rw[eJ,←hl,List.take_length,NL];exact(gS _).symm);refine⟨⟨by omega,by omega⟩,?_⟩;have e3:IntKind.i64.wrap ((((bl s).takeWhile (· != cU)).length:Int)+((#[47]:Array UInt8).size:Nat))=((((bl s).takeWhile (· != cU)).length+1:Nat):Int):=bG (by omega);simp only[e3,Int.toNat_natCast,e1,e2];refine⟨⟨by omega,by omega⟩,?_⟩;exact .refl _
 · have hs : ¬ iS s = true := fun hs => by
     have hb:=of_decide_eq_false hb;unfold Sh at hb;rw[if_pos hs]at hb;omega
   rw[if_neg hs];simp only[go_sem];exact .refl _
theorem Hv{s:ByteArray}(h:iS s=false):fN s=s:=by
 refine jI ?_;unfold fN;rw[gS];refine tH fun c hc=>?_
 unfold iS at h;rw[List.any_eq_false]at h;have:=h c hc;simpa using this
theorem X5(s:ByteArray)(h:s.size≤1048576):PC Tryz.prog 142 [str s,str ⟨#[47]⟩] (.tup (if iS s=true then[str (fN s),str (GS s),boo true]else[str s,str emp,boo false])):=by
 by_cases hs:iS s=true
 · have:=Rl s h
   rw[if_pos hs]at this ⊢;refine PC.body (c:=Tryz.f142.body.getD .skip) (fun _=>false) mixed Tryz.func142 rfl (by kernel_rfl) ?_;unfold Tryz.f142;simp only[Option.getD_some];simp only[go_sem];refine PC.use this ?_;simp only[go_sem];exact .refl _
 · have:=Rl s h
   rw[if_neg hs]at this ⊢;refine PC.body (c:=Tryz.f142.body.getD .skip) (fun _=>false) mixed Tryz.func142 rfl (by kernel_rfl) ?_;unfold Tryz.f142;simp only[Option.getD_some];simp only[go_sem];refine PC.use this ?_;simp only[go_sem];exact .refl _
theorem Gw(s:ByteArray)(h:s.size≤1048576):PC Tryz.prog 81 [str s] (.tup [str (fN s),str (fE s)]):=by
 have hc:=X5 s h;by_cases hs:iS s=true
 · rw[if_pos hs]at hc
   refine PC.body (c:=Tryz.f81.body.getD .skip) (fun _=>false) mixed Tryz.func81 rfl (by kernel_rfl) ?_;unfold Tryz.f81;simp only[Option.getD_some];simp only[go_sem];refine PC.use hc ?_;simp only[go_sem];refine aA (fun hb=>by cases hb) (fun _=>?_);simp only[go_sem];rw[show fE s=GS s from if_pos hs];exact .refl _
 · rw[if_neg hs]at hc
   refine PC.body (c:=Tryz.f81.body.getD .skip) (fun _=>false) mixed Tryz.func81 rfl (by kernel_rfl) ?_;unfold Tryz.f81;simp only[Option.getD_some];simp only[go_sem];refine PC.use hc ?_;simp only[go_sem];refine aA (fun _=>?_) (fun hb=>by cases hb);simp only[go_sem];rw[show fE s=dec 1 from if_neg hs,Hv (by simpa using hs),←xI];exact .refl _
theorem HF(s:ByteArray):PC Tryz.prog 83 [str s] (int (dA s).size):=by
 refine PC.body (c:=Tryz.f83.body.getD .skip) (fun _=>false) mixed Tryz.func83 rfl (by kernel_rfl) ?_;unfold Tryz.f83;simp only[Option.getD_some];simp only[go_sem];refine PC.use (uZ s) ?_;simp only[go_sem];exact .refl _
theorem EF(s:ByteArray):(fN s).size≤s.size:=by
 rw[←bY,←bY,show bl (fN s)=(bl s).takeWhile (· != cU)from gS _,←Bu];simp;omega
theorem Ek(s:ByteArray):(fE s).size≤max s.size 1:=by
 unfold fE;split
 · rw[←bY,←bY,gS,List.length_drop]
   have:((bl s).dropWhile (· != cU)).length≤(bl s).length:=(List.dropWhile_suffix _).length_le;omega
 · rw[←xI];exact Nat.le_max_right _ _
theorem LX:cR (dec 1)=true:=jG 1
theorem CU{s:ByteArray}(h:cR s=true):dA s=s:=by rw[←gX h,Ki]
theorem ED{s:ByteArray}(h:iS s=false):fE s=dec 1:=if_neg (by rw[h];simp)
theorem BO{s:ByteArray}(hb:(!eU (fN s)||decide (((dA (fN s)).size:Int)>4096)||decide (((dA (fE s)).size:Int)>4096))=true):cM s=false:=by
 unfold cM;rw[Bool.eq_false_iff];simp only[ne_eq,Bool.and_eq_true,decide_eq_true_eq];rintro⟨⟨⟨⟨h1,h2⟩,h3⟩,h4⟩,_⟩;rw[h1,CU h2]at hb;simp only[Bool.not_true,Bool.false_or,Bool.or_eq_true,decide_eq_true_eq]at hb;omega
theorem uJ{s:ByteArray}(hb:(!eU (fN s)||decide (((dA (fN s)).size:Int)>4096)||decide (((dA (fE s)).size:Int)>4096))=false)(hr:cR (fE s)=true):
   (eU (fN s)&&cR (fE s)&&decide ((dA (fN s)).size≤4096)&&decide ((fE s).size≤4096))=true∧eU (fN s)=true∧(dA (fN s)).size≤4096∧(fE s).size≤4096:=by
 simp only[Bool.or_eq_false_iff,Bool.not_eq_false',decide_eq_false_iff_not]at hb;rw[CU hr]at hb;obtain⟨⟨h1,h2⟩,h3⟩:=hb;have h2:(dA (fN s)).size≤4096:=by omega
 have h3:(fE s).size≤4096:=by omega
 refine⟨?_,h1,h2,h3⟩;rw[h1,hr];simp[h2,h3]
theorem zA(s:ByteArray)(h:s.size≤1048576):PC Tryz.prog 44 [str s] (boo (cM s)):=by
 have hn:=EF s;have hd:=Ek s;have h1:(1:Nat)≤1048576:=by omega
 have hdn:=Gz (fN s);have hdd:=Gz (fE s);refine PC.body (c:=Tryz.f44.body.getD .skip) (fun _=>false) mixed Tryz.func44 rfl (by kernel_rfl) ?_;unfold Tryz.f44;simp only[Option.getD_some];simp only[go_sem];refine PC.use (Gw s h) ?_;simp only[go_sem];refine PC.use (Sp (fN s) (by omega)) ?_;simp only[go_sem];refine⟨_,fun _=>(HF (fN s)).q rfl,?_⟩;simp only[go_sem];refine⟨_,fun _=>(HF (fE s)).q rfl,?_⟩;simp only[go_sem];refine aA (fun hb=>?_) (fun hb=>?_)
 · simp only[go_sem]
   exact cB (BO hb).symm
 simp only[go_sem];refine PC.use (JJ s) ?_;simp only[go_sem];refine aA (fun hs=>?_) (fun hs=>?_)
 · simp only[go_sem]
   refine cB ?_;have h0:iS s=false:=by simpa using hs
   have h2:cR (fE s)=true:=by rw[ED h0];exact LX
   unfold cM;rw[(uJ hb h2).1,h0];rfl
 have h0:iS s=true:=by simpa using hs
 simp only[go_sem];refine PC.use (yU (fE s) (by omega)) ?_;simp only[go_sem,nM,BL];refine aA (fun hc=>?_) (fun hc=>?_)
 · simp only[go_sem]
   refine cB ?_;unfold cM;rw[h0];simp only[Bool.or_eq_true,Bool.not_eq_true']at hc;rcases hc with((hc|hc)|hc)|hc <;> simp[hc]
 simp only[Bool.or_eq_false_iff,Bool.not_eq_false']at hc;obtain⟨⟨⟨h2,h3⟩,h4⟩,h5⟩:=hc;obtain⟨f1,f2,f3,f4⟩:=uJ hb h2;simp only[go_sem];refine PC.use (uZ (fN s)) ?_;simp only[go_sem];refine PC.use (Qg (dA (fN s)) (fE s) (by omega) (by omega)) ?_;simp only[go_sem,BL];refine cB ?_;have fd:=zU f2;have v0:dI (fE s)≠0:=fun e=>mW.1 h3 (by rw[←gX h2,e])
 have v1:dI (fE s)<cD:=(sG h2).1 f4;have e:wB (dA (fN s)) (fE s)=(dec (Nat.gcd (dI (dA (fN s))) (dI (fE s))),0):=by
   unfold wB;rw[if_pos (Bk fd h2 f3 f4),uA (Nat.lt_of_le_of_lt (Nat.gcd_le_right _ (by omega)) v1)]
 have ev:(iU (fN s)).natAbs=dI (dA (fN s)):=by unfold iU;split <;> omega
 rw[e];unfold cM;rw[f1,h0,h3,h4,h5,ev];simp only[beq_self_eq_true,Bool.true_and,Bool.not_true,Bool.not_false,Bool.false_or];rw[Bool.eq_iff_iff,lF,oG,beq_iff_eq]
theorem Ay(n:Int)(h0: -9223372036854775808≤n)(h1:n≤9223372036854775807):PC Tryz.prog 26 [int n] (str (zed n)):=by
 refine PC.body (c:=Tryz.f26.body.getD .skip) (fun _=>false) mixed Tryz.func26 rfl (by kernel_rfl) ?_;unfold Tryz.f26;simp only[Option.getD_some];simp only[go_sem];refine PC.use (X7 n h0 h1) ?_;simp only[go_sem];exact .refl _
def KK(a b:ByteArray):List AV:=if(cM a&&cM b)=true then[str (fN a),str (fE a),str (fN b),str (fE b),int 0]else[str emp,str emp,str emp,str emp,int 3]
theorem S1(a b:ByteArray)(ha:a.size≤1048576)(hb:b.size≤1048576):PC Tryz.prog 56 [str a,str b] (.tup (KK a b)):=by
 refine PC.body (c:=Tryz.f56.body.getD .skip) (fun _=>false) mixed Tryz.func56 rfl (by kernel_rfl) ?_;unfold Tryz.f56;simp only[Option.getD_some];simp only[go_sem];refine PC.use (zA a ha) ?_;simp only[go_sem];refine⟨_,fun _=>(zA b hb).q rfl,?_⟩;simp only[go_sem];refine aA (fun hc=>?_) (fun hc=>?_)
 · simp only[go_sem]
   rw[show KK a b=[str emp,str emp,str emp,str emp,int 3]from if_neg (by rw[Bool.not_eq_true,←Bool.not_eq_true',Bool.not_and];exact hc)];exact .refl _
 · simp only[go_sem]
   refine PC.use (Gw a ha) ?_;simp only[go_sem];refine PC.use (Gw b hb) ?_;simp only[go_sem];rw[show KK a b=_ from if_pos (by rw[←Bool.not_eq_false',Bool.not_and];exact hc)];exact .refl _
theorem Wj(n:Int)(d:Nat)(hd:d≠0)(hn:n.natAbs<cD)(hdm:d<cD):PC Tryz.prog 118 [str (zed n),str (dec d)] (.tup [str (lW (mkRat n d)),int 0]):=by
 have hg:=Pm (n:=n) hd hdm;have hg0:=ND (n:=n) hd;have zs:∀{m:Int},m.natAbs<cD→(zed m).size≤1048576:=fun {m} hm=>by
   have:=(pC m).2 hm;unfold dA at this;split at this
   · rw[←bY,gS,List.length_drop]at this
     rw[←bY];omega
   · omega
 have hsm:=HU hd hn hdm;have eg:Bd (zed n) (dec (Nat.gcd n.natAbs d))=(zed (mkRat n d).num,zed (n.fmod (Nat.gcd n.natAbs d:Nat)),0):=by
   unfold Bd;rw[←fO,if_pos (rO hn (by rw[Int.natAbs_natCast];exact hg)),cT,cT,if_neg (by omega),Mo hd]
 have ed:Bd (dec d) (dec (Nat.gcd n.natAbs d))=(dec (mkRat n d).den,zed ((d:Int).fmod (Nat.gcd n.natAbs d:Nat)),0):=by
   unfold Bd;rw[←fO,←fO,if_pos (rO (by rw[Int.natAbs_natCast];exact hdm) (by rw[Int.natAbs_natCast];exact hg)),cT,cT,if_neg (by omega),Nb hd,fO]
 refine PC.body (c:=Tryz.f118.body.getD .skip) (fun _=>false) mixed Tryz.func118 rfl (by kernel_rfl) ?_;unfold Tryz.f118;simp only[Option.getD_some];simp only[go_sem];refine PC.use (uZ (zed n)) ?_;rw[iF];simp only[go_sem];refine PC.use (Qg (dec n.natAbs) (dec d) (dD hn) (dD hdm)) ?_;rw[show wB (dec n.natAbs) (dec d)=(dec (Nat.gcd n.natAbs d),0)by unfold wB;rw[if_pos (uV hn hdm),bQ,bQ,uA hg]];simp only[go_sem];refine aA (fun hb=>by cases hb) (fun _=>?_);simp only[go_sem];refine PC.use (FZ (zed n) (dec (Nat.gcd n.natAbs d)) (zs hn) (dD hg)) ?_;rw[eg];simp only[go_sem];refine aA (fun hb=>by cases hb) (fun _=>?_);simp only[go_sem];refine PC.use (FZ (dec d) (dec (Nat.gcd n.natAbs d)) (dD hdm) (dD hg)) ?_;rw[ed];simp only[go_sem];refine aA (fun hb=>by cases hb) (fun _=>?_);simp only[go_sem,BL];generalize mkRat n d=x at *;refine aA (fun hb=>?_) (fun hb=>?_)
 · have h1:x.den=1:=oG.1 (lF.1 hb)
   simp only[go_sem];rw[show lW x=zed x.num from if_pos h1];exact .refl _
 · have h1:x.den≠1:=fun e=>mW.1 hb (by rw[e])
   simp only[go_sem];have z1:=zs hsm.1;have z2:=dD hsm.2;have z3:(zed x.num++slB).size=(zed x.num).size+1:=by rw[ByteArray.size_append];rfl
   refine⟨by show((zed x.num).size+(1:Nat):Int)≤9223372036854775807;omega,?_⟩;refine⟨by show(((zed x.num).size+1+(dec x.den).size:Nat):Int)≤9223372036854775807;omega,?_⟩;rw[show lW x=zed x.num++slB++dec x.den from if_neg h1];exact .refl _
end Go.Proofs.YtdlijlecpopadaaGreatDoor.Nu
end
section
namespace Go.Proofs.YtdlijlecpopadaaGreatDoor.Nu
open Go.Aw Go.Aw.D Go.Proofs Ty Go.Nu
abbrev Pr:=ByteArray×ByteArray
def wE(p:Pr):List AV:=[str p.1,str p.2]
theorem DZ(p:Pr):(wE p).length=2:=(rfl)
theorem T2(p:Pr):(wE p).getD 0 .any=str p.1:=(rfl)
theorem UL(p:Pr):(wE p).getD 1 .any=str p.2:=(rfl)
theorem Oi(p:Pr):(wE p).take 2=wE p:=(rfl)
attribute [go_sem] DZ T2 UL Oi
def prA(p:Pr):List AV:=[str (uO p.1 p.2).1]
def prE:List Pr→Int
 | []=>0
 | p::l=>if(uO p.1 p.2).2≠0 then(uO p.1 p.2).2 else prE l
theorem Ix:∀{l:List Pr},(∀p∈l,(uO p.1 p.2).2=0)→prE l=0
 | [],_=>rfl
 | p::l,h=>by unfold prE;rw[if_neg (by simp[h p (by simp)])];exact Ix fun q hq=>h q (by simp[hq])
theorem Qd:∀{l:List Pr} {k:Nat} {p:Pr},l[k]?=some p→(∀q∈l.take k,(uO q.1 q.2).2=0)→(uO p.1 p.2).2≠0→prE l=(uO p.1 p.2).2
 | [],k,p,h,_,_=>by simp at h
 | a::l,0,p,h,_,h2=>by
   simp at h;subst h;unfold prE;rw[if_pos h2]
 | a::l,k+1,p,h,h1,h2=>by
   unfold prE;rw[if_neg (by simp[h1 a (by simp)])];exact Qd (k:=k) (by simpa using h) (fun q hq=>h1 q (by simp[hq])) h2
def VA(l:List (List AV)):Row:=⟨9,1,l⟩
theorem BT(l:List Pr)(hl:l.length≤1048576)(hs:∀p∈l,p.1.size≤1048576∧p.2.size≤1048576):PC Tryz.prog 117 [.sl (l.map wE)] (.tup [.sl (if prE l=0 then l.map prA else[]),int (prE l)]):=by
 refine PC.body (c:=Tryz.f117.body.getD .skip) (fun t=>t == 6||t == 11) mixed Tryz.func117 rfl (by kernel_rfl) ?_;unfold Tryz.f117;simp only[Option.getD_some];simp only[go_sem];refine⟨⟨⟨by omega,by omega⟩,by omega⟩,?_⟩;refine aN fun j hj=>?_
 simp only[go_sem];refine⟨fun ρ H=>∃(k j:Nat),k≤l.length∧ρ 12=.sl (l.map wE)∧ρ 13=int l.length∧ρ 4=.os j∧ρ 14=int k∧H j=some (VA ((l.take k).map prA))∧∀p∈l.take k,(uO p.1 p.2).2=0,fun ρ _=>l.length-bR (ρ 14),
   ⟨0,j,Nat.zero_le _,by simp only[go_sem],by simp only[go_sem,List.length_map],by simp only[go_sem],by simp only[go_sem];rfl,aB _ _ _,by simp⟩,?_⟩
 clear hj j;rintro ρ H ⟨k,j,hk,h12,h13,h4,h14,Rj,hz⟩;simp only[go_sem,h12,h13,h4,h14];refine aA (fun hlt=>?_) (fun hge=>?_)
 · have hlt:=ltB hlt
   obtain⟨p,hp0⟩:=bA hlt;have b1:=inB hlt;have hps:=hs p (List.mem_of_getElem? hp0);simp only[go_sem,h12,h13,h4,h14,aH hp0,b1];refine aN fun i hi=>?_
   have nji:j≠i:=aO Rj hi;simp only[go_sem,h12,h13,h4,h14];refine aT (aB _ _ _) (by simp[DZ]) ?_;generalize hG:aJ (aJ _ i _) i _=HG;have Ri:HG i=some (⟨189,2,[wE p]⟩:Row):=by rw[←hG,aB];rfl
   have Rj':HG j=some (VA ((l.take k).map prA)):=by rw[←hG,aD _ _ _ _ nji,aD _ _ _ _ nji];exact Rj
   clear hG hi Rj;simp only[go_sem,h12,h13,h4,h14,Ri]
   repeat (refine⟨by first|decide|omega,?_⟩)
   refine PC.use (XD p.1 p.2 hps.1 hps.2) ?_;simp only[go_sem,h12,h13,h4,h14];refine aA (fun hb=>?_) (fun hb=>?_)
   · have hb:(uO p.1 p.2).2≠0:=by simpa using hb
     simp only[go_sem];have e:prE l=(uO p.1 p.2).2:=Qd hp0 hz hb;rw[e,if_neg hb];exact .refl _
   · have hb:(uO p.1 p.2).2=0:=by simpa using hb
     simp only[go_sem,h12,h13,h4,h14];refine bC Rj' ⟨rfl,rfl⟩ ⟨rfl,trivial⟩ (by simp only[VA,List.length_map,List.length_take,List.length_cons,List.length_nil];omega) (fun j' hj'=>?_);simp only[go_sem,h12,h13,h4,h14,bG (show k≤4611686018427387904 by omega)];refine⟨⟨k+1,j',hlt,rfl,rfl,?_,?_⟩,by simp only[aI];omega⟩
     · rw[aB]
       simp only[VA,cH hp0,List.map_append,List.map_cons,List.map_nil];rfl
     · intro q hq
       rw[cH hp0]at hq;rcases List.mem_append.1 hq with hq|hq
       · exact hz q hq
       · rw[List.mem_singleton.1 hq];exact hb
 · have hge:=geB hk hge
   subst hge;rw[List.take_length]at Rj hz;simp only[go_sem,h4,Rj];have e:prE l=0:=Ix hz;rw[if_pos e,e];exact .tup _ _ (.cons _ _ _ _ (.row _ _ _ Rj (ConvE.refl _)) (ConvL.refl _))
theorem CE{m n:Int}(hm:m.natAbs<cD)(hn:n.natAbs<cD):uO (zed m) (zed n)=szZ (m*n):=by unfold uO;rw[if_pos (rO hm hn),cT,cT]
theorem S4{m n:Int}(hm:m.natAbs<cD)(hn:n.natAbs<cD):Ow (zed m) (zed n)=szZ (m+n):=by unfold Ow;rw[if_pos (rO hm hn),cT,cT]
theorem RT{m n:Int}(hm:m.natAbs<cD)(hn:n.natAbs<cD):Og (zed m) (zed n)=szZ (m-n):=by unfold Og;rw[if_pos (rO hm hn),cT,cT]
theorem GL{n:Int}(h:oH n=false):szZ n=(zed n,0):=if_pos (nS.1 h)
theorem Bg{n:Int}(h:oH n=true):szZ n=(emp,4):=if_neg (fun h2=>by rw[nS.2 h2]at h;cases h)
theorem gT{m:Int}(hm:m.natAbs<cD):(zed m).size≤1048576:=by
 have:=(pC m).2 hm;unfold dA at this;split at this
 · rw[←bY,gS,List.length_drop]at this
   rw[←bY];omega
 · omega
theorem G4{a b c d:Int}(ha:a.natAbs<cD)(hb:b.natAbs<cD)(hc:c.natAbs<cD)(hd:d.natAbs<cD):
   PC Tryz.prog 117 [.sl [[str (zed a),str (zed b)],[str (zed c),str (zed d)]]] (if(oH (a*b)||oH (c*d))=true then .tup [.sl [],int 4]else .tup [.sl [[str (zed (a*b))],[str (zed (c*d))]],int 0]):=by
 have:=BT [(zed a,zed b),(zed c,zed d)] (by simp) (by simp[gT,ha,hb,hc,hd]);simp only[prE,CE ha hb,CE hc hd,List.map_cons,List.map_nil,prA,wE]at this;cases h1:oH (a*b)with
 | true=>rw[Bg h1]at this;simpa using this
 | false=>
   rw[GL h1]at this;cases h2:oH (c*d)with
   | true=>rw[Bg h2]at this;simpa using this
   | false=>rw[GL h2]at this;simpa using this
theorem Hl{a b:Int}(ha:a.natAbs<cD)(hb:b.natAbs<cD):
   PC Tryz.prog 117 [.sl [[str (zed a),str (zed b)]]] (if oH (a*b)=true then .tup [.sl [],int 4]else .tup [.sl [[str (zed (a*b))]],int 0]):=by
 have:=BT [(zed a,zed b)] (by simp) (by simp[gT,ha,hb]);simp only[prE,CE ha hb,List.map_cons,List.map_nil,prA,wE]at this;cases h1:oH (a*b)with
 | true=>rw[Bg h1]at this;simpa using this
 | false=>rw[GL h1]at this;simpa using this
def fv(g:FuncId):AV:=.v (.func (.func g) #[] #[])
def Mt(op:Int→Int→Int)(x y:Rat):ByteArray×Int:=
 if(oH (x.num*y.den)||oH (y.num*x.den)||oH (op (x.num*y.den) (y.num*x.den))||oH (x.den*y.den))=true then(emp,4)else(lW (mkRat (op (x.num*y.den) (y.num*x.den)) (x.den*y.den)),0)
def AG(op:Int→Int→Int)(a b:ByteArray):ByteArray×Int:=if(cM a&&cM b)=true then Mt op (iT a) (iT b)else(emp,3)
theorem Fg(g:FuncId)(op:Int→Int→Int)(hok:aC Tryz.prog g=true)(hg:∀m n:Int,m.natAbs<cD→n.natAbs<cD→PC Tryz.prog g [str (zed m),str (zed n)] (.tup [str (szZ (op m n)).1,int (szZ (op m n)).2]))
   (a b:ByteArray) (ha:a.size≤1048576) (hb:b.size≤1048576):PC Tryz.prog 59 [str a,str b,fv g] (.tup [str (AG op a b).1,int (AG op a b).2]):=by
 have htwo:=S1 a b ha hb;by_cases hr:(cM a&&cM b)=true
 rotate_left
 · rw[show KK a b=_ from if_neg hr]at htwo
   rw[show AG op a b=(emp,3)from if_neg hr];unfold fv;refine PC.body (c:=Tryz.f59.body.getD .skip) (fun _=>false) mixed Tryz.func59 rfl (by kernel_rfl) ?_;unfold Tryz.f59;simp only[Option.getD_some];simp only[go_sem];refine PC.use htwo ?_;simp only[go_sem];refine aA (fun _=>?_) (fun hb=>by cases hb);simp only[go_sem];exact .refl _
 rw[show KK a b=_ from if_pos hr]at htwo;rw[show AG op a b=_ from if_pos hr];simp only[Bool.and_eq_true]at hr;obtain⟨x,rfl,hx,e1,e2⟩:=kB hr.1;obtain⟨y,rfl,hy,e3,e4⟩:=kB hr.2;rw[e1,e2,e3,e4]at htwo;rw[jD,jD];have xd:((x.den:Int)).natAbs<cD:=by rw[Int.natAbs_natCast];exact hx.2
 have yd:((y.den:Int)).natAbs<cD:=by rw[Int.natAbs_natCast];exact hy.2
 have p2:=G4 hx.1 yd hy.1 xd;have p1:=Hl xd yd;rw[fO,fO]at p2 p1;unfold fv;refine PC.body (c:=Tryz.f59.body.getD .skip) (fun _=>false) mixed Tryz.func59 rfl (by kernel_rfl) ?_;unfold Tryz.f59;simp only[Option.getD_some];simp only[go_sem];refine PC.use htwo ?_;simp only[go_sem];refine aA (fun hb=>by cases hb) (fun _=>?_);simp only[go_sem];unfold Mt;cases hb1:(oH (x.num*y.den)||oH (y.num*x.den))with
 | true=>
   rw[hb1,if_pos rfl]at p2;refine PC.use p2 ?_;simp only[go_sem];refine aA (fun _=>?_) (fun hb=>by cases hb);exact .refl _
 | false=>
   rw[hb1]at p2;simp only[Bool.false_eq_true,if_false]at p2;refine PC.use p2 ?_;simp only[go_sem];refine aA (fun hb=>by cases hb) (fun _=>?_);simp only[go_sem];have hb1':=hb1;simp only[Bool.or_eq_false_iff]at hb1';have hgg:=hg _ _ (nS.1 hb1'.1) (nS.1 hb1'.2);refine gI (by rfl) (by kernel_rfl) ?_;simp only[go_sem,List.length_cons,List.length_nil]
   repeat (refine⟨by first|decide|omega,?_⟩)
   refine⟨_,hgg.q rfl,?_⟩;simp only[go_sem];generalize hN:op (x.num*y.den) (y.num*x.den)=N;cases hb2:oH N with
   | true=>
     rw[Bg hb2];refine aA (fun _=>?_) (fun hb=>by cases hb);simp only[go_sem,hb1,Bool.false_or,Bool.true_or,if_true];exact .refl _
   | false=>
     rw[GL hb2];refine aA (fun hb=>by cases hb) (fun _=>?_);simp only[go_sem];cases hb3:oH ((x.den:Int)*y.den)with
     | true=>
       rw[hb3,if_pos rfl]at p1;refine PC.use p1 ?_;simp only[go_sem];refine aA (fun _=>?_) (fun hb=>by cases hb);simp only[go_sem,Bool.or_true,if_true];exact .refl _
     | false=>
       rw[hb3]at p1;simp only[Bool.false_eq_true,if_false]at p1;refine PC.use p1 ?_;simp only[go_sem];refine aA (fun hb=>by cases hb) (fun _=>?_);simp only[go_sem,List.length_cons,List.length_nil]
       repeat (refine⟨by first|decide|omega,?_⟩)
       have hD:x.den*y.den<cD:=by rw[←Gl];exact nS.1 hb3
       have:=Wj N (x.den*y.den) (KI x y) (nS.1 hb2) hD;rw[←fO,Int.natCast_mul]at this;refine PC.use this ?_;simp only[go_sem];exact .refl _
theorem Oe(a b:ByteArray):AG (·+·) a b=xC a b:=by
 unfold AG xC Mt zT;simp only[GG]
theorem N9(a b:ByteArray):AG (·-·) a b=wC a b:=by
 unfold AG wC Mt zT;simp only[GG,Rat.neg_num,Rat.neg_den,Int.neg_mul,←Int.sub_eq_add_neg];have:∀n:Int,oH (-n)=oH n:=fun n=>by unfold oH;rw[Int.natAbs_neg]
 simp only[this]
theorem uF(a b:ByteArray)(ha:a.size≤1048576)(hb:b.size≤1048576):PC Tryz.prog 25 [str a,str b] (.tup [str (xC a b).1,int (xC a b).2]):=by
 have:=Fg 60 (·+·) (by kernel_rfl) (fun m n hm hn=>by rw[←S4 hm hn];exact WK _ _ (gT hm) (gT hn)) a b ha hb;rw[Oe]at this;unfold fv at this;refine PC.body (c:=Tryz.f25.body.getD .skip) (fun _=>false) mixed Tryz.func25 rfl (by kernel_rfl) ?_;unfold Tryz.f25;simp only[Option.getD_some];simp only[go_sem];refine PC.use this ?_;simp only[go_sem];exact .refl _
theorem tY(a b:ByteArray)(ha:a.size≤1048576)(hb:b.size≤1048576):PC Tryz.prog 28 [str a,str b] (.tup [str (wC a b).1,int (wC a b).2]):=by
 have:=Fg 67 (·-·) (by kernel_rfl) (fun m n hm hn=>by rw[←RT hm hn];exact WP _ _ (gT hm) (gT hn)) a b ha hb;rw[N9]at this;unfold fv at this;refine PC.body (c:=Tryz.f28.body.getD .skip) (fun _=>false) mixed Tryz.func28 rfl (by kernel_rfl) ?_;unfold Tryz.f28;simp only[Option.getD_some];simp only[go_sem];refine PC.use this ?_;simp only[go_sem];exact .refl _
end Go.Proofs.YtdlijlecpopadaaGreatDoor.Nu
end
section
namespace Go.Nu
open Go Go.Lib
theorem gT{m:Int}(hm:m.natAbs<cD):(zed m).size≤4097:=by
 have:=(pC m).2 hm;unfold dA at this;split at this
 · rw[←bY,gS,List.length_drop]at this
   rw[←bY];omega
 · omega
theorem E7{x:Rat}(h:pR x):(lW x).size≤8194:=by
 have h1:=gT h.1;have h2:=(fU x.den).2 h.2;unfold lW;split
 · omega
 · rw[ByteArray.size_append,ByteArray.size_append]
   have:slB.size=1:=rfl;omega
theorem AX{s:ByteArray}(h:cM s=true):s.size≤8194:=by
 obtain⟨x,rfl,hs,_⟩:=kB h;exact E7 hs
theorem LS:cM (dec 0)=true:=by
 have:dec 0=lW 0:=(fO 0).symm.trans (if_pos (show(0:Rat).den=1 from rfl)).symm;rw[this];exact lN ⟨TZ,FF (k:=1) (by decide) (by decide)⟩
end Go.Nu
end
section
namespace Go.Proofs.YtdlijlecpopadaaGreatDoor.Nu
open Go.Aw Go.Aw.D Go.Proofs Ty Go.Nu
theorem Ja{p q:Int}(hq:0<q):(p.fdiv q).natAbs≤p.natAbs:=by
 obtain⟨e,h0,h1⟩:=pH (p:=p) hq;generalize p.fdiv q=d at *;generalize p.fmod q=m at *;rcases Int.lt_or_le d 0 with hd|hd
 · have h2:(d+1)*q≤(d+1)*1:=Int.mul_le_mul_of_nonpos_left (by omega) (by omega)
   rw[Int.add_mul]at h2;omega
 · have h2:d*1≤d*q:=Int.mul_le_mul_of_nonneg_left (by omega) hd
   omega
theorem JI{p q:Int}(hp:p.natAbs<cD)(hq:q.natAbs<cD)(h:0<q):Bd (zed p) (zed q)=(zed (p.fdiv q),zed (p.fmod q),0):=by
 unfold Bd;rw[if_pos (rO hp hq),cT,cT,if_neg (by omega)]
theorem SM(i j:Int):PO (zed i) (zed j)=iD i j:=by unfold PO;rw[if_pos ⟨pI _,pI _⟩,cT,cT]
theorem LH(i j:Int):iD i j= -1∨iD i j=0∨iD i j=1:=by
 unfold iD;split
 · exact .inl rfl
 · split
   · exact .inr (.inr rfl)
   · exact .inr (.inl rfl)
def aeZ:AV→Nat
 | .v (.string s)=>(iU s).natAbs
 | _=>0
theorem Kd(n:Int):aeZ (str (zed n))=n.natAbs:=by show(iU (zed n)).natAbs=_;rw[cT]
theorem C8(n:Int):(bl (zed n) == [48])=decide (n=0):=by
 rw[nM,←show zed ((0:Nat):Int)=dec 0 from fO 0,Bool.eq_iff_iff,lF,Q1,decide_eq_true_iff];exact Iff.rfl
theorem Y4{a b:Int}(ha:a=1∨a= -1)(hb:b= -1∨b=0∨b=1):IntKind.i64.wrap (a*b)=a*b:=by
 rcases ha with rfl|rfl <;> rcases hb with rfl|rfl|rfl <;> rfl
theorem Iz{a:Int}(ha:a=1∨a= -1):IntKind.i64.wrap (0-a)= -a:=by rcases ha with rfl|rfl <;> rfl
theorem mZ(a b:ByteArray)(ha:a.size≤1048576)(hb:b.size≤1048576):PC Tryz.prog 24 [str a,str b] (int (tC a b)):=by
 have htwo:=S1 a b ha hb;by_cases hr:(cM a&&cM b)=true
 rotate_left
 · rw[show KK a b=_ from if_neg hr]at htwo
   rw[show tC a b=0 from if_neg hr];refine PC.body (c:=Tryz.f24.body.getD .skip) (fun _=>false) mixed Tryz.func24 rfl (by kernel_rfl) ?_;unfold Tryz.f24;simp only[Option.getD_some];simp only[go_sem];refine PC.use htwo ?_;simp only[go_sem];refine aA (fun _=>?_) (fun hb=>by cases hb);simp only[go_sem];exact .refl _
 rw[show KK a b=_ from if_pos hr]at htwo;rw[show tC a b=_ from if_pos hr];simp only[Bool.and_eq_true]at hr;obtain⟨x,rfl,hx,e1,e2⟩:=kB hr.1;obtain⟨y,rfl,hy,e3,e4⟩:=kB hr.2;rw[e1,e2,e3,e4]at htwo;rw[jD,jD];have xd:((x.den:Int)).natAbs<cD:=by rw[Int.natAbs_natCast];exact hx.2
 have yd:((y.den:Int)).natAbs<cD:=by rw[Int.natAbs_natCast];exact hy.2
 have x0:=x.den_nz;have y0:=y.den_nz;rw[←fO,←fO]at htwo;refine PC.body (c:=Tryz.f24.body.getD .skip) (fun _=>false) mixed Tryz.func24 rfl (by kernel_rfl) ?_;unfold Tryz.f24;simp only[Option.getD_some];simp only[go_sem];refine PC.use htwo ?_;simp only[go_sem];refine aA (fun hb=>by cases hb) (fun _=>?_);simp only[go_sem];refine⟨fun ρ _=>∃(p q r s g:Int),ρ 5=str (zed p)∧ρ 6=str (zed q)∧ρ 7=str (zed r)∧ρ 8=str (zed s)∧ρ 10=int g∧(g=1∨g= -1)∧0<q∧0<s∧p.natAbs<cD∧q.natAbs<cD∧r.natAbs<cD∧s.natAbs<cD∧Pf x y=g*GP p q r s,fun ρ _=>aeZ (ρ 6),
   ⟨x.num,x.den,y.num,y.den,1,by simp only[go_sem],by simp only[go_sem],by simp only[go_sem],by simp only[go_sem],by simp only[go_sem],.inl rfl,by omega,by omega,hx.1,xd,hy.1,yd,by rw[Int.one_mul,W0]⟩,?_⟩
 rintro ρ H ⟨p,q,r,s,g,h5,h6,h7,h8,h10,hg,hq,hs,bp,bq,br,bs,hinv⟩;simp only[go_sem,h5,h6,h7,h8,h10];refine PC.use (FZ (zed p) (zed q) (gT bp) (gT bq)) ?_;rw[JI bp bq hq];simp only[go_sem,h5,h6,h7,h8,h10];refine PC.use (FZ (zed r) (zed s) (gT br) (gT bs)) ?_;rw[JI br bs hs];simp only[go_sem,h5,h6,h7,h8,h10];have d1:=Ja (p:=p) hq;have d2:=Ja (p:=r) hs;refine PC.use (KA (zed (p.fdiv q)) (zed (r.fdiv s)) (gT (by omega)) (gT (by omega))) ?_;rw[SM];simp only[go_sem,h5,h6,h7,h8,h10];obtain⟨_,m0,m1⟩:=pH (p:=p) hq;obtain⟨_,n0,n1⟩:=pH (p:=r) hs;have c3:=LH (p.fdiv q) (r.fdiv s);refine aA (fun hc=>?_) (fun hc=>?_)
 · have hc:iD (p.fdiv q) (r.fdiv s)≠0:=by simpa using hc
   simp only[go_sem,h10,Y4 hg c3];refine cI ?_;rw[hinv,Mb hq hs (fun e=>hc (oQ e))]
 have hc:p.fdiv q=r.fdiv s:=Eg.1 (by simpa using hc);have hX:=Pc hq hs hc;generalize p.fmod q=m at *;generalize r.fmod s=n at *;simp only[go_sem,h5,h6,h7,h8,h10,C8];refine aA (fun hz=>?_) (fun hz=>?_)
 · have hz:m=0∧n=0:=by simpa using hz
   simp only[go_sem];refine cI ?_;rw[hinv,hX,hz.1,hz.2,Int.zero_mul,Int.zero_mul,oQ rfl,Int.mul_zero]
 simp only[go_sem,h5,h6,h7,h8,h10,C8];refine aA (fun hm=>?_) (fun hm=>?_)
 · have hm:m=0:=of_decide_eq_true hm
   have hn:0<n:=by
     rcases Int.lt_or_le 0 n with h|h
     · exact h
     · exfalso
       have:n=0:=by omega
       rw[hm,this]at hz;cases hz
   simp only[go_sem,h10,Iz hg];refine cI ?_;rw[hinv,hX,hm,Int.zero_mul,iZ (Int.mul_pos hn hq)];omega
 have hm:0<m:=by have:=of_decide_eq_false hm;omega
 simp only[go_sem,h5,h6,h7,h8,h10,C8];refine aA (fun hn=>?_) (fun hn=>?_)
 · have hn:n=0:=of_decide_eq_true hn
   simp only[go_sem,h10];refine cI ?_;rw[hinv,hX,hn,Int.zero_mul,iY (Int.mul_pos hm hs)];omega
 have hn:0<n:=by have:=of_decide_eq_false hn;omega
 simp only[go_sem,h5,h6,h7,h8,h10,Iz hg];refine⟨⟨q,m,s,n,-g,rfl,rfl,rfl,rfl,rfl,by omega,hm,hn,bq,by omega,bs,by omega,?_⟩,?_⟩
 · rw[hinv,hX,OC]
   rw[Int.mul_neg,Int.neg_mul]
 · rw[Kd,Kd];omega
theorem Ep{P:Program}{G:_}{t:TypeId}{a b:ByteArray}{k:AV→Prop}:fM P G .lss t (.v (.string a)) (.v (.string b)) k=k (.v (.bool (Op.bytesLess a.toList b.toList))):=(rfl)
attribute [go_sem ↓] Ep
attribute [go_sem] Ep
theorem Wb(s:ByteArray):s.toList=bl s:=ByteArray.toList_eq s
theorem G3:∀{l r:List UInt8},l.length=r.length→Op.bytesLess l r=decide (Lib.compareBytes l r= -1)
 | [],[],_=>rfl
 | [],_::_,h=>by simp at h
 | _::_,[],h=>by simp at h
 | a::l,b::r,h=>by
   simp only[List.length_cons,Nat.add_right_cancel_iff]at h;have ih:=G3 h;rw[Op.bytesLess,Lib.compareBytes,ih];by_cases h1:a<b
   · simp[h1]
   · by_cases h2:b<a
     · have : (a == b) = false := by
         rw[beq_eq_false_iff_ne];rintro rfl;exact absurd h2 h1
       simp[h1,h2,this]
     · have : a = b := by
         rw[UInt8.lt_iff_toNat_lt]at h1 h2;exact UInt8.toNat_inj.1 (by omega)
       subst this;simp
theorem Qa{m n:Nat}(h:(dec m).size=(dec n).size):Op.bytesLess (bl (dec m)) (bl (dec n))=decide (m<n):=by
 have hm:=fS m;have hn:=fS n;rw[fQ,fQ,G3 (by omega),Ak (qM m) (qM n) (by omega),mK,mK,decide_eq_decide];unfold iD;split
 · simp;omega
 · split <;> simp <;> omega
theorem uC(s:ByteArray)(h:s.size≤4611686018427387904):PC Tryz.prog 103 [str s] (boo (cR s)):=by
 have hs:=bY s;refine PC.body (c:=Tryz.f103.body.getD .skip) (fun _=>false) mixed Tryz.func103 rfl (by kernel_rfl) ?_;unfold Tryz.f103;simp only[Option.getD_some];simp only[go_sem];refine⟨fun h=>⟨by omega,by have:=of_decide_eq_true h.2;omega⟩,?_⟩;have hc:((s.size:Int) == 0||decide ((s.size:Int)>1)&&((bl s).getD 0 0).toNat == (48:Int))= !(bl s != []&&((bl s).length == 1||(bl s).getD 0 0 != 48)):=by
   rw[←hs];cases bl s with
   | nil=>rfl
   | cons c r=>
     have e1:(((c.toNat:Nat):Int) == 48)=(c == 48):=by
       rw[Bool.eq_iff_iff,beq_iff_eq,beq_iff_eq,←UInt8.toNat_inj];exact Int.ofNat_inj (n:=48)
     simp only[List.getD_cons_zero,e1];cases r with
     | nil=>simp
     | cons c2 r=>
       have h0:(((c::c2::r).length:Int) == 0)=false:=by simp;omega
       have h1:decide (((c::c2::r).length:Int)>1)=true:=by simp;omega
       rw[h0,h1,show((c::c2::r) != [])=true from rfl,show((c::c2::r).length == 1)=false from rfl];cases h:(c == 48) <;> simp[bne,h]
 rw[hc];refine aA (fun hb=>?_) (fun hb=>?_)
 · simp only[go_sem]
   refine cB ?_;unfold cR dJ;rw[Bool.not_eq_true']at hb;rw[hb];rfl
 rw[Bool.not_eq_false']at hb;simp only[go_sem];refine⟨fun ρ _=>∃k:Nat,k≤(bl s).length∧ρ 0=str s∧ρ 3=int k∧∀c∈(bl s).take k,isD c=true,fun ρ _=>(bl s).length-bR (ρ 3),⟨0,Nat.zero_le _,rfl,rfl,by simp⟩,?_⟩;rintro ρ H ⟨k,hk,h0,h3,hz⟩;simp only[go_sem,h0,h3];refine aA (fun hlt=>?_) (fun hge=>?_)
 · have hlt:k<(bl s).length:=by have:=ltB hlt;omega
   obtain⟨c,hc⟩:=bA hlt;have hi:=nP hc;simp only[go_sem,h0,h3,hi,GJ];refine⟨⟨by omega,by omega⟩,fun _=>⟨by omega,by omega⟩,aA (fun hb2=>?_) (fun hb2=>?_)⟩
   · simp only[go_sem]
     refine cB ?_;unfold cR dJ;rw[Ky hc (by simpa using hb2),Bool.and_false]
   · simp only[go_sem,h0,h3,bG (show k≤4611686018427387904 by omega)]
     exact⟨⟨k+1,hlt,rfl,rH hc (by simpa using hb2) hz⟩,by simp only[aI];omega⟩
 · have hge:k=(bl s).length:=by rw[←hs]at hge;exact geB hk hge
   subst hge;rw[List.take_length]at hz;simp only[go_sem];refine cB ?_;unfold cR dJ;rw[hb,Fv hz];rfl
def P4(a b:ByteArray):Int:=if(cR a&&cR b)=true then iD (dI a) (dI b)else 0
theorem KO(a b:ByteArray)(ha:a.size≤1048576)(hb:b.size≤1048576):PC Tryz.prog 199 [str a,str b] (int (P4 a b)):=by
 refine PC.body (c:=Tryz.f199.body.getD .skip) (fun _=>false) mixed Tryz.func199 rfl (by kernel_rfl) ?_;unfold Tryz.f199;simp only[Option.getD_some];simp only[go_sem];refine PC.use (uC a (by omega)) ?_;simp only[go_sem];refine⟨_,fun _=>(uC b (by omega)).q rfl,?_⟩;simp only[go_sem];refine aA (fun hc=>?_) (fun hc=>?_)
 · simp only[go_sem]
   refine cI ?_;unfold P4;split
   · rename_i hr
     simp only[Bool.and_eq_true]at hr;rw[hr.1,hr.2]at hc;have:a=b:=lF.1 (by simpa[eqB]using hc);rw[this,oQ rfl]
   · rfl
 have hc:cR a=true∧cR b=true∧eqB a b=false:=by
   simp only[Bool.or_eq_false_iff,Bool.not_eq_false']at hc;exact⟨hc.1.1,hc.1.2,hc.2⟩
 obtain⟨h1,h2,h3⟩:=hc;rw[show P4 a b=iD (dI a) (dI b)from if_pos (by rw[h1,h2];rfl)];rw[←gX h1,←gX h2,mW]at *;generalize dI a=m at *;generalize dI b=n at *;have hmn:m≠n:=fun e=>h3 (by rw[e])
 have hm:=fS m;have hn:=fS n;have hmono:∀{p q:Nat},(Lib.decDigits p).length<(Lib.decDigits q).length→p<q:=fun {p q} h=>by
   have h1:=(gG (n:=p) (k:=(Lib.decDigits p).length) (fV p)).1 (Nat.le_refl _);rcases Nat.lt_or_ge p q with h2|h2
   · exact h2
   · have:=(gG (n:=q) (k:=(Lib.decDigits p).length) (fV p)).2 (by omega)
     omega
 simp only[go_sem,Wb];have hk:(decide (((dec m).size:Int)<(dec n).size)||((dec m).size:Int) == (dec n).size&&Op.bytesLess (bl (dec m)) (bl (dec n)))=decide (m<n):=by
   by_cases h1:(dec m).size=(dec n).size
   · rw[Qa h1,h1]
     simp
   · rcases Nat.lt_or_ge (dec m).size (dec n).size with h2|h2
     · have:=hmono (p:=m) (q:=n) (by omega)
       simp[this];omega
     · have:=hmono (p:=n) (q:=m) (by omega)
       have h3:¬m<n:=by omega
       have h4:(((dec m).size:Int) == (dec n).size)=false:=by simp;omega
       rw[h4];simp[h3];omega
 rw[hk];refine aA (fun hb=>?_) (fun hb=>?_)
 · have:=of_decide_eq_true hb
   simp only[go_sem];exact cI (by rw[bQ,bQ,iZ (by omega)])
 · have:=of_decide_eq_false hb
   simp only[go_sem];exact cI (by rw[bQ,bQ,iY (by omega)])
theorem J6(a b:ByteArray)(ha:a.size≤1048576)(hb:b.size≤1048576):PC Tryz.prog 160 [str a,str b] (int (gR a b)):=by
 refine PC.body (c:=Tryz.f160.body.getD .skip) (fun _=>false) mixed Tryz.func160 rfl (by kernel_rfl) ?_;unfold Tryz.f160;simp only[Option.getD_some];simp only[go_sem];refine PC.use (uC a (by omega)) ?_;simp only[go_sem];refine⟨_,fun _=>(uC b (by omega)).q rfl,?_⟩;simp only[go_sem];unfold gR;refine aA (fun hc=>?_) (fun hc=>?_)
 · simp only[go_sem]
   exact cI (by rw[if_pos hc])
 · simp only[go_sem]
   have e1:decide ((a.size:Int)>4096)=decide (a.size>4096):=by rw[decide_eq_decide];omega
   have e2:decide ((b.size:Int)>4096)=decide (b.size>4096):=by rw[decide_eq_decide];omega
   rw[if_neg (by rw[hc];simp),e1,e2];refine aA (fun hd=>?_) (fun hd=>?_)
   · simp only[go_sem]
     exact cI (by rw[if_pos hd])
   · simp only[go_sem]
     exact cI (by rw[if_neg (by rw[hd];simp)])
theorem yS(d:Nat)(hd:d<10):PC Tryz.prog 201 [int d] (str (dec d)):=by
 refine PC.body (c:=Tryz.f201.body.getD .skip) (fun _=>false) mixed Tryz.func201 rfl (by kernel_rfl) ?_;unfold Tryz.f201;simp only[Option.getD_some];simp only[go_sem];have e1:IntKind.i64.wrap ((d:Int)+1)=((d+1:Nat):Int):=bG (by omega);rw[e1];refine⟨⟨by omega,by omega,by show((d+1:Nat):Int)≤10;omega⟩,?_⟩;refine cS (jI ?_);rw[eJ,fQ,Lib.decDigits_one hd];have key:∀e:Fin 10,(List.take (e.val+1) (bl ⟨#[48,49,50,51,52,53,54,55,56,57]⟩)).drop e.val=[UInt8.ofNat (48+e.val)]:=by decide
 exact key ⟨d,hd⟩
theorem adM{l:List UInt8}{i:Nat}(h:i<l.length):(dl l).getD i 0=(l.getD (l.length-1-i) 0).toNat-48:=by
 have h2:l.length-1-i<l.length:=by omega
 simp only[dl,List.getD,List.getElem?_reverse (show i<(l.map fun c=>c.toNat-48).length by simpa using h),List.length_map,List.getElem?_map,List.getElem?_eq_getElem h2,Option.map_some,Option.getD_some]
theorem Hi(s:ByteArray)(hs:(bl s).all isD=true)(i:Nat)(h:s.size≤1048576)(hi:i≤1048576):PC Tryz.prog 233 [str s,int i] (int ((dl (bl s)).getD i 0:Nat)):=by
 have hsz:=bY s;refine PC.body (c:=Tryz.f233.body.getD .skip) (fun _=>false) mixed Tryz.func233 rfl (by kernel_rfl) ?_;unfold Tryz.f233;simp only[Option.getD_some];simp only[go_sem];refine aA (fun hc=>?_) (fun hc=>?_)
 · simp only[go_sem]
   refine cI ?_;have:=of_decide_eq_true hc;have h2:(dl (bl s)).getD i 0=0:=by
     simp only[List.getD,List.getElem?_eq_none (show(dl (bl s)).length≤i by rw[C1];omega),Option.getD_none]
   rw[h2];rfl
 have hc:i<s.size:=by have:=of_decide_eq_false hc;omega
 have e1:IntKind.i64.wrap (IntKind.i64.wrap ((s.size:Int)-1)-(i:Int))=((s.size-1-i:Nat):Int):=by
   rw[show IntKind.i64.wrap ((s.size:Int)-1)=(s.size:Int)-1 from aU (by omega),aU (by omega)];omega
 obtain⟨c,hcc⟩:=bA (l:=bl s) (k:=s.size-1-i) (by omega);have hcd:=jW.1 (List.all_eq_true.1 hs c (List.mem_of_getElem? hcc));simp only[go_sem,e1,Int.toNat_natCast,nP hcc,u8w hcd.1 (by omega)];refine⟨by omega,?_⟩;refine cI ?_;rw[adM (by omega),hsz,nP hcc,aU (by omega)]
theorem FG(s:ByteArray)(h:s.size≤1048576)(h0:bl s≠[])(hd:(bl s).all isD=true):PC Tryz.prog 198 [str s] (str (dec (dI s))):=by
 refine PC.body (c:=Tryz.f198.body.getD .skip) (fun _=>false) mixed Tryz.func198 rfl (by kernel_rfl) ?_;unfold Tryz.f198;simp only[Option.getD_some];simp only[go_sem];refine⟨fun ρ _=>∃t:ByteArray,ρ 0=str t∧bl t≠[]∧(bl t).all isD=true∧dI t=dI s∧t.size≤1048576,fun ρ _=>match ρ 0 with| .v (.string t)=>t.size|_=>0,⟨s,rfl,h0,hd,rfl,h⟩,?_⟩;rintro ρ H ⟨t,e0,ht0,htd,htv,hts⟩;simp only[go_sem,e0];have hts2:=bY t;refine⟨fun h=>⟨by omega,by have:=of_decide_eq_true h;omega⟩,aA (fun hb=>?_) (fun hb=>?_)⟩
 · have hb : t.size > 1 ∧ ((bl t).getD 0 0).toNat = 48 := by
     simp only[Bool.and_eq_true,decide_eq_true_eq,beq_iff_eq]at hb;omega
   simp only[go_sem,e0];have e1:bl (t.extract 1 t.size)=(bl t).drop 1:=by rw[eJ,←hts2,List.take_length]
   have e2:(t.extract 1 t.size).size=t.size-1:=by rw[←bY,e1,List.length_drop,hts2]
   refine⟨⟨by omega,by omega⟩,?_⟩;refine⟨⟨t.extract 1 t.size,rfl,?_,?_,?_,by omega⟩,by show(t.extract 1 t.size).size<t.size;omega⟩
   · intro e
     have:=congrArg List.length e;rw[bY,e2]at this;simp at this;omega
   · rw[e1,List.all_eq_true]
     intro c hc;exact List.all_eq_true.1 htd c (List.mem_of_mem_drop hc)
   · rw[←htv]
     unfold dI;rw[e1];cases hbt:bl t with
     | nil=>exact absurd hbt ht0
     | cons c r=>
       rw[hbt]at hb;have:=pZ [c] r;rw[List.drop_one,List.tail_cons,show c::r=[c]++r from rfl,this];have h48:c.toNat=48:=by simpa using hb.2
       simp[fH,h48]
 · simp only[go_sem,e0]
   refine cS ?_;have hR:cR t=true:=by
     unfold cR dJ;rw[htd,Bool.and_true];have:(bl t != [])=true:=by simpa using ht0
     rw[this,Bool.true_and,Bool.or_eq_true,beq_iff_eq,bne_iff_ne];by_cases h1:t.size>1
     · refine .inr fun e=>?_
       rw[e]at hb;simp[h1]at hb;omega
     · have:=List.length_pos_iff.2 ht0
       exact .inl (by omega)
   rw[←htv,gX hR]
end Go.Proofs.YtdlijlecpopadaaGreatDoor.Nu
end
