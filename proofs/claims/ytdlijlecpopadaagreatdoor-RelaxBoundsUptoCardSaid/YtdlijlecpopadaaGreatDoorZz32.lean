/- Texts joined by a program: RxK, RxP, RxQ. -/
import Derived.Test.YtdlijlecpopadaaGreatDoorZz19
import Derived.Test.YtdlijlecpopadaaGreatDoorZz31

section
set_option linter.unusedSimpArgs false
set_option linter.unusedVariables false
namespace Go.Proofs.YtdlijlecpopadaaGreatDoor.Rx
open Go.Aw Go.Aw.D Go.Proofs Ty Go.Nu Go.So
open Sq (W jX eK kE NetOk)
open Nu (ltB geB)
open Mv (gC fF kJ NC.pc bQ)
set_option maxRecDepth 100000
theorem FU(i:Nat)(hi:i≤62):PC Tryz.prog 40 [int i] (int (2^i:Nat)):=by
 refine PC.body (c:=Tryz.f40.body.getD .skip) (fun _=>false) mixed Tryz.func40 rfl (by kernel_rfl) ?_;unfold Tryz.f40;simp only[Option.getD_some];simp only[go_sem];refine⟨fun ρ H=>∃(k:Nat),k≤i∧ρ 0=int i∧ρ 4=int k∧ρ 3=int (2^k:Nat),fun ρ _=>i-bE (ρ 4),⟨0,Nat.zero_le _,by simp only[go_sem],(by simp only[go_sem];rfl),by simp only[go_sem];rfl⟩,?_⟩;rintro ρ H ⟨k,hk,e0,e4,e3⟩;simp only[go_sem,e0,e4,e3];refine aB (fun hlt=>?_) (fun hge=>?_)
 · have hlt:=ltB hlt
   have hp:(2:Nat)^(k+1)≤2^62:=Nat.pow_le_pow_right (by decide) (by omega);have hs:(2:Nat)^(k+1)=2*2^k:=by rw[Nat.pow_succ,Nat.mul_comm]
   have w1:IntKind.i64.wrap (2*((2^k:Nat):Int))=((2^(k+1):Nat):Int):=by rw[hs];rw[hs]at hp;rw[aQ (by omega)];rfl
   simp only[go_sem,e0,e4,e3,w1,bA (show k≤4611686018427387904 by omega)];exact⟨⟨k+1,hlt,rfl,rfl⟩,by simp only[aJ];omega⟩
 · have hge:=geB hk hge
   subst hge;simp only[go_sem,e0,e4,e3];exact .refl _
def jK(s i:Nat):Bool:=s/2^i%2 == 1
theorem xH(s i:Nat)(hs:s<2^63)(hi:i≤1048576):PC Tryz.prog 41 [int (s:Nat),int (i:Nat)] (boo (jK s i)):=by
 refine PC.body (c:=Tryz.f41.body.getD .skip) (fun _=>false) mixed Tryz.func41 rfl (by kernel_rfl) ?_;unfold Tryz.f41;simp only[Option.getD_some];simp only[go_sem];refine⟨fun ρ H=>∃(k:Nat),k≤i∧ρ 1=int (i:Nat)∧ρ 5=int k∧ρ 0=int (s/2^k:Nat),fun ρ _=>i-bE (ρ 5),⟨0,Nat.zero_le _,by simp only[go_sem],(by simp only[go_sem];rfl),by simp only[go_sem,Nat.pow_zero,Nat.div_one]⟩,?_⟩;rintro ρ H ⟨k,hk,e1,e5,e0⟩;simp only[go_sem,e1,e5,e0];refine aB (fun hlt=>?_) (fun hge=>?_)
 · have hlt:=ltB hlt
   have hd:(s/2^k:Nat)≤s:=Nat.div_le_self _ _;have w1:IntKind.i64.wrap (Int.tdiv ((s/2^k:Nat):Int) 2)=((s/2^(k+1):Nat):Int):=by
     have e1:Int.tdiv ((s/2^k:Nat):Int) 2=((s/2^k/2:Nat):Int):=rfl;rw[e1,Nat.div_div_eq_div_mul,←Nat.pow_succ];have:s/2^k.succ≤s:=Nat.div_le_self _ _;show IntKind.i64.wrap ((s/2^k.succ:Nat):Int)=((s/2^k.succ:Nat):Int);generalize s/2^k.succ=z at *;exact aQ (by omega)
   simp only[go_sem,e1,e5,e0,w1,bA (show k≤4611686018427387904 by omega)];exact⟨by decide,⟨k+1,hlt,rfl,rfl⟩,by simp only[aJ];omega⟩
 · have hge:=geB hk hge
   subst hge;simp only[go_sem,e1,e5,e0];refine⟨by decide,fF ?_⟩;unfold jK;have e1:Int.tmod ((s/2^k:Nat):Int) 2=((s/2^k%2:Nat):Int):=rfl;rw[e1,Bool.eq_iff_iff];simp only[beq_iff_eq];omega
def qF(near:List Int)(i:Nat):Bool:=decide (near.getD i 0<0)||decide (near.getD i 0≥((2^near.length:Nat):Int))|| !jK (near.getD i 0).toNat i
def kZ(x:Instance)(near:List Int):Bool:= !((near.length:Int) != (x.orders.length:Int))&&(List.range near.length).all fun i=> !qF near i
theorem Um(x:Instance)(near:List Int)(hx:x.orders.length≤62)(hnl:near.length≤1048576):PC Tryz.prog 14 [.agg (aS x),.sl (near.map aO)] (boo (kZ x near)):=by
 have eL:kZ x near=(!((near.length:Int) != (x.orders.length:Int))&&(List.range near.length).all fun i=> !qF near i):=rfl;generalize kZ x near=R at eL;refine PC.body (c:=Tryz.f14.body.getD .skip) (fun _=>false) mixed Tryz.func14 rfl (by kernel_rfl) ?_;unfold Tryz.f14;simp only[Option.getD_some];simp only[go_sem];refine aB (fun hb=>?_) (fun hb=>?_)
 · rw[hb]at eL
   subst eL;simp only[go_sem];exact .refl _
 rw[hb,Bool.not_false,Bool.true_and]at eL;have hl:near.length=x.orders.length:=by simp at hb;omega
 simp only[go_sem];refine⟨fun ρ H=>∃(k:Nat),k≤near.length∧ρ 1=.sl (near.map aO)∧ρ 5=int k∧(∀i,i<k→qF near i=false),fun ρ _=>near.length-bE (ρ 5),⟨0,Nat.zero_le _,by simp only[go_sem],(by simp only[go_sem];rfl),by intro i hi;omega⟩,?_⟩;rintro ρ H ⟨k,hk,e1,e5,hz⟩;simp only[go_sem,e1,e5];refine aB (fun hlt=>?_) (fun hge=>?_)
 · have hlt:=ltB (by simpa using hlt)
   obtain⟨v,hv⟩:=aU hlt;have b1:=inB hlt;have hgv:near.getD k 0=v:=by rw[List.getD,hv];rfl
   have hlb:qF near k=(decide (v<0)||decide (v≥((2^near.length:Nat):Int))|| !jK v.toNat k):=by unfold qF;rw[hgv]
   have hp2:2^near.length≤2^62:=Nat.pow_le_pow_right (by decide) (by omega);simp only[go_sem,e1,e5];refine jF [(0,true),(1,true),(2,true),(3,true),(4,true),(5,true),(6,true),(7,true),(8,true),(9,true),(10,true),(11,true),(12,true),(13,true),(14,true),(15,true),(16,true),(17,true),(18,true),(19,true),(20,true),(21,true),(22,true),(23,true)] (by kernel_rfl) ?_;simp only[go_sem,e1,e5,aH hv,b1,List.length_map];refine⟨_,fun _=>PC.q (FU near.length (by omega)) rfl,?_⟩;simp only[go_sem,e1,e5,aH hv,b1,List.length_map];refine⟨boo (jK v.toNat k),fun hg=>?_,?_⟩
   · rw[Bool.or_eq_false_iff]at hg
     have g1:=of_decide_eq_false hg.1;have g2:=of_decide_eq_false hg.2;obtain⟨n,rfl⟩:∃n:Nat,v=(n:Nat):=⟨v.toNat,by omega⟩;rw[Int.toNat_natCast];exact PC.q (xH n k (by omega) (by omega)) rfl
   simp only[go_sem,e1,e5];refine aB (fun hb=>?_) (fun hb=>?_)
   · have : ((List.range near.length).all fun i => !qF near i) = false := by
       rw[Bool.eq_false_iff];intro h;have:=List.all_eq_true.1 h k (List.mem_range.2 hlt);rw[hlb,hb]at this;cases this
     rw[this]at eL;subst eL;simp only[go_sem];exact .refl _
   · simp only[go_sem,e1,e5,bA (show k≤4611686018427387904 by omega)]
     refine⟨⟨k+1,hlt,rfl,fun i hi=>?_⟩,by simp only[aJ];omega⟩;by_cases e:i=k
     · subst e;rw[hlb];exact hb
     · exact hz i (by omega)
 have hge:=geB hk (by simpa using hge);subst hge;rw[List.all_eq_true.2 (fun i hi=>by rw[hz i (List.mem_range.1 hi)];rfl)]at eL;subst eL;simp only[go_sem];exact .refl _
def Nb(near:List Int)(m o:Nat)(s i:Nat):Nat:=if(i == o||(jK m i&&jK (near.getD o 0).toNat i))=true then s+2^i else s
def pW(near:List Int)(m o k:Nat):Nat:=(List.range k).foldl (Nb near m o) 0
theorem zP(near:List Int)(m o k:Nat):pW near m o (k+1)=Nb near m o (pW near m o k) k:=by
 unfold pW;rw[List.range_succ,List.foldl_append];rfl
theorem wX(near:List Int)(m o:Nat):∀k,pW near m o k<2^k
 | 0=>by show 0<1;decide
 | k+1=>by
   have:=wX near m o k;rw[zP,Nat.pow_succ];unfold Nb;split <;> omega
theorem Wu(near:List Int)(m o:Nat)(h:NearB near)(ho:o<near.length)(hm:m<2^62):PC Tryz.prog 16 [.sl (near.map aO),int (m:Nat),int (o:Nat)] (int (pW near m o near.length:Nat)):=by
 obtain⟨vo,hvo⟩:=aU ho;have bo:=inB ho;have hl:=h.len;have hn:=h.num vo (List.mem_of_getElem? hvo);obtain⟨N,rfl⟩:=Int.eq_ofNat_of_zero_le hn.1;have hgo:(near.getD o 0).toNat=N:=by rw[List.getD,hvo];rfl
 refine PC.body (c:=Tryz.f16.body.getD .skip) (fun _=>false) mixed Tryz.func16 rfl (by kernel_rfl) ?_;unfold Tryz.f16;simp only[Option.getD_some];simp only[go_sem];refine⟨fun ρ H=>∃(k:Nat),k≤near.length∧ρ 0=.sl (near.map aO)∧ρ 1=int (m:Nat)∧ρ 2=int (o:Nat)∧ρ 8=int k∧ρ 7=int (pW near m o k:Nat),fun ρ _=>near.length-bE (ρ 8),⟨0,Nat.zero_le _,by simp only[go_sem],by simp only[go_sem],by simp only[go_sem],(by simp only[go_sem];rfl),by simp only[go_sem];rfl⟩,?_⟩;rintro ρ H ⟨k,hk,e0,e1,e2,e8,e7⟩;simp only[go_sem,e0,e1,e2,e8,e7];refine aB (fun hlt=>?_) (fun hge=>?_)
 · have hlt:=ltB (by simpa using hlt)
   have hs:=zP near m o k;have hlt2:=wX near m o k;have hp:(2:Nat)^k≤2^61:=Nat.pow_le_pow_right (by decide) (by omega);unfold Nb at hs;rw[hgo]at hs;generalize pW near m o k=S at *;simp only[go_sem,e0,e1,e2,e8,e7];refine⟨_,fun _=>PC.q (xH m k (by omega) (by omega)) rfl,?_⟩;simp only[go_sem,e0,e1,e2,e8,e7,aH hvo,bo];refine⟨_,fun _=>PC.q (xH N k (by omega) (by omega)) rfl,?_⟩;simp only[go_sem,e0,e1,e2,e8,e7];have hbe:(((k:Nat):Int) == ((o:Nat):Int))=(k == o):=by rw[Bool.eq_iff_iff];simp only[beq_iff_eq];omega
   rw[hbe];refine aB (fun hb=>?_) (fun hb=>?_)
   · rw[if_pos hb]at hs
     simp only[go_sem,e0,e1,e2,e8,e7];refine PC.use (FU k (by omega)) ?_;have w1:IntKind.i64.wrap (((S:Nat):Int)+((2^k:Nat):Int))=((S+2^k:Nat):Int):=by rw[aQ (by omega)];rfl
     simp only[go_sem,e0,e1,e2,e8,e7,w1,bA (show k≤4611686018427387904 by omega)];exact⟨⟨k+1,hlt,rfl,by rw[hs]⟩,by simp only[aJ];omega⟩
   · rw[if_neg (fun h=>Bool.noConfusion (hb.symm.trans h))]at hs
     simp only[go_sem,e0,e1,e2,e8,e7,bA (show k≤4611686018427387904 by omega)];exact⟨⟨k+1,hlt,rfl,by rw[hs]⟩,by simp only[aJ];omega⟩
 have hge:=geB hk (by simpa using hge);subst hge;simp only[go_sem,e0,e1,e2,e8,e7];exact .refl _
end Go.Proofs.YtdlijlecpopadaaGreatDoor.Rx
end

section
set_option linter.unusedSimpArgs false
set_option linter.unusedVariables false
namespace Go.Proofs.YtdlijlecpopadaaGreatDoor.Rx
open Go.Aw Go.Aw.D Go.Proofs Ty Go.Nu Go.So
open Sq (W jX eK kE NetOk dM)
open Nu (ltB geB)
open Mv (gC fF kJ NC.pc bQ)
set_option maxRecDepth 100000
structure Mom where
 time:Int
 driven:Int
structure RP where
 place:Int
 visits:Nat
 miles:Int
 moms:List Mom
 memory:Nat
 board:Nat
 load:List Int
 moved:Int
 other:Int
 dual:ByteArray
structure Rs where
 x:Instance
 t:VType
 kind:Nat
 near:List Int
 dual:List ByteArray
 most:Nat
 count:Int
 limited:Bool
 found:Bool
 least:ByteArray
def kB(m:Mom):List AV:=[int m.time,int m.driven]
theorem Et(c:Mom):(kB c).length=2:=(rfl)
theorem Uz(c:Mom):(kB c).getD 0 .any=int c.time:=(rfl)
theorem TL(c:Mom):(kB c).getD 1 .any=int c.driven:=(rfl)
theorem Mn(c:Mom):(kB c).take 2=kB c:=(rfl)
def jN(p:RP):List AV:=[int p.place,int (p.visits:Nat),int p.miles,.sl (p.moms.map kB),int (p.memory:Nat),int (p.board:Nat),.sl (p.load.map aO),int p.moved,int p.other,str p.dual]
section
variable(p:RP)
theorem dL:(jN p).length=10:=(rfl)
theorem WN:(jN p).getD 0 .any=int p.place:=(rfl)
theorem Wn:(jN p).getD 1 .any=int (p.visits:Nat):=(rfl)
theorem Xw:(jN p).getD 2 .any=int p.miles:=(rfl)
theorem X2:(jN p).getD 3 .any=.sl (p.moms.map kB):=(rfl)
theorem Xz:(jN p).getD 4 .any=int (p.memory:Nat):=(rfl)
theorem Xk:(jN p).getD 5 .any=int (p.board:Nat):=(rfl)
theorem WV:(jN p).getD 6 .any=.sl (p.load.map aO):=(rfl)
theorem YB:(jN p).getD 7 .any=int p.moved:=(rfl)
theorem Xv:(jN p).getD 8 .any=int p.other:=(rfl)
theorem Wr:(jN p).getD 9 .any=str p.dual:=(rfl)
theorem QD:(jN p).take 10=jN p:=(rfl)
end
def iY(w:Rs):List AV:=aS w.x++(bC w.t++[int (w.kind:Nat),.sl (w.near.map aO),.sl (w.dual.map Go.Aw.D.eH),int (w.most:Nat),int w.count,boo w.limited,boo w.found,str w.least])
section
variable(w:Rs)
theorem oR:(iY w).length=28:=(rfl)
theorem YG:(iY w).getD 3 .any=.sl (w.x.orders.map aV):=(rfl)
theorem YA:(iY w).getD 8 .any=int w.t.src:=(rfl)
theorem WH:(iY w).getD 9 .any=int w.t.dst:=(rfl)
theorem Tj:(iY w).getD 10 .any=.sl (w.t.cap.map aO):=(rfl)
theorem Vk:(iY w).getD 12 .any=int w.t.profile:=(rfl)
theorem VP:(iY w).getD 13 .any=int w.t.start:=(rfl)
theorem Sn:(iY w).getD 14 .any=int w.t.close:=(rfl)
theorem Tl:(iY w).getD 15 .any=int w.t.drive:=(rfl)
theorem Tp:(iY w).getD 16 .any=int w.t.rest:=(rfl)
theorem UP:(iY w).getD 17 .any=int w.t.fixed:=(rfl)
theorem Tx:(iY w).getD 18 .any=int w.t.perMile:=(rfl)
theorem ST:(iY w).getD 19 .any=int w.t.perTick:=(rfl)
theorem Uj:(iY w).getD 20 .any=int (w.kind:Nat):=(rfl)
theorem U1:(iY w).getD 21 .any=.sl (w.near.map aO):=(rfl)
theorem RW:(iY w).getD 22 .any=.sl (w.dual.map Go.Aw.D.eH):=(rfl)
theorem Vt:(iY w).getD 23 .any=int (w.most:Nat):=(rfl)
theorem Tr:(iY w).getD 24 .any=int w.count:=(rfl)
theorem S4:(iY w).getD 25 .any=boo w.limited:=(rfl)
theorem U3:(iY w).getD 26 .any=boo w.found:=(rfl)
theorem RY:(iY w).getD 27 .any=str w.least:=(rfl)
theorem Qr:(iY w).take 2=aT w.x.net:=(rfl)
theorem XA:(iY w).take 6=aS w.x:=(rfl)
theorem Wx:((iY w).drop 6).take 14=bC w.t:=(rfl)
theorem RA:(iY w).take 28=iY w:=(rfl)
end
attribute [go_sem] Et Uz TL Mn dL WN Wn Xw X2 Xz Xk WV YB Xv Wr QD oR YG YA WH Tj Vk VP Sn Tl Tp UP Tx ST Uj U1 RW Vt Tr S4 U3 RY Qr XA Wx RA
abbrev gR(w:Rs):Row:=⟨108,28,[iY w]⟩
abbrev mB(p:RP):Row:=⟨177,10,[jN p]⟩
abbrev Z1(c:Mom):Row:=⟨175,2,[kB c]⟩
abbrev mP(l:List Mom):Row:=⟨175,2,l.map kB⟩
def Pd(t:VType)(m:Mom):Mom:=⟨W (m.time+t.rest),0⟩
def cO(t:VType)(l:List Mom):List Mom:=l.flatMap fun m=>[m,Pd t m]
def BM(n:Network)(t:VType)(place goal close:Int)(s:List Mom×Int)(m:Mom):List Mom×Int:=
 (if(((dM n t.profile place goal m.time).2.2 == 0&&decide ((dM n t.profile place goal m.time).1≤close))&&decide (W (W (m.driven+(dM n t.profile place goal m.time).1)-m.time)≤t.drive))=true
  then s.1++[⟨(dM n t.profile place goal m.time).1,W (W (m.driven+(dM n t.profile place goal m.time).1)-m.time)⟩]else s.1,(dM n t.profile place goal m.time).2.1)
def fT(n:Network)(t:VType)(place goal close:Int)(l:List Mom):List Mom×Int:=l.foldl (BM n t place goal close) ([],0)
def cP(a b:List Int)(sg:Int):List Int:=List.zipWith (fun x y=>W (x+W (sg*y))) a b
def lY(a c:List Int):Bool:=(List.range a.length).all fun i=> !decide (a.getD i 0>c.getD i 0)
theorem L1(t:VType){l:List Mom}{k:Nat}{m:Mom}(h:l[k]?=some m):cO t (l.take (k+1))=(cO t (l.take k)++[m])++[Pd t m]:=by
 unfold cO;rw[cL h,List.flatMap_append];simp
theorem yZ(t:VType)(l:List Mom):(cO t l).length=2*l.length:=by
 unfold cO;induction l with
 | nil=>rfl
 | cons a l ih=>simp only[List.flatMap_cons,List.length_append,ih,List.length_cons,List.length_nil];omega
theorem Ax(l:List Mom)(a:Mom):(⟨175,2,l.map kB++[kB a]⟩:Row)=mP (l++[a]):=by
 show _=(⟨175,2,(l++[a]).map kB⟩:Row);rw[List.map_append];rfl
theorem AJ(t:VType)(l:List Mom)(hl:l.length≤524288):PC Tryz.prog 108 [.agg (bC t),.sl (l.map kB)] (.sl ((cO t l).map kB)):=by
 refine PC.body (c:=Tryz.f108.body.getD .skip) (fun t=>t == 5) mixed Tryz.func108 rfl (by kernel_rfl) ?_;unfold Tryz.f108;simp only[Option.getD_some];simp only[go_sem];refine aL fun j hj0=>?_
 generalize hGj:aI _ j _=HGj;have R:HGj j=some (mP []):=by rw[←hGj,aA];try rfl
 clear hGj hj0;simp only[go_sem,R];refine⟨fun ρ H=>∃(k:Nat) (j:Nat),k≤l.length∧ρ 1=.sl (l.map kB)∧ρ 2=.rp (bC t) 0∧ρ 6=int k∧ρ 5=.os j∧H j=some (mP (cO t (l.take k))),fun ρ _=>l.length-bE (ρ 6),⟨0,j,Nat.zero_le _,by simp only[go_sem],by simp only[go_sem],(by simp only[go_sem];rfl),by simp only[go_sem],R⟩,?_⟩;rintro ρ H ⟨k,j,hk,e1,e2,e6,e5,R⟩;simp only[go_sem,e1,e2,e6,e5];refine aB (fun hlt=>?_) (fun hge=>?_)
 · have hlt:=ltB (by simpa using hlt)
   obtain⟨m,hm⟩:=aU hlt;have b1:=inB hlt;have hs:=L1 t hm;have hln:(cO t (l.take k)).length≤1048574:=by rw[yZ,List.length_take];omega
   generalize cO t (l.take k)=L at *;simp only[go_sem,e1,e2,e6,e5,aH hm,b1];refine aX R ⟨rfl,rfl⟩ (by simp only[go_sem]) (by simp only[List.length_map,List.length_cons,List.length_nil];omega) (fun j1 hj10=>?_);generalize hP:aI (aI _ j none) j1 _=HP;have R1:HP j1=some (mP (L++[m])):=by rw[←hP,aA];exact congrArg some (Ax _ _)
   clear hP hj10;simp only[go_sem,e1,e2,e6,e5,R1];refine jF [(0,true),(1,true),(2,true),(3,true),(4,true),(5,true),(6,true),(7,true),(8,true),(9,true),(10,false),(11,false),(12,true)] (by kernel_rfl) ?_;simp only[go_sem,e1,e2,e6,e5,aH hm,b1,R1];refine aX R1 ⟨rfl,rfl⟩ (by simp only[go_sem]) (by simp only[List.length_map,List.length_append,List.length_cons,List.length_nil];omega) (fun j2 hj2=>?_);simp only[go_sem,e1,e2,e6,e5,bA (show k≤4611686018427387904 by omega)];refine⟨⟨k+1,j2,hlt,rfl,rfl,?_⟩,by simp only[aJ];omega⟩;rw[hs,aA];exact congrArg some (Ax (L++[m]) (Pd t m))
 have hge:=geB hk (by simpa using hge);subst hge;rw[List.take_length]at R;simp only[go_sem,e1,e2,e6,e5];exact .row _ _ _ R (ConvE.refl _)
theorem Qj{α β γ:Type}(f:α→β→γ){a:List α}{b:List β}{k:Nat}{x:α}{y:β}(ha:a[k]?=some x)(hb:b[k]?=some y):List.zipWith f (a.take (k+1)) (b.take (k+1))=List.zipWith f (a.take k) (b.take k)++[f x y]:=by
 have h1:=(List.getElem?_eq_some_iff.1 ha).1;have h2:=(List.getElem?_eq_some_iff.1 hb).1;rw[cL ha,cL hb,List.zipWith_append (by rw[List.length_take,List.length_take];omega)];rfl
theorem Fv(a b:List Int)(sg:Int)(hl:a.length≤1048576)(hab:a.length=b.length):PC Tryz.prog 206 [.sl (a.map aO),.sl (b.map aO),int sg] (.sl ((cP a b sg).map aO)):=by
 refine PC.body (c:=Tryz.f206.body.getD .skip) (fun t=>t == 7) mixed Tryz.func206 rfl (by kernel_rfl) ?_;unfold Tryz.f206;simp only[Option.getD_some];simp only[go_sem];refine aL fun j hj0=>?_
 generalize hGj:aI _ j _=HGj;have R:HGj j=some (kR []):=by rw[←hGj,aA];try rfl
 clear hGj hj0;simp only[go_sem,R];refine⟨fun ρ H=>∃(k:Nat) (j:Nat),k≤a.length∧ρ 0=.sl (a.map aO)∧ρ 1=.sl (b.map aO)∧ρ 2=int sg∧ρ 8=int k∧ρ 7=.os j∧H j=some (kR (List.zipWith (fun x y=>W (x+W (sg*y))) (a.take k) (b.take k))),fun ρ _=>a.length-bE (ρ 8),⟨0,j,Nat.zero_le _,by simp only[go_sem],by simp only[go_sem],by simp only[go_sem],(by simp only[go_sem];rfl),by simp only[go_sem],R⟩,?_⟩;rintro ρ H ⟨k,j,hk,e0,e1,e2,e8,e7,R⟩;simp only[go_sem,e0,e1,e2,e8,e7];refine aB (fun hlt=>?_) (fun hge=>?_)
 · have hlt:=ltB (by simpa using hlt)
   obtain⟨u,hu⟩:=aU hlt;obtain⟨v,hv⟩:=aU (l:=b) (k:=k) (by omega);have b1:=inB hlt;have b2:=inB (show k<b.length by omega);have hs:=Qj (fun x y=>W (x+W (sg*y))) hu hv;have hln:(List.zipWith (fun x y=>W (x+W (sg*y))) (a.take k) (b.take k)).length≤k:=by rw[List.length_zipWith,List.length_take];omega
   generalize List.zipWith (fun x y=>W (x+W (sg*y))) (a.take k) (b.take k)=L at *;simp only[go_sem,e0,e1,e2,e8,e7];refine jF [(0,true),(1,true),(2,true),(3,true),(4,true),(5,true),(6,true),(7,true),(8,true),(9,true),(10,true),(11,true),(12,false),(13,false),(14,true)] (by kernel_rfl) ?_;simp only[go_sem,e0,e1,e2,e8,e7,aH hu,aH hv,b1,b2];refine aX R ⟨rfl,rfl⟩ (by simp only[go_sem]) (by simp only[List.length_map,List.length_cons,List.length_nil];omega) (fun j2 hj2=>?_);simp only[go_sem,e0,e1,e2,e8,e7,bA (show k≤4611686018427387904 by omega)];refine⟨⟨k+1,j2,hlt,rfl,rfl,?_⟩,by simp only[aJ];omega⟩;rw[hs,aA];refine congrArg (fun l=>some (⟨3,1,l⟩:Row)) ?_;rw[List.map_append];rfl
 have hge:=geB hk (by simpa using hge);subst hge;rw[List.take_length,List.take_of_length_le (by omega)]at R;simp only[go_sem,e0,e1,e2,e8,e7];exact .row _ _ _ R (ConvE.refl _)
theorem Wt(a c:List Int)(hl:a.length≤1048576)(hac:a.length=c.length):PC Tryz.prog 207 [.sl (a.map aO),.sl (c.map aO)] (boo (lY a c)):=by
 refine PC.body (c:=Tryz.f207.body.getD .skip) (fun _=>false) mixed Tryz.func207 rfl (by kernel_rfl) ?_;unfold Tryz.f207;simp only[Option.getD_some];simp only[go_sem];refine⟨fun ρ H=>∃(k:Nat),k≤a.length∧ρ 0=.sl (a.map aO)∧ρ 1=.sl (c.map aO)∧ρ 5=int k∧(∀i,i<k→decide (a.getD i 0>c.getD i 0)=false),fun ρ _=>a.length-bE (ρ 5),⟨0,Nat.zero_le _,by simp only[go_sem],by simp only[go_sem],(by simp only[go_sem];rfl),by intro i hi;omega⟩,?_⟩;rintro ρ H ⟨k,hk,e0,e1,e5,hz⟩;simp only[go_sem,e0,e1,e5];refine aB (fun hlt=>?_) (fun hge=>?_)
 · have hlt:=ltB (by simpa using hlt)
   obtain⟨u,hu⟩:=aU hlt;obtain⟨v,hv⟩:=aU (l:=c) (k:=k) (by omega);have b1:=inB hlt;have b2:=inB (show k<c.length by omega);have hgu:a.getD k 0=u:=by rw[List.getD,hu];rfl
   have hgv:c.getD k 0=v:=by rw[List.getD,hv];rfl
   simp only[go_sem,e0,e1,e5];refine jF [(0,true),(1,true),(2,true),(3,true),(4,true),(5,true),(6,true),(7,true),(8,true)] (by kernel_rfl) ?_;simp only[go_sem,e0,e1,e5,aH hu,aH hv,b1,b2];refine aB (fun hb=>?_) (fun hb=>?_)
   · have : lY a c = false := by
       rw[Bool.eq_false_iff];intro h;have:=List.all_eq_true.1 h k (List.mem_range.2 hlt);rw[hgu,hgv,hb]at this;cases this
     rw[this];simp only[go_sem];exact .refl _
   · simp only[go_sem,e0,e1,e5,bA (show k≤4611686018427387904 by omega)]
     refine⟨⟨k+1,hlt,rfl,fun i hi=>?_⟩,by simp only[aJ];omega⟩;by_cases e:i=k
     · subst e;rw[hgu,hgv];exact hb
     · exact hz i (by omega)
 have hge:=geB hk (by simpa using hge);subst hge;have:lY a c=true:=List.all_eq_true.2 fun i hi=>by rw[hz i (List.mem_range.1 hi)];rfl
 rw[this];simp only[go_sem];exact .refl _
theorem SO(n:Network)(t:VType)(place goal close:Int)(s:List Mom×Int)(m:Mom):(BM n t place goal close s m).1.length≤s.1.length+1:=by
 unfold BM;simp only;split
 · simp
 · omega
theorem Ar(n:Network)(t:VType)(place goal close:Int)(l:List Mom):∀k,((l.take k).foldl (BM n t place goal close) ([],0)).1.length≤k
 | 0=>by simp
 | k+1=>by
   have h:=Ar n t place goal close l k;by_cases hk:k<l.length
   · obtain⟨c,hc⟩:=aU hk
     rw[Sq.fY hc];exact Nat.le_trans (SO n t place goal close _ c) (by omega)
   · rw[List.take_of_length_le (by omega)]
     rw[List.take_of_length_le (by omega)]at h;omega
theorem Eh(H0 : aG)(js : Nat)(w : Rs)(hj : H0 js = some (gR w))(p : RP)(goal close : Int)(hn : Sq.NetB w.x.net)(hl : p.moms.length ≤ 1048576):
   LC Tryz.prog 202 [.op js 0 0,.agg (jN p),int goal,int close] H0 (.tup [.sl ((fT w.x.net w.t p.place goal close p.moms).1.map kB),int (fT w.x.net w.t p.place goal close p.moms).2]):=by
 refine LC.body (c:=Tryz.f202.body.getD .skip) (fun t=>t == 10) mixed Tryz.func202 rfl (by kernel_rfl) ?_;unfold Tryz.f202;simp only[Option.getD_some];simp only[go_sem];have U:=Sup.refl H0;refine aL fun j hj0=>?_
 have n_j:=U.none hj0;generalize hGj:aI _ j _=HGj;replace U:=Sup.eq (U.upd n_j _) hGj;have R:HGj j=some (mP []):=by rw[←hGj,aA];try rfl
 clear hGj hj0;simp only[go_sem,R];refine⟨fun ρ H=>∃(k:Nat) (j:Nat),k≤p.moms.length∧ρ 0=.op js 0 0∧ρ 2=int goal∧ρ 3=int close∧ρ 5=.rp (jN p) 0∧ρ 12=int k∧ρ 10=.os j∧ρ 11=int ((p.moms.take k).foldl (BM w.x.net w.t p.place goal close) ([],0)).2∧Sup H0 H∧H0 j=none∧H j=some (mP ((p.moms.take k).foldl (BM w.x.net w.t p.place goal close) ([],0)).1),fun ρ _=>p.moms.length-bE (ρ 12),⟨0,j,Nat.zero_le _,by simp only[go_sem],by simp only[go_sem],by simp only[go_sem],by simp only[go_sem],(by simp only[go_sem];rfl),by simp only[go_sem],by simp only[go_sem];rfl,U,n_j,R⟩,?_⟩;rintro ρ H ⟨k,j,hk,e0,e2,e3,e5,e12,e10,e11,U,nj,R⟩;simp only[go_sem,e0,e2,e3,e5,e12,e10,e11];refine aB (fun hlt=>?_) (fun hge=>?_)
 · have hlt:=ltB (by simpa using hlt)
   obtain⟨m,hm⟩:=aU hlt;have b1:=inB hlt;have hs:=Sq.fY (f:=BM w.x.net w.t p.place goal close) (b:=(([],0):List Mom×Int)) hm;have hlen:=Ar w.x.net w.t p.place goal close p.moms k;generalize (p.moms.take k).foldl (BM w.x.net w.t p.place goal close) ([],0)=s at *;simp only[go_sem,e0,e2,e3,e5,e12,e10,e11,aH hm,b1];refine aL fun i13 hi130=>?_
   have ne_j_i13:j≠i13:=aN R hi130;simp only[go_sem,e0,e2,e3,e5,e12,e10,e11,R];refine aP (aA _ _ _) (by simp[Et]) ?_;have n_i13:=U.none hi130;generalize hGi13:aI (aI _ i13 _) i13 _=HGi13;replace U:=Sup.eq ((U.upd n_i13 _).upd n_i13 _) hGi13;replace R:=(congrFun hGi13.symm j).trans ((aC _ _ _ _ ne_j_i13).trans ((aC _ _ _ _ ne_j_i13).trans R));have R13:HGi13 i13=some (Z1 m):=by rw[←hGi13,aA];try rfl
   clear hGi13 hi130;simp only[go_sem,e0,e2,e3,e5,e12,e10,e11,R13,R];have hjw:=U.at hj;have ne:js≠i13:=Sup.ne (Sup.refl H0) hj n_i13;refine dH [js,i13] [(0,true),(1,true),(2,true),(3,true),(4,true),(5,true),(6,true),(7,true),(8,true),(9,true),(10,true),(11,true),(12,true),(13,true),(14,true),(15,false),(16,true),(17,true),(18,true),(19,true),(20,true),(21,true),(22,true)] (by simp[hjw,R13]) (by kernel_rfl) fun Hp Hr hp hr _ hr0=>?_
   have P_hjw:=(hp js (by simp)).trans hjw;have P_R13:=(hp i13 (by simp)).trans R13;simp only[go_sem,e0,e2,e3,e5,e12,e10,e11,P_hjw,P_R13];refine PC.use (Sq.aaA w.x.net w.t.profile p.place goal m.time (hn)) ?_;simp only[go_sem,e0,e2,e3,e5,e12,e10,e11,P_hjw,P_R13];refine dV hr ?_;simp only[go_sem,e0,e2,e3,e5,e12,e10,e11,R13,hjw];refine dH [js,i13] [(0,true),(1,true),(2,true),(3,true),(4,true),(5,true),(6,true),(7,true),(8,true),(9,true),(10,true),(11,true),(12,true),(13,true),(14,true),(15,true),(16,true),(17,true),(18,true),(19,true),(20,true),(21,true)] (by simp[hjw,R13]) (by kernel_rfl) fun Hp Hr hp hr _ hr0=>?_
   have P_hjw:=(hp js (by simp)).trans hjw;have P_R13:=(hp i13 (by simp)).trans R13;simp only[go_sem,e0,e2,e3,e5,e12,e10,e11,P_hjw,P_R13];refine dV hr ?_;simp only[go_sem,e0,e2,e3,e5,e12,e10,e11,R13];have ha : BM w.x.net w.t p.place goal close s m = (if (((dM w.x.net w.t.profile p.place goal m.time).2.2 == 0 && decide ((dM w.x.net w.t.profile p.place goal m.time).1 ≤ close)) && decide (W (W (m.driven + (dM w.x.net w.t.profile p.place goal m.time).1) - m.time) ≤ w.t.drive)) = true
      then s.1++[⟨(dM w.x.net w.t.profile p.place goal m.time).1,W (W (m.driven+(dM w.x.net w.t.profile p.place goal m.time).1)-m.time)⟩]else s.1,(dM w.x.net w.t.profile p.place goal m.time).2.1):=rfl
   rw[ha]at hs;clear ha;generalize dM w.x.net w.t.profile p.place goal m.time=g at *;refine dW (fun ρ' H'=>∃(j':Nat),ρ' 0=ρ 0∧ρ' 2=ρ 2∧ρ' 3=ρ 3∧ρ' 5=ρ 5∧ρ' 12=ρ 12∧ρ' 10=.os j'∧ρ' 11=int g.2.1∧H' j'=some (mP (if((g.2.2 == 0&&decide (g.1≤close))&&decide (W (W (m.driven+g.1)-m.time)≤w.t.drive))=true then s.1++[⟨g.1,W (W (m.driven+g.1)-m.time)⟩]else s.1))∧Sup H0 H'∧H0 j'=none) ?_ fun K hK hKe hKr=>aB (fun hb=>?_) (fun hb=>?_)
   rotate_left
   · have hb2:((g.2.2 == 0&&decide (g.1≤close))&&decide (W (W (m.driven+g.1)-m.time)≤w.t.drive))=true:=hb
     rw[if_pos hb2]at hK;simp only[go_sem,e0,e2,e3,e5,e12,e10,e11,R13];refine aX R ⟨rfl,rfl⟩ (by simp only[go_sem]) (by simp only[List.length_map,List.length_cons,List.length_nil];omega) (fun j' hj'=>?_);simp only[go_sem,e0,e2,e3,e5,e12,e10,e11];refine hK _ _ ⟨j',by simp only[go_sem],by simp only[go_sem],by simp only[go_sem],by simp only[go_sem],by simp only[go_sem],by simp only[go_sem],by simp only[go_sem],(aA _ _ _).trans (congrArg some (Ax s.1 ⟨g.1,W (W (m.driven+g.1)-m.time)⟩)),(U.upd nj _).upd (U.none hj') _,U.none hj'⟩
   · have hb2:((g.2.2 == 0&&decide (g.1≤close))&&decide (W (W (m.driven+g.1)-m.time)≤w.t.drive))=false:=hb
     rw[if_neg (fun h=>Bool.noConfusion (hb2.symm.trans h))]at hK;refine hK _ _ ⟨j,by simp only[go_sem],by simp only[go_sem],by simp only[go_sem],by simp only[go_sem],by simp only[go_sem],by simp only[go_sem,e10],by simp only[go_sem],R,U,nj⟩
   rintro ρ H ⟨j',k0,k2,k3,k5,k12,e10,e11,R,U,nj⟩;replace e0:=k0.trans e0;clear k0;replace e2:=k2.trans e2;clear k2;replace e3:=k3.trans e3;clear k3;replace e5:=k5.trans e5;clear k5;replace e12:=k12.trans e12;clear k12;simp only[go_sem,e0,e2,e3,e5,e12,e10,e11,bA (show k≤4611686018427387904 by omega)];refine⟨⟨k+1,j',hlt,rfl,rfl,?_⟩,by simp only[aJ];omega⟩;rw[hs];exact⟨rfl,U,nj,R⟩
 have hge:=geB hk (by simpa using hge);subst hge;rw[List.take_length]at e11 R;simp only[go_sem,e0,e2,e3,e5,e12,e10,e11];exact⟨U,[j],by simpa using nj,.tup _ _ (.cons _ _ _ _ (.row _ _ _ (by simp;exact R) (ConvE.refl _)) (.cons _ _ _ _ (.refl _) .nil))⟩
end Go.Proofs.YtdlijlecpopadaaGreatDoor.Rx
end

section
set_option linter.unusedSimpArgs false
set_option linter.unusedVariables false
namespace Go.Aw
open Go.RowKit
section
variable{P:Program}{f:FuncId}{args:List AV}{H H1:aG}{K:AV→aG→Prop}{r:AV}
def MC(P:Program)(f:FuncId)(args:List AV)(H H1:aG)(r:AV):Prop:=∀K:AV→aG→Prop,K r H1→bI P f args H K
theorem MC.use(h:MC P f args H H1 r)(hK:K r H1):bI P f args H K:=h K hK
theorem bI.dataM(hs:∀k,H k=none→H1 k=none)(h:bI P f args H (mD H1 r))(hK:K r H1):bI P f args H K:=by
 intro S w vals hS ha;refine(h S w vals hS ha).mono fun e w' ⟨v,x,H',S',he,⟨hm,l,hl,hc⟩,hS',hv,hg,hn⟩=>?_
 obtain⟨h1,h2,h3⟩:=hS'.frz l;refine⟨v,r,H1,S'.froze _,he,hK,h1.drop (fun k row hk=>?_),hc.rep h3 hv,hg.trans h2,fun k _ h0=>hs k h0⟩;have hkl:¬k∈l:=fun hkl=>by rw[hl k hkl]at hk;cases hk
 show(if k∈l then none else H' k)=some row;rw[if_neg hkl];exact hm k row hk
theorem MC.body{fn : Func}{c : Code}(mt : Nat → Bool)(hs : ∀ k, H k = none → H1 k = none)(hm : P.follows .mixedOrders = true)(hf : P.funcs[f]? = some fn)(hb : fn.body = some c)(hc : C9 fn c args.length = true)
 (h:awp P (bI P) (dO P) mt c (My P fn.results.toList (mD H1 r)) (Ir args) H):MC P f args H H1 r:=fun K hK=>bI.dataM hs (bI.body mt hm hf hb hc h) hK
theorem J5{H:aG}{j:Nat}{a:Row}(h:H j=some a):aI H j (some a)=H:=funext fun k=>by
 by_cases e:k=j
 · subst e;rw[aA,h]
 · rw[aC _ _ _ _ e]
theorem Bw(H:aG)(j:Nat)(a b:Option Row):aI (aI H j a) j b=aI H j b:=funext fun k=>by
 by_cases e:k=j
 · subst e;rw[aA,aA]
 · rw[aC _ _ _ _ e,aC _ _ _ _ e,aC _ _ _ _ e]
theorem Sup.set{H H':aG}(h:Sup H H')(j:Nat)(a:Option Row):Sup (aI H j a) (aI H' j a):=fun k row hk=>by
 by_cases e:k=j
 · subst e;rw[aA]at hk ⊢;exact hk
 · rw[aC _ _ _ _ e]at hk ⊢;exact h k row hk
theorem Sup.set2{H H':aG}{j:Nat}{b:Option Row}(h:Sup (aI H j b) H')(a:Option Row):Sup (aI H j a) (aI H' j a):=by
 have:=Sup.set h j a
 rwa [Bw]at this
theorem D0{H:aG}{j:Nat}{a:Option Row}{b:Row}(h:H j=some b):∀k,H k=none→aI H j a k=none:=fun k hk=>by
 by_cases e:k=j
 · subst e;rw[h]at hk;cases hk
 · rw[aC _ _ _ _ e,hk]
theorem sY{P : Program}{C : lK}{PC : FuncId → List AV → aG → AV → Prop}{mt : Nat → Bool}{ops : List Oper}{K : Env → aG → Prop}{m : Nat}{ρ : Env}{H : aG}(l : List Nat)(t : Mx)(J : Env → aG → Prop)(hl : ∀ k, k ∈ l → (H k).isSome = true)(hB : J4 ops.toArray t = true)
 (h:∀K':Env→aG→Prop,(∀ρ' H',J ρ' H'→K' ρ' H')→∀Hp Hr:aG,(∀k,k∈l→Hp k=H k)→(∀k,k∉l→Hr k=H k)→(∀k,k∉l→Hp k=none)→(∀k,k∈l→Hr k=none)→mK P C PC mt ops.toArray (lM l H K') Hp t ρ Hr)
 (hK:∀ρ' H',J ρ' H'→K ρ' H'):sC P C PC mt ops.toArray K m ρ H:=AC l t hl hB (h K hK)
end
end Go.Aw
namespace Go.Proofs.YtdlijlecpopadaaGreatDoor.Rx
open Go.Aw Go.Aw.D Go.Proofs Ty Go.Nu Go.So
open Sq (W jX eK kE NetOk dM)
open Nu (ltB geB Cp vV lP)
open Mv (gC fF kJ NC.pc bQ)
set_option maxRecDepth 100000
def EL(l:List Mom):Int:=(l.getD 0 ⟨0,0⟩).time
def I1(l:List Mom):Int:=l.foldl (fun e m=>sT e m.time) (EL l)
def Gp(t:VType)(e:Int):Int:=W (e-t.start)
def SZ(t:VType)(e miles:Int):Int:=W (W (t.fixed+W (t.perMile*miles))+W (t.perTick*Gp t e))
def sS(t:VType)(p:RP)(e miles:Int):Int:=
 W (W (W (W (W (W (SZ t e (W (p.miles+miles))*16)+p.moved)*16)+p.other)*65536)+W (W (Int.tdiv (Gp t e) 64)*W (Int.tdiv (Gp t e) 64)))
def AW(s:Rs)(v:ByteArray):Rs:=
 if(!s.found||decide (qD v s.least<0))=true then { s with count:=W (s.count+1),found:=true,least:=v }else { s with count:=W (s.count+1) }
def BP(s:Rs)(p:RP):Rs:=
 if((p.visits:Int) == 0||(p.board:Int) != 0)=true then s
 else
   let a:=fT s.x.net s.t p.place s.t.dst s.t.close p.moms
   if a.1.length=0 then s else AW s (pZ (zed (sS s.t p (I1 a.1) a.2)) p.dual).1
theorem VV(H0 : aG)(js : Nat)(w : Rs)(hj : H0 js = some (gR w))(p : RP)(hn : Sq.NetB w.x.net)(hl : p.moms.length ≤ 1048576)(hd : p.dual.size ≤ 1048570)(hle : w.least.size ≤ 1048576):
   MC Tryz.prog 162 [.op js 0 0,.agg (jN p)] H0 (aI H0 js (some (gR (BP w p)))) (.tup []):=by
 refine MC.body (c:=Tryz.f162.body.getD .skip) (fun _=>false) (D0 hj) mixed Tryz.func162 rfl (by kernel_rfl) ?_;unfold Tryz.f162;simp only[Option.getD_some];simp only[go_sem];have U:=Sup.refl H0;unfold BP;refine aB (fun hb=>?_) (fun hb=>?_)
 · rw[if_pos hb,J5 hj]
   simp only[go_sem];exact mD.flat U _
 rw[if_neg (fun h=>Bool.noConfusion (hb.symm.trans h))];simp only[go_sem];refine sY [] (.q 0 (.q 1 (.q 2 (.q 3 (.q 4 (.q 5 (.q 7 (.q 8 (.q 9 (.q 10 (.a2 6 (.a1 11 (.a1 12 (.q 13 (.q 14 (.q 15 (.q 16 (.q 17 .nil)))))))  11 (.a1 6 (.a1 12 (.q 13 (.q 14 (.q 15 (.q 16 (.q 17 .nil)))))))))))))))))) (fun ρ' H'=>H'=H0∧ρ' 0=.op js 0 0∧ρ' 3=.rp (jN p) 0∧ρ' 4=.sl ((fT w.x.net w.t p.place w.t.dst w.t.close p.moms).1.map kB)∧ρ' 5=int (fT w.x.net w.t p.place w.t.dst w.t.close p.moms).2) (by simp) (by kernel_rfl) (fun K' hK Hp Hr hp hr _ _=>?_) ?_
 · obtain rfl:Hr=H0:=funext fun k=>hr k (by simp)
   simp only[go_sem];have hA:=Eh Hr js w hj p w.t.dst w.t.close hn hl;generalize fT w.x.net w.t p.place w.t.dst w.t.close p.moms=A at hA hK;refine lG ?_ ?_
   · simp only[go_sem,hj]
     refine LC.use hA ?_;simp only[go_sem,hj];refine dV (fun _ _=>rfl) (hK _ _ ⟨rfl,by simp only[go_sem],by simp only[go_sem],by simp only[go_sem],by simp only[go_sem]⟩)
   · simp only[go_sem,hj]
     refine LC.use hA ?_;simp only[go_sem,hj];refine dV (fun _ _=>rfl) (hK _ _ ⟨rfl,by simp only[go_sem],by simp only[go_sem],by simp only[go_sem],by simp only[go_sem]⟩)
 have hAl:(fT w.x.net w.t p.place w.t.dst w.t.close p.moms).1.length≤1048576:=Nat.le_trans (by have:=Ar w.x.net w.t p.place w.t.dst w.t.close p.moms p.moms.length;rw[List.take_length]at this;exact this) hl;generalize fT w.x.net w.t p.place w.t.dst w.t.close p.moms=A at hAl ⊢;rintro ρ H ⟨hH,e0,e3,e4,e5⟩;replace hH:=hH.symm;subst hH;simp only[go_sem,e0,e3,e4,e5,List.length_map];refine aB (fun hb=>?_) (fun hb=>?_)
 · have hz:A.1.length=0:=by simpa using hb
   rw[if_pos hz,J5 hj];simp only[go_sem];exact mD.flat U _
 have hz:¬A.1.length=0:=by simpa using hb
 rw[if_neg hz];obtain⟨m0,hm0⟩:=aU (l:=A.1) (k:=0) (by omega);have b0:(0:Int)≤0∧(0:Int)<(A.1.length:Int):=by omega
 have hh0:EL A.1=m0.time:=by unfold EL;rw[List.getD,hm0];rfl
 simp only[go_sem,e0,e3,e4,e5,aH hm0,b0];refine⟨fun ρ H=>∃(k:Nat),k≤A.1.length∧ρ 0=.op js 0 0∧ρ 3=.rp (jN p) 0∧ρ 4=.sl (A.1.map kB)∧ρ 5=int A.2∧ρ 7=int k∧ρ 6=int ((A.1.take k).foldl (fun e m=>sT e m.time) (EL A.1))∧H=H0,fun ρ _=>A.1.length-bE (ρ 7),⟨0,Nat.zero_le _,by simp only[go_sem,e0,e3,e4,e5],by simp only[go_sem,e0,e3,e4,e5],by simp only[go_sem,e0,e3,e4,e5],by simp only[go_sem,e0,e3,e4,e5],(by simp only[go_sem,e0,e3,e4,e5];rfl),by simp only[go_sem];rw[hh0];rfl,rfl⟩,?_⟩;rintro ρ H ⟨k,hk,e0,e3,e4,e5,e7,e6,hH⟩;simp only[go_sem,e0,e3,e4,e5,e7,e6];refine aB (fun hlt=>?_) (fun hge=>?_)
 · have hlt:=ltB (by simpa using hlt)
   obtain⟨m,hm⟩:=aU hlt;have b1:=inB hlt;have hs:=Sq.fY (f:=fun(e:Int) (m:Mom)=>sT e m.time) (b:=EL A.1) hm;generalize (A.1.take k).foldl (fun e m=>sT e m.time) (EL A.1)=E at *;simp only[go_sem,e0,e3,e4,e5,e7,e6,aH hm,b1,bA (show k≤4611686018427387904 by omega)];exact⟨⟨k+1,hlt,rfl,by rw[hs],hH⟩,by simp only[aJ];omega⟩
 have hge:=geB hk (by simpa using hge);subst hge;rw[List.take_length]at e6;have e6:ρ 6=int (I1 A.1):=e6;replace hH:=hH.symm;subst hH;generalize I1 A.1=E at e6 ⊢;simp only[go_sem,e0,e3,e4,e5,e7,e6,hj];refine dH [js] [(0,true),(1,true),(2,true),(3,true),(4,true),(5,true),(6,true),(7,true),(8,true),(9,true),(10,true),(11,true),(12,true),(13,true),(14,true),(15,true),(16,true),(17,true),(18,true),(19,true),(20,true),(21,true),(22,true),(23,true),(24,true)] (by simp[hj]) (by kernel_rfl) fun Hp Hr hp hr _ hr0=>?_
 have P_hj:=(hp js (by simp)).trans hj;simp only[go_sem,e0,e3,e4,e5,e7,e6,P_hj];refine dV hr ?_;simp only[go_sem,e0,e3,e4,e5,e7,e6,hj];refine⟨by decide,by decide,?_⟩;refine jF [(0,true),(2,true),(3,true),(1,false),(4,false),(5,true),(6,true),(7,true),(8,true),(9,true)] (by kernel_rfl) ?_;simp only[go_sem,e0,e3,e4,e5,e7,e6,hj];have hpb:=D6 (W (W (W (W (W (SZ w.t E (W (p.miles+A.2))*16)+p.moved)*16)+p.other)*65536)+W (W (Int.tdiv (Gp w.t E) 64)*W (Int.tdiv (Gp w.t E) 64)));refine PC.use (Cp (sS w.t p E A.2) hpb.1 hpb.2) ?_;have hzs:=Tt hpb.1 hpb.2;replace hzs:(zed (sS w.t p E A.2)).size≤8194:=hzs;clear hpb;generalize zed (sS w.t p E A.2)=Z at hzs ⊢;simp only[go_sem,e0,e3,e4,e5,e7,e6,hj];refine PC.use (vV Z p.dual (by omega) hd) ?_;have hsz:=I6 Z p.dual;generalize pZ Z p.dual=SR at hsz ⊢;simp only[go_sem,e0,e3,e4,e5,e7,e6,hj];generalize hF:aI H0 js (some (gR (AW w SR.1)))=HF;refine cD so3 hj (by simp[oR]) ?_;generalize hG:aI H0 js _=HB;replace hG:HB=aI H0 js (some (gR { w with count:=W (w.count+1) })):=hG.symm;have R1:HB js=some (gR { w with count:=W (w.count+1) }):=by rw[hG,aA]
 simp only[go_sem,e0,e3,e4,e5,e7,e6,R1];have hsz1:SR.1.size≤1048576:=by omega
 refine⟨_,fun _=>(lP SR.1 w.least hsz1 hle).q rfl,?_⟩;simp only[go_sem,e0,e3,e4,e5,e7,e6,R1];refine aB (fun hb=>?_) (fun hb=>?_)
 · have hP:AW w SR.1={ w with count:=W (w.count+1),found:=true,least:=SR.1 }:=if_pos hb
   rw[hP]at hF;simp only[go_sem,e0,e3,e4,e5,e7,e6,R1];refine cD so4 R1 (by simp[oR]) ?_;generalize hG2:aI HB js _=HC;have R2:HC js=some (gR { w with count:=W (w.count+1),found:=true }):=by rw[←hG2,aA];rfl
   simp only[go_sem,e0,e3,e4,e5,e7,e6,R2];refine cD QF R2 (by simp[oR]) ?_;simp only[go_sem];refine mD.flat (Sup.eq (Sup.refl _) ?_) _;rw[←hG2,hG,Bw,Bw,←hF];rfl
 · have hP:AW w SR.1={ w with count:=W (w.count+1) }:=if_neg (fun h=>Bool.noConfusion (hb.symm.trans h))
   rw[hP,←hG]at hF;simp only[go_sem];exact mD.flat (Sup.eq (Sup.refl _) hF.symm) _
end Go.Proofs.YtdlijlecpopadaaGreatDoor.Rx
end
