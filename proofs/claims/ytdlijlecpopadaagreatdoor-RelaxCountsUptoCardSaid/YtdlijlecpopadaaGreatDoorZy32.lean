/- Texts joined by a program: RxK, RxP, RxQ. -/
import Derived.Test.YtdlijlecpopadaaGreatDoorZy19
import Derived.Test.YtdlijlecpopadaaGreatDoorZy31

section
set_option linter.unusedSimpArgs false
set_option linter.unusedVariables false
namespace Go.Proofs.YtdlijlecpopadaaGreatDoor.Rx
open Go.Aw Go.Aw.D Go.Proofs Ty Go.Nu Go.So
open Sq (W jW eM kE NetOk)
open Nu (ltB geB)
open Mv (fZ fA kI NC.pc bR)
set_option maxRecDepth 100000
theorem Gb(i:Nat)(hi:i≤62):PC Tryz.prog 40 [int i] (int (2^i:Nat)):=by
 refine PC.body (c:=Tryz.f40.body.getD .skip) (fun _=>false) mixed Tryz.func40 rfl (by kernel_rfl) ?_;unfold Tryz.f40;simp only[Option.getD_some];simp only[go_sem];refine⟨fun ρ H=>∃(k:Nat),k≤i∧ρ 0=int i∧ρ 4=int k∧ρ 3=int (2^k:Nat),fun ρ _=>i-bE (ρ 4),⟨0,Nat.zero_le _,by simp only[go_sem],(by simp only[go_sem];rfl),by simp only[go_sem];rfl⟩,?_⟩;rintro ρ H ⟨k,hk,e0,e4,e3⟩;simp only[go_sem,e0,e4,e3];refine aB (fun hlt=>?_) (fun hge=>?_)
 · have hlt:=ltB hlt
   have hp:(2:Nat)^(k+1)≤2^62:=Nat.pow_le_pow_right (by decide) (by omega);have hs:(2:Nat)^(k+1)=2*2^k:=by rw[Nat.pow_succ,Nat.mul_comm]
   have w1:IntKind.i64.wrap (2*((2^k:Nat):Int))=((2^(k+1):Nat):Int):=by rw[hs];rw[hs]at hp;rw[aQ (by omega)];rfl
   simp only[go_sem,e0,e4,e3,w1,bA (show k≤4611686018427387904 by omega)];exact⟨⟨k+1,hlt,rfl,rfl⟩,by simp only[aH];omega⟩
 · have hge:=geB hk hge
   subst hge;simp only[go_sem,e0,e4,e3];exact .refl _
def jX(s i:Nat):Bool:=s/2^i%2 == 1
theorem xC(s i:Nat)(hs:s<2^63)(hi:i≤1048576):PC Tryz.prog 41 [int (s:Nat),int (i:Nat)] (boo (jX s i)):=by
 refine PC.body (c:=Tryz.f41.body.getD .skip) (fun _=>false) mixed Tryz.func41 rfl (by kernel_rfl) ?_;unfold Tryz.f41;simp only[Option.getD_some];simp only[go_sem];refine⟨fun ρ H=>∃(k:Nat),k≤i∧ρ 1=int (i:Nat)∧ρ 5=int k∧ρ 0=int (s/2^k:Nat),fun ρ _=>i-bE (ρ 5),⟨0,Nat.zero_le _,by simp only[go_sem],(by simp only[go_sem];rfl),by simp only[go_sem,Nat.pow_zero,Nat.div_one]⟩,?_⟩;rintro ρ H ⟨k,hk,e1,e5,e0⟩;simp only[go_sem,e1,e5,e0];refine aB (fun hlt=>?_) (fun hge=>?_)
 · have hlt:=ltB hlt
   have hd:(s/2^k:Nat)≤s:=Nat.div_le_self _ _;have w1:IntKind.i64.wrap (Int.tdiv ((s/2^k:Nat):Int) 2)=((s/2^(k+1):Nat):Int):=by
     have e1:Int.tdiv ((s/2^k:Nat):Int) 2=((s/2^k/2:Nat):Int):=rfl;rw[e1,Nat.div_div_eq_div_mul,←Nat.pow_succ];have:s/2^k.succ≤s:=Nat.div_le_self _ _;show IntKind.i64.wrap ((s/2^k.succ:Nat):Int)=((s/2^k.succ:Nat):Int);generalize s/2^k.succ=z at *;exact aQ (by omega)
   simp only[go_sem,e1,e5,e0,w1,bA (show k≤4611686018427387904 by omega)];exact⟨by decide,⟨k+1,hlt,rfl,rfl⟩,by simp only[aH];omega⟩
 · have hge:=geB hk hge
   subst hge;simp only[go_sem,e1,e5,e0];refine⟨by decide,fA ?_⟩;unfold jX;have e1:Int.tmod ((s/2^k:Nat):Int) 2=((s/2^k%2:Nat):Int):=rfl;rw[e1,Bool.eq_iff_iff];simp only[beq_iff_eq];omega
def pK(near:List Int)(i:Nat):Bool:=decide (near.getD i 0<0)||decide (near.getD i 0≥((2^near.length:Nat):Int))|| !jX (near.getD i 0).toNat i
def mI(x:Instance)(near:List Int):Bool:= !((near.length:Int) != (x.orders.length:Int))&&(List.range near.length).all fun i=> !pK near i
theorem SY(x:Instance)(near:List Int)(hx:x.orders.length≤62)(hnl:near.length≤1048576):PC Tryz.prog 14 [.agg (aS x),.sl (near.map aO)] (boo (mI x near)):=by
 have eL:mI x near=(!((near.length:Int) != (x.orders.length:Int))&&(List.range near.length).all fun i=> !pK near i):=rfl;generalize mI x near=R at eL;refine PC.body (c:=Tryz.f14.body.getD .skip) (fun _=>false) mixed Tryz.func14 rfl (by kernel_rfl) ?_;unfold Tryz.f14;simp only[Option.getD_some];simp only[go_sem];refine aB (fun hb=>?_) (fun hb=>?_)
 · rw[hb]at eL
   subst eL;simp only[go_sem];exact .refl _
 rw[hb,Bool.not_false,Bool.true_and]at eL;have hl:near.length=x.orders.length:=by simp at hb;omega
 simp only[go_sem];refine⟨fun ρ H=>∃(k:Nat),k≤near.length∧ρ 1=.sl (near.map aO)∧ρ 5=int k∧(∀i,i<k→pK near i=false),fun ρ _=>near.length-bE (ρ 5),⟨0,Nat.zero_le _,by simp only[go_sem],(by simp only[go_sem];rfl),by intro i hi;omega⟩,?_⟩;rintro ρ H ⟨k,hk,e1,e5,hz⟩;simp only[go_sem,e1,e5];refine aB (fun hlt=>?_) (fun hge=>?_)
 · have hlt:=ltB (by simpa using hlt)
   obtain⟨v,hv⟩:=aW hlt;have b1:=inB hlt;have hgv:near.getD k 0=v:=by rw[List.getD,hv];rfl
   have hlb:pK near k=(decide (v<0)||decide (v≥((2^near.length:Nat):Int))|| !jX v.toNat k):=by unfold pK;rw[hgv]
   have hp2:2^near.length≤2^62:=Nat.pow_le_pow_right (by decide) (by omega);simp only[go_sem,e1,e5];refine jD [(0,true),(1,true),(2,true),(3,true),(4,true),(5,true),(6,true),(7,true),(8,true),(9,true),(10,true),(11,true),(12,true),(13,true),(14,true),(15,true),(16,true),(17,true),(18,true),(19,true),(20,true),(21,true),(22,true),(23,true)] (by kernel_rfl) ?_;simp only[go_sem,e1,e5,aF hv,b1,List.length_map];refine⟨_,fun _=>PC.q (Gb near.length (by omega)) rfl,?_⟩;simp only[go_sem,e1,e5,aF hv,b1,List.length_map];refine⟨boo (jX v.toNat k),fun hg=>?_,?_⟩
   · rw[Bool.or_eq_false_iff]at hg
     have g1:=of_decide_eq_false hg.1;have g2:=of_decide_eq_false hg.2;obtain⟨n,rfl⟩:∃n:Nat,v=(n:Nat):=⟨v.toNat,by omega⟩;rw[Int.toNat_natCast];exact PC.q (xC n k (by omega) (by omega)) rfl
   simp only[go_sem,e1,e5];refine aB (fun hb=>?_) (fun hb=>?_)
   · have : ((List.range near.length).all fun i => !pK near i) = false := by
       rw[Bool.eq_false_iff];intro h;have:=List.all_eq_true.1 h k (List.mem_range.2 hlt);rw[hlb,hb]at this;cases this
     rw[this]at eL;subst eL;simp only[go_sem];exact .refl _
   · simp only[go_sem,e1,e5,bA (show k≤4611686018427387904 by omega)]
     refine⟨⟨k+1,hlt,rfl,fun i hi=>?_⟩,by simp only[aH];omega⟩;by_cases e:i=k
     · subst e;rw[hlb];exact hb
     · exact hz i (by omega)
 have hge:=geB hk (by simpa using hge);subst hge;rw[List.all_eq_true.2 (fun i hi=>by rw[hz i (List.mem_range.1 hi)];rfl)]at eL;subst eL;simp only[go_sem];exact .refl _
def M3(near:List Int)(m o:Nat)(s i:Nat):Nat:=if(i == o||(jX m i&&jX (near.getD o 0).toNat i))=true then s+2^i else s
def pD(near:List Int)(m o k:Nat):Nat:=(List.range k).foldl (M3 near m o) 0
theorem yP(near:List Int)(m o k:Nat):pD near m o (k+1)=M3 near m o (pD near m o k) k:=by
 unfold pD;rw[List.range_succ,List.foldl_append];rfl
theorem wF(near:List Int)(m o:Nat):∀k,pD near m o k<2^k
 | 0=>by show 0<1;decide
 | k+1=>by
   have:=wF near m o k;rw[yP,Nat.pow_succ];unfold M3;split <;> omega
theorem VL(near:List Int)(m o:Nat)(h:NearB near)(ho:o<near.length)(hm:m<2^62):PC Tryz.prog 16 [.sl (near.map aO),int (m:Nat),int (o:Nat)] (int (pD near m o near.length:Nat)):=by
 obtain⟨vo,hvo⟩:=aW ho;have bo:=inB ho;have hl:=h.len;have hn:=h.num vo (List.mem_of_getElem? hvo);obtain⟨N,rfl⟩:=Int.eq_ofNat_of_zero_le hn.1;have hgo:(near.getD o 0).toNat=N:=by rw[List.getD,hvo];rfl
 refine PC.body (c:=Tryz.f16.body.getD .skip) (fun _=>false) mixed Tryz.func16 rfl (by kernel_rfl) ?_;unfold Tryz.f16;simp only[Option.getD_some];simp only[go_sem];refine⟨fun ρ H=>∃(k:Nat),k≤near.length∧ρ 0=.sl (near.map aO)∧ρ 1=int (m:Nat)∧ρ 2=int (o:Nat)∧ρ 8=int k∧ρ 7=int (pD near m o k:Nat),fun ρ _=>near.length-bE (ρ 8),⟨0,Nat.zero_le _,by simp only[go_sem],by simp only[go_sem],by simp only[go_sem],(by simp only[go_sem];rfl),by simp only[go_sem];rfl⟩,?_⟩;rintro ρ H ⟨k,hk,e0,e1,e2,e8,e7⟩;simp only[go_sem,e0,e1,e2,e8,e7];refine aB (fun hlt=>?_) (fun hge=>?_)
 · have hlt:=ltB (by simpa using hlt)
   have hs:=yP near m o k;have hlt2:=wF near m o k;have hp:(2:Nat)^k≤2^61:=Nat.pow_le_pow_right (by decide) (by omega);unfold M3 at hs;rw[hgo]at hs;generalize pD near m o k=S at *;simp only[go_sem,e0,e1,e2,e8,e7];refine⟨_,fun _=>PC.q (xC m k (by omega) (by omega)) rfl,?_⟩;simp only[go_sem,e0,e1,e2,e8,e7,aF hvo,bo];refine⟨_,fun _=>PC.q (xC N k (by omega) (by omega)) rfl,?_⟩;simp only[go_sem,e0,e1,e2,e8,e7];have hbe:(((k:Nat):Int) == ((o:Nat):Int))=(k == o):=by rw[Bool.eq_iff_iff];simp only[beq_iff_eq];omega
   rw[hbe];refine aB (fun hb=>?_) (fun hb=>?_)
   · rw[if_pos hb]at hs
     simp only[go_sem,e0,e1,e2,e8,e7];refine PC.use (Gb k (by omega)) ?_;have w1:IntKind.i64.wrap (((S:Nat):Int)+((2^k:Nat):Int))=((S+2^k:Nat):Int):=by rw[aQ (by omega)];rfl
     simp only[go_sem,e0,e1,e2,e8,e7,w1,bA (show k≤4611686018427387904 by omega)];exact⟨⟨k+1,hlt,rfl,by rw[hs]⟩,by simp only[aH];omega⟩
   · rw[if_neg (fun h=>Bool.noConfusion (hb.symm.trans h))]at hs
     simp only[go_sem,e0,e1,e2,e8,e7,bA (show k≤4611686018427387904 by omega)];exact⟨⟨k+1,hlt,rfl,by rw[hs]⟩,by simp only[aH];omega⟩
 have hge:=geB hk (by simpa using hge);subst hge;simp only[go_sem,e0,e1,e2,e8,e7];exact .refl _
end Go.Proofs.YtdlijlecpopadaaGreatDoor.Rx
end

section
set_option linter.unusedSimpArgs false
set_option linter.unusedVariables false
namespace Go.Proofs.YtdlijlecpopadaaGreatDoor.Rx
open Go.Aw Go.Aw.D Go.Proofs Ty Go.Nu Go.So
open Sq (W jW eM kE NetOk dP)
open Nu (ltB geB)
open Mv (fZ fA kI NC.pc bR)
set_option maxRecDepth 100000
structure Mom where
 time:Int
 driven:Int
structure RP where
 place:Int
 visits:Nat
 miles:Int
 moms:List Mom
 memory:Nat
 board:Nat
 load:List Int
 moved:Int
 other:Int
 dual:ByteArray
structure Rs where
 x:Instance
 t:VType
 kind:Nat
 near:List Int
 dual:List ByteArray
 most:Nat
 count:Int
 limited:Bool
 found:Bool
 least:ByteArray
def jT(m:Mom):List AV:=[int m.time,int m.driven]
theorem CU(c:Mom):(jT c).length=2:=(rfl)
theorem Sv(c:Mom):(jT c).getD 0 .any=int c.time:=(rfl)
theorem RA(c:Mom):(jT c).getD 1 .any=int c.driven:=(rfl)
theorem MU(c:Mom):(jT c).take 2=jT c:=(rfl)
def jG(p:RP):List AV:=[int p.place,int (p.visits:Nat),int p.miles,.sl (p.moms.map jT),int (p.memory:Nat),int (p.board:Nat),.sl (p.load.map aO),int p.moved,int p.other,str p.dual]
section
variable(p:RP)
theorem dE:(jG p).length=10:=(rfl)
theorem Xz:(jG p).getD 0 .any=int p.place:=(rfl)
theorem Wc:(jG p).getD 1 .any=int (p.visits:Nat):=(rfl)
theorem V5:(jG p).getD 2 .any=int p.miles:=(rfl)
theorem VO:(jG p).getD 3 .any=.sl (p.moms.map jT):=(rfl)
theorem Wr:(jG p).getD 4 .any=int (p.memory:Nat):=(rfl)
theorem VX:(jG p).getD 5 .any=int (p.board:Nat):=(rfl)
theorem Xa:(jG p).getD 6 .any=.sl (p.load.map aO):=(rfl)
theorem Vw:(jG p).getD 7 .any=int p.moved:=(rfl)
theorem Xm:(jG p).getD 8 .any=int p.other:=(rfl)
theorem WW:(jG p).getD 9 .any=str p.dual:=(rfl)
theorem PB:(jG p).take 10=jG p:=(rfl)
end
def iR(w:Rs):List AV:=aS w.x++(bC w.t++[int (w.kind:Nat),.sl (w.near.map aO),.sl (w.dual.map Go.Aw.D.fL),int (w.most:Nat),int w.count,boo w.limited,boo w.found,str w.least])
section
variable(w:Rs)
theorem nR:(iR w).length=28:=(rfl)
theorem VH:(iR w).getD 3 .any=.sl (w.x.orders.map aV):=(rfl)
theorem VT:(iR w).getD 8 .any=int w.t.src:=(rfl)
theorem Vn:(iR w).getD 9 .any=int w.t.dst:=(rfl)
theorem Uz:(iR w).getD 10 .any=.sl (w.t.cap.map aO):=(rfl)
theorem Ut:(iR w).getD 12 .any=int w.t.profile:=(rfl)
theorem Ub:(iR w).getD 13 .any=int w.t.start:=(rfl)
theorem Q9:(iR w).getD 14 .any=int w.t.close:=(rfl)
theorem TR:(iR w).getD 15 .any=int w.t.drive:=(rfl)
theorem SG:(iR w).getD 16 .any=int w.t.rest:=(rfl)
theorem U1:(iR w).getD 17 .any=int w.t.fixed:=(rfl)
theorem Tl:(iR w).getD 18 .any=int w.t.perMile:=(rfl)
theorem Uy:(iR w).getD 19 .any=int w.t.perTick:=(rfl)
theorem Q7:(iR w).getD 20 .any=int (w.kind:Nat):=(rfl)
theorem Uf:(iR w).getD 21 .any=.sl (w.near.map aO):=(rfl)
theorem Uh:(iR w).getD 22 .any=.sl (w.dual.map Go.Aw.D.fL):=(rfl)
theorem S4:(iR w).getD 23 .any=int (w.most:Nat):=(rfl)
theorem Se:(iR w).getD 24 .any=int w.count:=(rfl)
theorem U0:(iR w).getD 25 .any=boo w.limited:=(rfl)
theorem U4:(iR w).getD 26 .any=boo w.found:=(rfl)
theorem Va:(iR w).getD 27 .any=str w.least:=(rfl)
theorem PX:(iR w).take 2=aT w.x.net:=(rfl)
theorem WH:(iR w).take 6=aS w.x:=(rfl)
theorem XA:((iR w).drop 6).take 14=bC w.t:=(rfl)
theorem PH:(iR w).take 28=iR w:=(rfl)
end
attribute [go_sem] CU Sv RA MU dE Xz Wc V5 VO Wr VX Xa Vw Xm WW PB nR VH VT Vn Uz Ut Ub Q9 TR SG U1 Tl Uy Q7 Uf Uh S4 Se U0 U4 Va PX WH XA PH
abbrev gL(w:Rs):Row:=⟨108,28,[iR w]⟩
abbrev lO(p:RP):Row:=⟨177,10,[jG p]⟩
abbrev Zt(c:Mom):Row:=⟨175,2,[jT c]⟩
abbrev mD(l:List Mom):Row:=⟨175,2,l.map jT⟩
def OM(t:VType)(m:Mom):Mom:=⟨W (m.time+t.rest),0⟩
def cN(t:VType)(l:List Mom):List Mom:=l.flatMap fun m=>[m,OM t m]
def AI(n:Network)(t:VType)(place goal close:Int)(s:List Mom×Int)(m:Mom):List Mom×Int:=
 (if(((dP n t.profile place goal m.time).2.2 == 0&&decide ((dP n t.profile place goal m.time).1≤close))&&decide (W (W (m.driven+(dP n t.profile place goal m.time).1)-m.time)≤t.drive))=true
  then s.1++[⟨(dP n t.profile place goal m.time).1,W (W (m.driven+(dP n t.profile place goal m.time).1)-m.time)⟩]else s.1,(dP n t.profile place goal m.time).2.1)
def fU(n:Network)(t:VType)(place goal close:Int)(l:List Mom):List Mom×Int:=l.foldl (AI n t place goal close) ([],0)
def dQ(a b:List Int)(sg:Int):List Int:=List.zipWith (fun x y=>W (x+W (sg*y))) a b
def pF(a c:List Int):Bool:=(List.range a.length).all fun i=> !decide (a.getD i 0>c.getD i 0)
theorem J0(t:VType){l:List Mom}{k:Nat}{m:Mom}(h:l[k]?=some m):cN t (l.take (k+1))=(cN t (l.take k)++[m])++[OM t m]:=by
 unfold cN;rw[cM h,List.flatMap_append];simp
theorem yC(t:VType)(l:List Mom):(cN t l).length=2*l.length:=by
 unfold cN;induction l with
 | nil=>rfl
 | cons a l ih=>simp only[List.flatMap_cons,List.length_append,ih,List.length_cons,List.length_nil];omega
theorem Af(l:List Mom)(a:Mom):(⟨175,2,l.map jT++[jT a]⟩:Row)=mD (l++[a]):=by
 show _=(⟨175,2,(l++[a]).map jT⟩:Row);rw[List.map_append];rfl
theorem yY(t:VType)(l:List Mom)(hl:l.length≤524288):PC Tryz.prog 108 [.agg (bC t),.sl (l.map jT)] (.sl ((cN t l).map jT)):=by
 refine PC.body (c:=Tryz.f108.body.getD .skip) (fun t=>t == 5) mixed Tryz.func108 rfl (by kernel_rfl) ?_;unfold Tryz.f108;simp only[Option.getD_some];simp only[go_sem];refine aL fun j hj0=>?_
 generalize hGj:aG _ j _=HGj;have R:HGj j=some (mD []):=by rw[←hGj,aA];try rfl
 clear hGj hj0;simp only[go_sem,R];refine⟨fun ρ H=>∃(k:Nat) (j:Nat),k≤l.length∧ρ 1=.sl (l.map jT)∧ρ 2=.rp (bC t) 0∧ρ 6=int k∧ρ 5=.os j∧H j=some (mD (cN t (l.take k))),fun ρ _=>l.length-bE (ρ 6),⟨0,j,Nat.zero_le _,by simp only[go_sem],by simp only[go_sem],(by simp only[go_sem];rfl),by simp only[go_sem],R⟩,?_⟩;rintro ρ H ⟨k,j,hk,e1,e2,e6,e5,R⟩;simp only[go_sem,e1,e2,e6,e5];refine aB (fun hlt=>?_) (fun hge=>?_)
 · have hlt:=ltB (by simpa using hlt)
   obtain⟨m,hm⟩:=aW hlt;have b1:=inB hlt;have hs:=J0 t hm;have hln:(cN t (l.take k)).length≤1048574:=by rw[yC,List.length_take];omega
   generalize cN t (l.take k)=L at *;simp only[go_sem,e1,e2,e6,e5,aF hm,b1];refine aX R ⟨rfl,rfl⟩ (by simp only[go_sem]) (by simp only[List.length_map,List.length_cons,List.length_nil];omega) (fun j1 hj10=>?_);generalize hP:aG (aG _ j none) j1 _=HP;have R1:HP j1=some (mD (L++[m])):=by rw[←hP,aA];exact congrArg some (Af _ _)
   clear hP hj10;simp only[go_sem,e1,e2,e6,e5,R1];refine jD [(0,true),(1,true),(2,true),(3,true),(4,true),(5,true),(6,true),(7,true),(8,true),(9,true),(10,false),(11,false),(12,true)] (by kernel_rfl) ?_;simp only[go_sem,e1,e2,e6,e5,aF hm,b1,R1];refine aX R1 ⟨rfl,rfl⟩ (by simp only[go_sem]) (by simp only[List.length_map,List.length_append,List.length_cons,List.length_nil];omega) (fun j2 hj2=>?_);simp only[go_sem,e1,e2,e6,e5,bA (show k≤4611686018427387904 by omega)];refine⟨⟨k+1,j2,hlt,rfl,rfl,?_⟩,by simp only[aH];omega⟩;rw[hs,aA];exact congrArg some (Af (L++[m]) (OM t m))
 have hge:=geB hk (by simpa using hge);subst hge;rw[List.take_length]at R;simp only[go_sem,e1,e2,e6,e5];exact .row _ _ _ R (ConvE.refl _)
theorem Pk{α β γ:Type}(f:α→β→γ){a:List α}{b:List β}{k:Nat}{x:α}{y:β}(ha:a[k]?=some x)(hb:b[k]?=some y):List.zipWith f (a.take (k+1)) (b.take (k+1))=List.zipWith f (a.take k) (b.take k)++[f x y]:=by
 have h1:=(List.getElem?_eq_some_iff.1 ha).1;have h2:=(List.getElem?_eq_some_iff.1 hb).1;rw[cM ha,cM hb,List.zipWith_append (by rw[List.length_take,List.length_take];omega)];rfl
theorem Fn(a b:List Int)(sg:Int)(hl:a.length≤1048576)(hab:a.length=b.length):PC Tryz.prog 206 [.sl (a.map aO),.sl (b.map aO),int sg] (.sl ((dQ a b sg).map aO)):=by
 refine PC.body (c:=Tryz.f206.body.getD .skip) (fun t=>t == 7) mixed Tryz.func206 rfl (by kernel_rfl) ?_;unfold Tryz.f206;simp only[Option.getD_some];simp only[go_sem];refine aL fun j hj0=>?_
 generalize hGj:aG _ j _=HGj;have R:HGj j=some (kK []):=by rw[←hGj,aA];try rfl
 clear hGj hj0;simp only[go_sem,R];refine⟨fun ρ H=>∃(k:Nat) (j:Nat),k≤a.length∧ρ 0=.sl (a.map aO)∧ρ 1=.sl (b.map aO)∧ρ 2=int sg∧ρ 8=int k∧ρ 7=.os j∧H j=some (kK (List.zipWith (fun x y=>W (x+W (sg*y))) (a.take k) (b.take k))),fun ρ _=>a.length-bE (ρ 8),⟨0,j,Nat.zero_le _,by simp only[go_sem],by simp only[go_sem],by simp only[go_sem],(by simp only[go_sem];rfl),by simp only[go_sem],R⟩,?_⟩;rintro ρ H ⟨k,j,hk,e0,e1,e2,e8,e7,R⟩;simp only[go_sem,e0,e1,e2,e8,e7];refine aB (fun hlt=>?_) (fun hge=>?_)
 · have hlt:=ltB (by simpa using hlt)
   obtain⟨u,hu⟩:=aW hlt;obtain⟨v,hv⟩:=aW (l:=b) (k:=k) (by omega);have b1:=inB hlt;have b2:=inB (show k<b.length by omega);have hs:=Pk (fun x y=>W (x+W (sg*y))) hu hv;have hln:(List.zipWith (fun x y=>W (x+W (sg*y))) (a.take k) (b.take k)).length≤k:=by rw[List.length_zipWith,List.length_take];omega
   generalize List.zipWith (fun x y=>W (x+W (sg*y))) (a.take k) (b.take k)=L at *;simp only[go_sem,e0,e1,e2,e8,e7];refine jD [(0,true),(1,true),(2,true),(3,true),(4,true),(5,true),(6,true),(7,true),(8,true),(9,true),(10,true),(11,true),(12,false),(13,false),(14,true)] (by kernel_rfl) ?_;simp only[go_sem,e0,e1,e2,e8,e7,aF hu,aF hv,b1,b2];refine aX R ⟨rfl,rfl⟩ (by simp only[go_sem]) (by simp only[List.length_map,List.length_cons,List.length_nil];omega) (fun j2 hj2=>?_);simp only[go_sem,e0,e1,e2,e8,e7,bA (show k≤4611686018427387904 by omega)];refine⟨⟨k+1,j2,hlt,rfl,rfl,?_⟩,by simp only[aH];omega⟩;rw[hs,aA];refine congrArg (fun l=>some (⟨3,1,l⟩:Row)) ?_;rw[List.map_append];rfl
 have hge:=geB hk (by simpa using hge);subst hge;rw[List.take_length,List.take_of_length_le (by omega)]at R;simp only[go_sem,e0,e1,e2,e8,e7];exact .row _ _ _ R (ConvE.refl _)
theorem Wt(a c:List Int)(hl:a.length≤1048576)(hac:a.length=c.length):PC Tryz.prog 207 [.sl (a.map aO),.sl (c.map aO)] (boo (pF a c)):=by
 refine PC.body (c:=Tryz.f207.body.getD .skip) (fun _=>false) mixed Tryz.func207 rfl (by kernel_rfl) ?_;unfold Tryz.f207;simp only[Option.getD_some];simp only[go_sem];refine⟨fun ρ H=>∃(k:Nat),k≤a.length∧ρ 0=.sl (a.map aO)∧ρ 1=.sl (c.map aO)∧ρ 5=int k∧(∀i,i<k→decide (a.getD i 0>c.getD i 0)=false),fun ρ _=>a.length-bE (ρ 5),⟨0,Nat.zero_le _,by simp only[go_sem],by simp only[go_sem],(by simp only[go_sem];rfl),by intro i hi;omega⟩,?_⟩;rintro ρ H ⟨k,hk,e0,e1,e5,hz⟩;simp only[go_sem,e0,e1,e5];refine aB (fun hlt=>?_) (fun hge=>?_)
 · have hlt:=ltB (by simpa using hlt)
   obtain⟨u,hu⟩:=aW hlt;obtain⟨v,hv⟩:=aW (l:=c) (k:=k) (by omega);have b1:=inB hlt;have b2:=inB (show k<c.length by omega);have hgu:a.getD k 0=u:=by rw[List.getD,hu];rfl
   have hgv:c.getD k 0=v:=by rw[List.getD,hv];rfl
   simp only[go_sem,e0,e1,e5];refine jD [(0,true),(1,true),(2,true),(3,true),(4,true),(5,true),(6,true),(7,true),(8,true)] (by kernel_rfl) ?_;simp only[go_sem,e0,e1,e5,aF hu,aF hv,b1,b2];refine aB (fun hb=>?_) (fun hb=>?_)
   · have : pF a c = false := by
       rw[Bool.eq_false_iff];intro h;have:=List.all_eq_true.1 h k (List.mem_range.2 hlt);rw[hgu,hgv,hb]at this;cases this
     rw[this];simp only[go_sem];exact .refl _
   · simp only[go_sem,e0,e1,e5,bA (show k≤4611686018427387904 by omega)]
     refine⟨⟨k+1,hlt,rfl,fun i hi=>?_⟩,by simp only[aH];omega⟩;by_cases e:i=k
     · subst e;rw[hgu,hgv];exact hb
     · exact hz i (by omega)
 have hge:=geB hk (by simpa using hge);subst hge;have:pF a c=true:=List.all_eq_true.2 fun i hi=>by rw[hz i (List.mem_range.1 hi)];rfl
 rw[this];simp only[go_sem];exact .refl _
theorem Vd(n:Network)(t:VType)(place goal close:Int)(s:List Mom×Int)(m:Mom):(AI n t place goal close s m).1.length≤s.1.length+1:=by
 unfold AI;simp only;split
 · simp
 · omega
theorem AA(n:Network)(t:VType)(place goal close:Int)(l:List Mom):∀k,((l.take k).foldl (AI n t place goal close) ([],0)).1.length≤k
 | 0=>by simp
 | k+1=>by
   have h:=AA n t place goal close l k;by_cases hk:k<l.length
   · obtain⟨c,hc⟩:=aW hk
     rw[Sq.fR hc];exact Nat.le_trans (Vd n t place goal close _ c) (by omega)
   · rw[List.take_of_length_le (by omega)]
     rw[List.take_of_length_le (by omega)]at h;omega
theorem Dh(H0 : aE)(js : Nat)(w : Rs)(hj : H0 js = some (gL w))(p : RP)(goal close : Int)(hn : Sq.NetB w.x.net)(hl : p.moms.length ≤ 1048576):
   LC Tryz.prog 202 [.op js 0 0,.agg (jG p),int goal,int close] H0 (.tup [.sl ((fU w.x.net w.t p.place goal close p.moms).1.map jT),int (fU w.x.net w.t p.place goal close p.moms).2]):=by
 refine LC.body (c:=Tryz.f202.body.getD .skip) (fun t=>t == 10) mixed Tryz.func202 rfl (by kernel_rfl) ?_;unfold Tryz.f202;simp only[Option.getD_some];simp only[go_sem];have U:=Sup.refl H0;refine aL fun j hj0=>?_
 have n_j:=U.none hj0;generalize hGj:aG _ j _=HGj;replace U:=Sup.eq (U.upd n_j _) hGj;have R:HGj j=some (mD []):=by rw[←hGj,aA];try rfl
 clear hGj hj0;simp only[go_sem,R];refine⟨fun ρ H=>∃(k:Nat) (j:Nat),k≤p.moms.length∧ρ 0=.op js 0 0∧ρ 2=int goal∧ρ 3=int close∧ρ 5=.rp (jG p) 0∧ρ 12=int k∧ρ 10=.os j∧ρ 11=int ((p.moms.take k).foldl (AI w.x.net w.t p.place goal close) ([],0)).2∧Sup H0 H∧H0 j=none∧H j=some (mD ((p.moms.take k).foldl (AI w.x.net w.t p.place goal close) ([],0)).1),fun ρ _=>p.moms.length-bE (ρ 12),⟨0,j,Nat.zero_le _,by simp only[go_sem],by simp only[go_sem],by simp only[go_sem],by simp only[go_sem],(by simp only[go_sem];rfl),by simp only[go_sem],by simp only[go_sem];rfl,U,n_j,R⟩,?_⟩;rintro ρ H ⟨k,j,hk,e0,e2,e3,e5,e12,e10,e11,U,nj,R⟩;simp only[go_sem,e0,e2,e3,e5,e12,e10,e11];refine aB (fun hlt=>?_) (fun hge=>?_)
 · have hlt:=ltB (by simpa using hlt)
   obtain⟨m,hm⟩:=aW hlt;have b1:=inB hlt;have hs:=Sq.fR (f:=AI w.x.net w.t p.place goal close) (b:=(([],0):List Mom×Int)) hm;have hlen:=AA w.x.net w.t p.place goal close p.moms k;generalize (p.moms.take k).foldl (AI w.x.net w.t p.place goal close) ([],0)=s at *;simp only[go_sem,e0,e2,e3,e5,e12,e10,e11,aF hm,b1];refine aL fun i13 hi130=>?_
   have ne_j_i13:j≠i13:=aN R hi130;simp only[go_sem,e0,e2,e3,e5,e12,e10,e11,R];refine aP (aA _ _ _) (by simp[CU]) ?_;have n_i13:=U.none hi130;generalize hGi13:aG (aG _ i13 _) i13 _=HGi13;replace U:=Sup.eq ((U.upd n_i13 _).upd n_i13 _) hGi13;replace R:=(congrFun hGi13.symm j).trans ((aC _ _ _ _ ne_j_i13).trans ((aC _ _ _ _ ne_j_i13).trans R));have R13:HGi13 i13=some (Zt m):=by rw[←hGi13,aA];try rfl
   clear hGi13 hi130;simp only[go_sem,e0,e2,e3,e5,e12,e10,e11,R13,R];have hjw:=U.at hj;have ne:js≠i13:=Sup.ne (Sup.refl H0) hj n_i13;refine dJ [js,i13] [(0,true),(1,true),(2,true),(3,true),(4,true),(5,true),(6,true),(7,true),(8,true),(9,true),(10,true),(11,true),(12,true),(13,true),(14,true),(15,false),(16,true),(17,true),(18,true),(19,true),(20,true),(21,true),(22,true)] (by simp[hjw,R13]) (by kernel_rfl) fun Hp Hr hp hr _ hr0=>?_
   have P_hjw:=(hp js (by simp)).trans hjw;have P_R13:=(hp i13 (by simp)).trans R13;simp only[go_sem,e0,e2,e3,e5,e12,e10,e11,P_hjw,P_R13];refine PC.use (Sq.ZG w.x.net w.t.profile p.place goal m.time (hn)) ?_;simp only[go_sem,e0,e2,e3,e5,e12,e10,e11,P_hjw,P_R13];refine eA hr ?_;simp only[go_sem,e0,e2,e3,e5,e12,e10,e11,R13,hjw];refine dJ [js,i13] [(0,true),(1,true),(2,true),(3,true),(4,true),(5,true),(6,true),(7,true),(8,true),(9,true),(10,true),(11,true),(12,true),(13,true),(14,true),(15,true),(16,true),(17,true),(18,true),(19,true),(20,true),(21,true)] (by simp[hjw,R13]) (by kernel_rfl) fun Hp Hr hp hr _ hr0=>?_
   have P_hjw:=(hp js (by simp)).trans hjw;have P_R13:=(hp i13 (by simp)).trans R13;simp only[go_sem,e0,e2,e3,e5,e12,e10,e11,P_hjw,P_R13];refine eA hr ?_;simp only[go_sem,e0,e2,e3,e5,e12,e10,e11,R13];have ha : AI w.x.net w.t p.place goal close s m = (if (((dP w.x.net w.t.profile p.place goal m.time).2.2 == 0 && decide ((dP w.x.net w.t.profile p.place goal m.time).1 ≤ close)) && decide (W (W (m.driven + (dP w.x.net w.t.profile p.place goal m.time).1) - m.time) ≤ w.t.drive)) = true
      then s.1++[⟨(dP w.x.net w.t.profile p.place goal m.time).1,W (W (m.driven+(dP w.x.net w.t.profile p.place goal m.time).1)-m.time)⟩]else s.1,(dP w.x.net w.t.profile p.place goal m.time).2.1):=rfl
   rw[ha]at hs;clear ha;generalize dP w.x.net w.t.profile p.place goal m.time=g at *;refine dT (fun ρ' H'=>∃(j':Nat),ρ' 0=ρ 0∧ρ' 2=ρ 2∧ρ' 3=ρ 3∧ρ' 5=ρ 5∧ρ' 12=ρ 12∧ρ' 10=.os j'∧ρ' 11=int g.2.1∧H' j'=some (mD (if((g.2.2 == 0&&decide (g.1≤close))&&decide (W (W (m.driven+g.1)-m.time)≤w.t.drive))=true then s.1++[⟨g.1,W (W (m.driven+g.1)-m.time)⟩]else s.1))∧Sup H0 H'∧H0 j'=none) ?_ fun K hK hKe hKr=>aB (fun hb=>?_) (fun hb=>?_)
   rotate_left
   · have hb2:((g.2.2 == 0&&decide (g.1≤close))&&decide (W (W (m.driven+g.1)-m.time)≤w.t.drive))=true:=hb
     rw[if_pos hb2]at hK;simp only[go_sem,e0,e2,e3,e5,e12,e10,e11,R13];refine aX R ⟨rfl,rfl⟩ (by simp only[go_sem]) (by simp only[List.length_map,List.length_cons,List.length_nil];omega) (fun j' hj'=>?_);simp only[go_sem,e0,e2,e3,e5,e12,e10,e11];refine hK _ _ ⟨j',by simp only[go_sem],by simp only[go_sem],by simp only[go_sem],by simp only[go_sem],by simp only[go_sem],by simp only[go_sem],by simp only[go_sem],(aA _ _ _).trans (congrArg some (Af s.1 ⟨g.1,W (W (m.driven+g.1)-m.time)⟩)),(U.upd nj _).upd (U.none hj') _,U.none hj'⟩
   · have hb2:((g.2.2 == 0&&decide (g.1≤close))&&decide (W (W (m.driven+g.1)-m.time)≤w.t.drive))=false:=hb
     rw[if_neg (fun h=>Bool.noConfusion (hb2.symm.trans h))]at hK;refine hK _ _ ⟨j,by simp only[go_sem],by simp only[go_sem],by simp only[go_sem],by simp only[go_sem],by simp only[go_sem],by simp only[go_sem,e10],by simp only[go_sem],R,U,nj⟩
   rintro ρ H ⟨j',k0,k2,k3,k5,k12,e10,e11,R,U,nj⟩;replace e0:=k0.trans e0;clear k0;replace e2:=k2.trans e2;clear k2;replace e3:=k3.trans e3;clear k3;replace e5:=k5.trans e5;clear k5;replace e12:=k12.trans e12;clear k12;simp only[go_sem,e0,e2,e3,e5,e12,e10,e11,bA (show k≤4611686018427387904 by omega)];refine⟨⟨k+1,j',hlt,rfl,rfl,?_⟩,by simp only[aH];omega⟩;rw[hs];exact⟨rfl,U,nj,R⟩
 have hge:=geB hk (by simpa using hge);subst hge;rw[List.take_length]at e11 R;simp only[go_sem,e0,e2,e3,e5,e12,e10,e11];exact⟨U,[j],by simpa using nj,.tup _ _ (.cons _ _ _ _ (.row _ _ _ (by simp;exact R) (ConvE.refl _)) (.cons _ _ _ _ (.refl _) .nil))⟩
end Go.Proofs.YtdlijlecpopadaaGreatDoor.Rx
end

section
set_option linter.unusedSimpArgs false
set_option linter.unusedVariables false
namespace Go.Aw
open Go.RowKit
section
variable{P:Program}{f:FuncId}{args:List AV}{H H1:aE}{K:AV→aE→Prop}{r:AV}
def MC(P:Program)(f:FuncId)(args:List AV)(H H1:aE)(r:AV):Prop:=∀K:AV→aE→Prop,K r H1→bH P f args H K
theorem MC.use(h:MC P f args H H1 r)(hK:K r H1):bH P f args H K:=h K hK
theorem bH.dataM(hs:∀k,H k=none→H1 k=none)(h:bH P f args H (lU H1 r))(hK:K r H1):bH P f args H K:=by
 intro S w vals hS ha;refine(h S w vals hS ha).mono fun e w' ⟨v,x,H',S',he,⟨hm,l,hl,hc⟩,hS',hv,hg,hn⟩=>?_
 obtain⟨h1,h2,h3⟩:=hS'.frz l;refine⟨v,r,H1,S'.froze _,he,hK,h1.drop (fun k row hk=>?_),hc.rep h3 hv,hg.trans h2,fun k _ h0=>hs k h0⟩;have hkl:¬k∈l:=fun hkl=>by rw[hl k hkl]at hk;cases hk
 show(if k∈l then none else H' k)=some row;rw[if_neg hkl];exact hm k row hk
theorem MC.body{fn : Func}{c : Code}(mt : Nat → Bool)(hs : ∀ k, H k = none → H1 k = none)(hm : P.follows .mixedOrders = true)(hf : P.funcs[f]? = some fn)(hb : fn.body = some c)(hc : CF fn c args.length = true)
 (h:awp P (bH P) (dK P) mt c (MN P fn.results.toList (lU H1 r)) (Hx args) H):MC P f args H H1 r:=fun K hK=>bH.dataM hs (bH.body mt hm hf hb hc h) hK
theorem Lk{H:aE}{j:Nat}{a:Row}(h:H j=some a):aG H j (some a)=H:=funext fun k=>by
 by_cases e:k=j
 · subst e;rw[aA,h]
 · rw[aC _ _ _ _ e]
theorem A6(H:aE)(j:Nat)(a b:Option Row):aG (aG H j a) j b=aG H j b:=funext fun k=>by
 by_cases e:k=j
 · subst e;rw[aA,aA]
 · rw[aC _ _ _ _ e,aC _ _ _ _ e,aC _ _ _ _ e]
theorem Sup.set{H H':aE}(h:Sup H H')(j:Nat)(a:Option Row):Sup (aG H j a) (aG H' j a):=fun k row hk=>by
 by_cases e:k=j
 · subst e;rw[aA]at hk ⊢;exact hk
 · rw[aC _ _ _ _ e]at hk ⊢;exact h k row hk
theorem Sup.set2{H H':aE}{j:Nat}{b:Option Row}(h:Sup (aG H j b) H')(a:Option Row):Sup (aG H j a) (aG H' j a):=by
 have:=Sup.set h j a
 rwa [A6]at this
theorem Cz{H:aE}{j:Nat}{a:Option Row}{b:Row}(h:H j=some b):∀k,H k=none→aG H j a k=none:=fun k hk=>by
 by_cases e:k=j
 · subst e;rw[h]at hk;cases hk
 · rw[aC _ _ _ _ e,hk]
theorem sI{P : Program}{C : lB}{PC : FuncId → List AV → aE → AV → Prop}{mt : Nat → Bool}{ops : List Oper}{K : Env → aE → Prop}{m : Nat}{ρ : Env}{H : aE}(l : List Nat)(t : Mx)(J : Env → aE → Prop)(hl : ∀ k, k ∈ l → (H k).isSome = true)(hB : Jk ops.toArray t = true)
 (h:∀K':Env→aE→Prop,(∀ρ' H',J ρ' H'→K' ρ' H')→∀Hp Hr:aE,(∀k,k∈l→Hp k=H k)→(∀k,k∉l→Hr k=H k)→(∀k,k∉l→Hp k=none)→(∀k,k∈l→Hr k=none)→mB P C PC mt ops.toArray (lD l H K') Hp t ρ Hr)
 (hK:∀ρ' H',J ρ' H'→K ρ' H'):rC P C PC mt ops.toArray K m ρ H:=zT l t hl hB (h K hK)
end
end Go.Aw
namespace Go.Proofs.YtdlijlecpopadaaGreatDoor.Rx
open Go.Aw Go.Aw.D Go.Proofs Ty Go.Nu Go.So
open Sq (W jW eM kE NetOk dP)
open Nu (ltB geB Bt vI lC)
open Mv (fZ fA kI NC.pc bR)
set_option maxRecDepth 100000
def Dq(l:List Mom):Int:=(l.getD 0 ⟨0,0⟩).time
def Ia(l:List Mom):Int:=l.foldl (fun e m=>rN e m.time) (Dq l)
def E1(t:VType)(e:Int):Int:=W (e-t.start)
def SX(t:VType)(e miles:Int):Int:=W (W (t.fixed+W (t.perMile*miles))+W (t.perTick*E1 t e))
def rY(t:VType)(p:RP)(e miles:Int):Int:=
 W (W (W (W (W (W (SX t e (W (p.miles+miles))*16)+p.moved)*16)+p.other)*65536)+W (W (Int.tdiv (E1 t e) 64)*W (Int.tdiv (E1 t e) 64)))
def Hn(s:Rs)(v:ByteArray):Rs:=
 if(!s.found||decide (Ea v s.least<0))=true then { s with count:=W (s.count+1),found:=true,least:=v }else { s with count:=W (s.count+1) }
def vY(s:Rs)(p:RP):Rs:=
 if((p.visits:Int) == 0||(p.board:Int) != 0)=true then s
 else
   let a:=fU s.x.net s.t p.place s.t.dst s.t.close p.moms
   if a.1.length=0 then s else Hn s (pQ (zed (rY s.t p (Ia a.1) a.2)) p.dual).1
theorem Uo(H0 : aE)(js : Nat)(w : Rs)(hj : H0 js = some (gL w))(p : RP)(hn : Sq.NetB w.x.net)(hl : p.moms.length ≤ 1048576)(hd : p.dual.size ≤ 1048570)(hle : w.least.size ≤ 1048576):
   MC Tryz.prog 162 [.op js 0 0,.agg (jG p)] H0 (aG H0 js (some (gL (vY w p)))) (.tup []):=by
 refine MC.body (c:=Tryz.f162.body.getD .skip) (fun _=>false) (Cz hj) mixed Tryz.func162 rfl (by kernel_rfl) ?_;unfold Tryz.f162;simp only[Option.getD_some];simp only[go_sem];have U:=Sup.refl H0;unfold vY;refine aB (fun hb=>?_) (fun hb=>?_)
 · rw[if_pos hb,Lk hj]
   simp only[go_sem];exact lU.flat U _
 rw[if_neg (fun h=>Bool.noConfusion (hb.symm.trans h))];simp only[go_sem];refine sI [] (.q 0 (.q 1 (.q 2 (.q 3 (.q 4 (.q 5 (.q 7 (.q 8 (.q 9 (.q 10 (.a2 6 (.a1 11 (.a1 12 (.q 13 (.q 14 (.q 15 (.q 16 (.q 17 .nil)))))))  11 (.a1 6 (.a1 12 (.q 13 (.q 14 (.q 15 (.q 16 (.q 17 .nil)))))))))))))))))) (fun ρ' H'=>H'=H0∧ρ' 0=.op js 0 0∧ρ' 3=.rp (jG p) 0∧ρ' 4=.sl ((fU w.x.net w.t p.place w.t.dst w.t.close p.moms).1.map jT)∧ρ' 5=int (fU w.x.net w.t p.place w.t.dst w.t.close p.moms).2) (by simp) (by kernel_rfl) (fun K' hK Hp Hr hp hr _ _=>?_) ?_
 · obtain rfl:Hr=H0:=funext fun k=>hr k (by simp)
   simp only[go_sem];have hA:=Dh Hr js w hj p w.t.dst w.t.close hn hl;generalize fU w.x.net w.t p.place w.t.dst w.t.close p.moms=A at hA hK;refine lA ?_ ?_
   · simp only[go_sem,hj]
     refine LC.use hA ?_;simp only[go_sem,hj];refine eA (fun _ _=>rfl) (hK _ _ ⟨rfl,by simp only[go_sem],by simp only[go_sem],by simp only[go_sem],by simp only[go_sem]⟩)
   · simp only[go_sem,hj]
     refine LC.use hA ?_;simp only[go_sem,hj];refine eA (fun _ _=>rfl) (hK _ _ ⟨rfl,by simp only[go_sem],by simp only[go_sem],by simp only[go_sem],by simp only[go_sem]⟩)
 have hAl:(fU w.x.net w.t p.place w.t.dst w.t.close p.moms).1.length≤1048576:=Nat.le_trans (by have:=AA w.x.net w.t p.place w.t.dst w.t.close p.moms p.moms.length;rw[List.take_length]at this;exact this) hl;generalize fU w.x.net w.t p.place w.t.dst w.t.close p.moms=A at hAl ⊢;rintro ρ H ⟨hH,e0,e3,e4,e5⟩;replace hH:=hH.symm;subst hH;simp only[go_sem,e0,e3,e4,e5,List.length_map];refine aB (fun hb=>?_) (fun hb=>?_)
 · have hz:A.1.length=0:=by simpa using hb
   rw[if_pos hz,Lk hj];simp only[go_sem];exact lU.flat U _
 have hz:¬A.1.length=0:=by simpa using hb
 rw[if_neg hz];obtain⟨m0,hm0⟩:=aW (l:=A.1) (k:=0) (by omega);have b0:(0:Int)≤0∧(0:Int)<(A.1.length:Int):=by omega
 have hh0:Dq A.1=m0.time:=by unfold Dq;rw[List.getD,hm0];rfl
 simp only[go_sem,e0,e3,e4,e5,aF hm0,b0];refine⟨fun ρ H=>∃(k:Nat),k≤A.1.length∧ρ 0=.op js 0 0∧ρ 3=.rp (jG p) 0∧ρ 4=.sl (A.1.map jT)∧ρ 5=int A.2∧ρ 7=int k∧ρ 6=int ((A.1.take k).foldl (fun e m=>rN e m.time) (Dq A.1))∧H=H0,fun ρ _=>A.1.length-bE (ρ 7),⟨0,Nat.zero_le _,by simp only[go_sem,e0,e3,e4,e5],by simp only[go_sem,e0,e3,e4,e5],by simp only[go_sem,e0,e3,e4,e5],by simp only[go_sem,e0,e3,e4,e5],(by simp only[go_sem,e0,e3,e4,e5];rfl),by simp only[go_sem];rw[hh0];rfl,rfl⟩,?_⟩;rintro ρ H ⟨k,hk,e0,e3,e4,e5,e7,e6,hH⟩;simp only[go_sem,e0,e3,e4,e5,e7,e6];refine aB (fun hlt=>?_) (fun hge=>?_)
 · have hlt:=ltB (by simpa using hlt)
   obtain⟨m,hm⟩:=aW hlt;have b1:=inB hlt;have hs:=Sq.fR (f:=fun(e:Int) (m:Mom)=>rN e m.time) (b:=Dq A.1) hm;generalize (A.1.take k).foldl (fun e m=>rN e m.time) (Dq A.1)=E at *;simp only[go_sem,e0,e3,e4,e5,e7,e6,aF hm,b1,bA (show k≤4611686018427387904 by omega)];exact⟨⟨k+1,hlt,rfl,by rw[hs],hH⟩,by simp only[aH];omega⟩
 have hge:=geB hk (by simpa using hge);subst hge;rw[List.take_length]at e6;have e6:ρ 6=int (Ia A.1):=e6;replace hH:=hH.symm;subst hH;generalize Ia A.1=E at e6 ⊢;simp only[go_sem,e0,e3,e4,e5,e7,e6,hj];refine dJ [js] [(0,true),(1,true),(2,true),(3,true),(4,true),(5,true),(6,true),(7,true),(8,true),(9,true),(10,true),(11,true),(12,true),(13,true),(14,true),(15,true),(16,true),(17,true),(18,true),(19,true),(20,true),(21,true),(22,true),(23,true),(24,true)] (by simp[hj]) (by kernel_rfl) fun Hp Hr hp hr _ hr0=>?_
 have P_hj:=(hp js (by simp)).trans hj;simp only[go_sem,e0,e3,e4,e5,e7,e6,P_hj];refine eA hr ?_;simp only[go_sem,e0,e3,e4,e5,e7,e6,hj];refine⟨by decide,by decide,?_⟩;refine jD [(0,true),(2,true),(3,true),(1,false),(4,false),(5,true),(6,true),(7,true),(8,true),(9,true)] (by kernel_rfl) ?_;simp only[go_sem,e0,e3,e4,e5,e7,e6,hj];have hpb:=Cy (W (W (W (W (W (SX w.t E (W (p.miles+A.2))*16)+p.moved)*16)+p.other)*65536)+W (W (Int.tdiv (E1 w.t E) 64)*W (Int.tdiv (E1 w.t E) 64)));refine PC.use (Bt (rY w.t p E A.2) hpb.1 hpb.2) ?_;have hzs:=UB hpb.1 hpb.2;replace hzs:(zed (rY w.t p E A.2)).size≤8194:=hzs;clear hpb;generalize zed (rY w.t p E A.2)=Z at hzs ⊢;simp only[go_sem,e0,e3,e4,e5,e7,e6,hj];refine PC.use (vI Z p.dual (by omega) hd) ?_;have hsz:=Hk Z p.dual;generalize pQ Z p.dual=SR at hsz ⊢;simp only[go_sem,e0,e3,e4,e5,e7,e6,hj];generalize hF:aG H0 js (some (gL (Hn w SR.1)))=HF;refine bY so3 hj (by simp[nR]) ?_;generalize hG:aG H0 js _=HB;replace hG:HB=aG H0 js (some (gL { w with count:=W (w.count+1) })):=hG.symm;have R1:HB js=some (gL { w with count:=W (w.count+1) }):=by rw[hG,aA]
 simp only[go_sem,e0,e3,e4,e5,e7,e6,R1];have hsz1:SR.1.size≤1048576:=by omega
 refine⟨_,fun _=>(lC SR.1 w.least hsz1 hle).q rfl,?_⟩;simp only[go_sem,e0,e3,e4,e5,e7,e6,R1];refine aB (fun hb=>?_) (fun hb=>?_)
 · have hP:Hn w SR.1={ w with count:=W (w.count+1),found:=true,least:=SR.1 }:=if_pos hb
   rw[hP]at hF;simp only[go_sem,e0,e3,e4,e5,e7,e6,R1];refine bY so4 R1 (by simp[nR]) ?_;generalize hG2:aG HB js _=HC;have R2:HC js=some (gL { w with count:=W (w.count+1),found:=true }):=by rw[←hG2,aA];rfl
   simp only[go_sem,e0,e3,e4,e5,e7,e6,R2];refine bY Qs R2 (by simp[nR]) ?_;simp only[go_sem];refine lU.flat (Sup.eq (Sup.refl _) ?_) _;rw[←hG2,hG,A6,A6,←hF];rfl
 · have hP:Hn w SR.1={ w with count:=W (w.count+1) }:=if_neg (fun h=>Bool.noConfusion (hb.symm.trans h))
   rw[hP,←hG]at hF;simp only[go_sem];exact lU.flat (Sup.eq (Sup.refl _) hF.symm) _
end Go.Proofs.YtdlijlecpopadaaGreatDoor.Rx
end
