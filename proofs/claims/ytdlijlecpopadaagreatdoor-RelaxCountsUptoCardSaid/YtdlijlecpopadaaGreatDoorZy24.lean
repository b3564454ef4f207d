/- Texts joined by a program: SqJ, SqO, SqR, AuA, AuE, AuF. -/
import Derived.Test.YtdlijlecpopadaaGreatDoorZy23

section
set_option linter.unusedSimpArgs false
set_option linter.unusedVariables false
namespace Go.Proofs.YtdlijlecpopadaaGreatDoor.Sq
open Go.Aw Go.Aw.D Go.Proofs Ty
open Mv (fZ fA kI NC.pc bR)
set_option maxRecDepth 100000
def lW(t:Int)(s:Int)(p:Point):Int:=if decide (p.t≤t)=true then W (s+p.a)else s
def oR(a:Arc)(t:Int):Int:=a.slow.foldl (lW t) (fD a.travel t)
structure ArcB(a:Arc):Prop where
 travel:a.travel.length≤1048576
 slow:a.slow.length≤1048576
 time:∀p∈a.travel,Vo p.t
theorem Mf(a:Arc)(t:Int)(ha:ArcB a):PC Tryz.prog 274 [.agg (eH a),int t] (int (oR a t)):=by
 have hsl:=ha.slow;refine PC.body (c:=Tryz.f274.body.getD .skip) (fun _=>false) mixed Tryz.func274 rfl (by kernel_rfl) ?_;unfold Tryz.f274;simp only[Option.getD_some];simp only[go_sem];refine PC.use (Lt a.travel t ha.travel ha.time) ?_;simp only[go_sem];refine⟨fun ρ _=>∃k:Nat,k≤a.slow.length∧ρ 1=int t∧ρ 2=.rp (eH a) 0∧ρ 5=int ((a.slow.take k).foldl (lW t) (fD a.travel t))∧ρ 6=int k,fun ρ _=>a.slow.length-bE (ρ 6),⟨0,Nat.zero_le _,rfl,rfl,rfl,rfl⟩,?_⟩;rintro ρ H ⟨k,hk,h1,h2,h5,h6⟩;simp only[go_sem,h1,h2,h5,h6];refine aB (fun hlt=>?_) (fun hge=>?_)
 · have hlt:=cF hlt
   obtain⟨p,hp⟩:=aW hlt;have b1:=inB hlt;have hs:(a.slow.take (k+1)).foldl (lW t) (fD a.travel t)=lW t ((a.slow.take k).foldl (lW t) (fD a.travel t)) p:=by rw[cM hp,List.foldl_append];rfl
   simp only[go_sem,h1,h2,h5,h6,aF hp,b1];refine dT (fun ρ' _=>ρ' 1=int t∧ρ' 2=.rp (eH a) 0∧ρ' 5=int ((a.slow.take (k+1)).foldl (lW t) (fD a.travel t))∧ρ' 6=int k) ?_ fun K hK _ _=>aB (fun hb=>?_) (fun hb=>?_)
   · clear h1 h2 h5 h6
     rintro ρ H ⟨h1,h2,h5,h6⟩;simp only[go_sem,h1,h2,h5,h6,bA (show k≤4611686018427387904 by omega)];exact⟨⟨k+1,hlt,rfl,rfl⟩,by simp only[aH];omega⟩
   · simp only[go_sem,h1,h2,h5,h6,aF hp,b1]
     refine hK _ _ ⟨by simp only[go_sem,h1],by simp only[go_sem,h2],?_,by simp only[go_sem,h6]⟩;simp only[go_sem];rw[hs,lW,if_pos hb];rfl
   · simp only[go_sem]
     refine hK _ _ ⟨by simp only[go_sem,h1],by simp only[go_sem,h2],?_,by simp only[go_sem,h6]⟩;simp only[go_sem,h5];rw[hs,lW,if_neg (by rw[hb];simp)]
 · have hge:=cH hk hge
   subst hge;simp only[go_sem,h5];rw[List.take_length];exact .refl _
structure NetB(n:Network):Prop where
 arcs:n.arcs.length≤1048576
 arc:∀a∈n.arcs,ArcB a
def dP(n:Network)(p f t time:Int):Int×Int×Int:=
 if(!Ck n f|| !Ck n t)=true then(0,0,11)else if(f == t)=true then(time,0,0)
 else match kF n p f t with|some a=>(oR a time,a.miles,0)|none=>(0,0,12)
theorem ZG(n:Network)(p f t time:Int)(hn:NetB n):PC Tryz.prog 234 [.agg (aT n),int p,int f,int t,int time] (.tup [int (dP n p f t time).1,int (dP n p f t time).2.1,int (dP n p f t time).2.2]):=by
 refine PC.body (c:=Tryz.f234.body.getD .skip) (fun _=>false) mixed Tryz.func234 rfl (by kernel_rfl) ?_;unfold Tryz.f234;simp only[Option.getD_some];simp only[go_sem];refine PC.use (Gx n f) ?_;simp only[go_sem];refine⟨_,fun _=>(Gx n t).q rfl,?_⟩;simp only[go_sem];refine aB (fun h1=>?_) (fun h1=>?_)
 · simp only[go_sem]
   have:dP n p f t time=(0,0,11):=by unfold dP;rw[if_pos h1]
   rw[this];exact .refl _
 simp only[go_sem];refine aB (fun h2=>?_) (fun h2=>?_)
 · simp only[go_sem]
   have:dP n p f t time=(time,0,0):=by unfold dP;rw[if_neg (by rw[h1];simp),if_pos h2]
   rw[this];exact .refl _
 have hg:dP n p f t time=match kF n p f t with|some a=>(oR a time,a.miles,0)|none=>(0,0,12):=by unfold dP;rw[if_neg (by rw[h1];simp),if_neg (by rw[h2];simp)]
 rw[hg];simp only[go_sem];refine PC.use (QY n p f t hn.arcs) ?_;simp only[go_sem];refine aL fun j hj=>?_
 simp only[go_sem];refine aP (aA _ _ _) (by simp[dF]) ?_;simp only[go_sem,dF];cases hf:kF n p f t with
 | none=>
   refine aB (fun _=>?_) (fun hb=>by simp at hb);simp only[go_sem];exact .refl _
 | some a=>
   have ha:ArcB a:=hn.arc a (List.mem_of_find?_eq_some hf);refine aB (fun hb=>by simp at hb) (fun _=>?_);simp only[go_sem,Option.getD_some,dF];refine fQ (by rfl) (by kernel_rfl) ?_;simp only[go_sem,dF];refine⟨_,(Mf a time ha).q rfl,?_⟩;simp only[go_sem,dF];exact .refl _
structure Score where
 cost:Int
 moved:Int
 other:Int
 work:Int
def tW(c s:Int)(i:Nat):Bool:=(IntKind.i64.wrap (Int.tdiv s (2^i:Nat))).tmod 2 == 1&&(IntKind.i64.wrap (Int.tdiv c (2^i:Nat))).tmod 2 == 0
def jM(c s:Int):Bool:= !(decide (c<0)||decide (s<0))&&(List.range 63).all fun i=> !tW c s i
theorem TP(t:VType)(s:Int):PC Tryz.prog 163 [.agg (bC t),int s] (boo (jM t.skills s)):=by
 refine PC.body (c:=Tryz.f163.body.getD .skip) (fun _=>false) mixed Tryz.func163 rfl (by kernel_rfl) ?_;unfold Tryz.f163;simp only[Option.getD_some];simp only[go_sem];refine aB (fun h1=>?_) (fun h1=>?_)
 · simp only[go_sem]
   exact fA (by unfold jM;rw[h1];rfl)
 have ha:jM t.skills s=(List.range 63).all fun i=> !tW t.skills s i:=by unfold jM;rw[h1];rfl
 rw[ha];simp only[go_sem];refine⟨fun ρ _=>∃k:Nat,k≤63∧ρ 1=int s∧ρ 2=.rp (bC t) 0∧ρ 5=int (IntKind.i64.wrap (2^k:Nat))∧∀i∈(List.range 63).take k,tW t.skills s i=false,fun ρ _=>if bE (ρ 5)=0 then 0 else 9223372036854775809-bE (ρ 5),⟨0,Nat.zero_le _,rfl,rfl,rfl,by simp⟩,?_⟩;rintro ρ H ⟨k,hk,h1,h2,h5,hz⟩;by_cases hk63:k=63
 · subst hk63
   have hw:IntKind.i64.wrap ((2^63:Nat):Int)= -9223372036854775808:=by decide +kernel
   rw[hw]at h5;simp only[go_sem,h1,h2,h5];refine aB (fun hb=>by simp at hb) (fun _=>?_);simp only[go_sem];refine fA ?_
   symm
   rw[List.all_eq_true];intro i hi;rw[hz i (by rw[List.take_of_length_le (by simp)];exact hi)];rfl
 · have hlt:k<63:=by omega
   have hp:2^k≤2^62:=Nat.pow_le_pow_right (by decide) (by omega);have hp0:0<2^k:=Nat.two_pow_pos k;have hw:IntKind.i64.wrap ((2^k:Nat):Int)=((2^k:Nat):Int):=aQ (by omega);have hw2:((2^k:Nat):Int)*2=((2^(k+1):Nat):Int):=by rw[Nat.pow_succ];push_cast;rfl
   rw[hw]at h5;simp only[go_sem,h1,h2,h5];have hpos:decide (((2^k:Nat):Int)>0)=true:=decide_eq_true (by exact_mod_cast hp0);have hnz:¬(((2^k:Nat):Int)=0):=fun h=>absurd (by exact_mod_cast h:2^k=0) (by omega)
   refine aB (fun _=>?_) (fun hb=>by rw[hpos]at hb;cases hb);simp only[go_sem,h1,h2,h5];refine⟨hnz,by decide,fun _=>hnz,fun _=>by decide,?_⟩;refine aB (fun hb=>?_) (fun hb=>?_)
   · simp only[go_sem]
     refine fA ?_
     symm
     rw[List.all_eq_false];exact⟨k,List.mem_range.2 hlt,by rw[show tW t.skills s k=true from hb];simp⟩
   · simp only[go_sem,h1,h2,h5,hw2]
     refine⟨⟨k+1,by omega,rfl,bR (p:=fun i=>tW t.skills s i=false) (mP hlt) hb hz⟩,?_⟩;have hb1:bE (int ((2^k:Nat):Int))=2^k:=aH.trans (Int.toNat_natCast _);have hold:(if bE (int ((2^k:Nat):Int))=0 then 0 else 9223372036854775809-bE (int ((2^k:Nat):Int)))=9223372036854775809-2^k:=by rw[hb1,if_neg (by omega)]
     rw[hold];by_cases e:k=62
     · subst e
       have:bE (AV.v (Value.int IntKind.i64 (IntKind.i64.wrap ((2^(62+1):Nat):Int))))=0:=by decide +kernel
       rw[this];simp
     · have hp1:2^(k+1)≤2^62:=Nat.pow_le_pow_right (by decide) (by omega)
       have hw3:IntKind.i64.wrap ((2^(k+1):Nat):Int)=((2^(k+1):Nat):Int):=aQ (by omega);have hb2:bE (int ((2^(k+1):Nat):Int))=2^(k+1):=aH.trans (Int.toNat_natCast _);rw[hw3,hb2];rw[if_neg (by have:=Nat.two_pow_pos (k+1);omega),Nat.pow_succ];rw[Nat.pow_succ]at hp1;omega
def kJ:Stop:=⟨0,0,0,0⟩
def oY(o:Order)(v:Visit):Stop:=if v.drop=true then o.drop else o.pick
def yR(x:Instance)(v:Visit):Stop×Bool:=if pH v.order x.orders.length=true then(kJ,false)else
 match x.orders[v.order.toNat]? with
 | some o=>(oY o v,decide ((oY o v).place≥0))
 | none=>(kJ,false)
structure St8 where
 place:Int
 time:Int
 driven:Int
 miles:Int
end Go.Proofs.YtdlijlecpopadaaGreatDoor.Sq
end

section
set_option linter.unusedSimpArgs false
set_option linter.unusedVariables false
namespace Go.Proofs.YtdlijlecpopadaaGreatDoor.Sq
open Go.Aw Go.Aw.D Go.Proofs Ty
open Mv (fZ fA kI NC.pc bR)
set_option maxRecDepth 100000
structure Tm where
 arrive:Int
 begin_:Int
 depart:Int
 rest:Bool
structure Sheet where
 rest:Bool
 depart:Int
 times:List Tm
 end_:Int
 miles:Int
theorem Yd{H:aE}{i j:Nat}{r:Row}{b:Option Row}(hi:H i=some r)(h1:i≠j):aG H j b i=some r:=by rw[aC _ _ _ _ h1,hi]
abbrev lH(s:Stop):Row:=⟨141,4,[iC s]⟩
abbrev DH(l:List Int):Row:=⟨3,1,l.map aO⟩
abbrev zeroCells:List AV:=[boo false,int 0,.sl [],int 0,int 0]
end Go.Proofs.YtdlijlecpopadaaGreatDoor.Sq
end

section
set_option linter.unusedSimpArgs false
set_option linter.unusedVariables false
namespace Go.Proofs.YtdlijlecpopadaaGreatDoor.Sq
open Go.Aw Go.Aw.D Go.Proofs Ty
open Mv (fZ fA kI NC.pc bR)
set_option maxRecDepth 100000
structure InsB(x:Instance):Prop where
 net:NetB x.net
 types:x.types.length≤1048576
 orders:x.orders.length≤1048576
 apart:x.apart.length≤1048576
 before:x.before.length≤1048576
structure PlanB(p:Plan):Prop where
 routes:p.routes.length≤1048576
 visits:∀r∈p.routes,r.visits.length≤1048576
 unserved:p.unserved.length≤1048576
theorem yT{P : Program}{C : lB}{PC : FuncId → List AV → aE → AV → Prop}{mt : Nat → Bool}{ops : Array Oper}{K : Env → aE → Prop}{m : Nat}{ρ : Env}{H : aE}(J : Env → aE → Prop)(h1 : ∀ ρ H, J ρ H → K ρ H)
 (h2:∀K':Env→aE→Prop,(∀ρ H,J ρ H→K' ρ H)→rC P C PC mt ops K' m ρ H):rC P C PC mt ops K m ρ H:=h2 K h1
end Go.Proofs.YtdlijlecpopadaaGreatDoor.Sq
end

section
set_option linter.unusedSimpArgs false
set_option linter.unusedVariables false
namespace Go.Proofs.YtdlijlecpopadaaGreatDoor.Sq
open Go.Aw Go.Aw.D Go.Proofs Ty
open Mv (fZ fA kI NC.pc bR)
set_option maxRecDepth 100000
theorem qA{α:Type}{p:α→Bool}:∀(l:List α) (n:Int),0≤n→decide (qS p l n≥0)=l.any p
 | [],n,_=>rfl
 | a::r,n,hn=>by
   have ih:=qA (p:=p) r (n+1) (by omega);rw[Bool.eq_iff_iff]at ih ⊢;simp only[decide_eq_true_eq]at ih ⊢;rw[List.any_cons,Bool.or_eq_true,←ih];by_cases h:p a=true
   · rw[show qS p (a::r) n=n from if_pos h];exact⟨fun _=>.inl h,fun _=>hn⟩
   · rw[show qS p (a::r) n=qS p r (n+1)from if_neg h];exact⟨fun x=>.inr x,fun x=>x.resolve_left h⟩
theorem Ik(l:List Int):(VF l).length=1:=(rfl)
attribute [go_sem] Ik
theorem Ny(l:List Order)(k:Int):PC Tryz.prog 122 [.sl (l.map aV),int k] (boo (!pH k l.length)):=by
 refine PC.body (c:=Tryz.f122.body.getD .skip) (fun _=>false) mixed Tryz.func122 rfl (by kernel_rfl) ?_;unfold Tryz.f122;simp only[Option.getD_some];simp only[go_sem];refine fA ?_;unfold pH;rw[Bool.eq_iff_iff];simp
theorem Xt{α:Type}{p:α→Bool}{l:List α}{k:Nat}{x:α}(hk:l[k]?=some x)(hx:p x=false):l.all p=false:=by
 rw[List.all_eq_false];exact⟨x,List.mem_of_getElem? hk,by simp[hx]⟩
theorem and1(x:Int):qQ .and .i64 x 1=x%2:=by
 have h:((BitVec.ofInt 64 x &&& BitVec.ofInt 64 1).toNat:Int)=x%2:=by
   rw[BitVec.toNat_and,BitVec.toNat_ofInt,BitVec.toNat_ofInt];have:((1:Int)%((2^64:Nat):Int)).toNat=1:=by decide
   rw[this,Nat.and_one_is_mod];omega
 refine Eq.trans (congrArg IntKind.i64.wrap h) ?_;exact aQ (by omega)
theorem UV{a b:Nat}(ha:a<2^63)(hb:b<2^63):qQ .or .i64 (a:Int) (b:Int)=((a ||| b:Nat):Int):=by
 have h:((BitVec.ofInt 64 (a:Int) ||| BitVec.ofInt 64 (b:Int)).toNat:Int)=((a ||| b:Nat):Int):=by
   rw[BitVec.toNat_or,BitVec.toNat_ofInt,BitVec.toNat_ofInt];have h1:((a:Int)%((2^64:Nat):Int)).toNat=a:=by omega
   have h2:((b:Int)%((2^64:Nat):Int)).toNat=b:=by omega
   rw[h1,h2]
 refine Eq.trans (congrArg IntKind.i64.wrap h) ?_;have:=Nat.or_lt_two_pow ha hb;exact aQ (by omega)
theorem Mw{x:Int}{i:Nat}(h:i≤62):shV .shr .i64 x (i:Int)=x/2^i:=by
 show x.fdiv (2^min ((i:Int)).toNat 64)=_;have:min ((i:Int)).toNat 64=i:=by omega
 rw[this,Int.fdiv_eq_ediv_of_nonneg _ (by exact Int.le_of_lt (Int.pow_pos (by decide)))]
theorem LQ{i:Nat}(h:i≤62):shV .shl .i64 1 (i:Int)=((2^i:Nat):Int):=by
 show IntKind.i64.wrap (1*2^min ((i:Int)).toNat 64)=_;have:min ((i:Int)).toNat 64=i:=by omega
 rw[this,Int.one_mul];have h2:(2:Nat)^i≤2^62:=Nat.pow_le_pow_right (by decide) h;have h3:((2:Int)^i)=((2^i:Nat):Int):=by norm_cast
 rw[h3];generalize 2^i=m at h2;exact aQ (by omega)
def kE(set i:Int):Bool:=decide (i≥0)&&decide (i≤62)&&((set/2^i.toNat)%2 == 1)
theorem CI(set i:Int):PC Tryz.prog 80 [int set,int i] (boo (kE set i)):=by
 refine PC.body (c:=Tryz.f80.body.getD .skip) (fun _=>false) mixed Tryz.func80 rfl (by kernel_rfl) ?_;unfold Tryz.f80;simp only[Option.getD_some];simp only[go_sem];refine⟨fun h=>?_,?_⟩
 · simp at h;omega
 · refine fA ?_
   unfold kE;rw[and1];by_cases h:0≤i∧i≤62
   · obtain⟨h0,h1⟩:=h
     have e:=Mw (x:=set) (i:=i.toNat) (by omega);rw[Int.toNat_of_nonneg h0]at e;rw[e]
   · have:(decide (i≥0)&&decide (i≤62))=false:=by simp;omega
     rw[this];rfl
theorem Qh{n:Int}(h:0≤n∧n<18446744073709551616):IntKind.u64.wrap n=n:=Mv.TJ h
theorem JX{s:Nat}{i:Int}(h0:0≤i)(h1:i≤62):kE (s:Int) i=s.testBit i.toNat:=by
 rw[Nat.testBit_eq_decide_div_mod_eq];unfold kE;have h3:((2:Int)^i.toNat)=((2^i.toNat:Nat):Int):=by norm_cast
 have:((s:Int)/2^i.toNat)=((s/2^i.toNat:Nat):Int):=by rw[h3];rfl
 rw[this];generalize s/2^i.toNat=m;rw[Bool.eq_iff_iff];simp only[beq_iff_eq,decide_eq_true_eq,Bool.and_eq_true];omega
end Go.Proofs.YtdlijlecpopadaaGreatDoor.Sq
end

section
set_option linter.unusedSimpArgs false
set_option linter.unusedVariables false
namespace Go.Proofs.YtdlijlecpopadaaGreatDoor.Sq
open Go.Aw Go.Aw.D Go.Proofs Ty
open Mv (fZ fA kI NC.pc bR)
set_option maxRecDepth 100000
def dX(o:Order)(i:Int):List Visit:=(if decide (o.pick.place≥0)=true then[⟨i,false⟩]else[])++(if decide (o.drop.place≥0)=true then[⟨i,true⟩]else[])
def jW(os:List Order)(i:Int):List Visit:=if pH i os.length=true then[]else match os[i.toNat]? with|some o=>dX o i|none=>[]
theorem rF(o:Order)(i:Int):(dX o i).length≤2:=by unfold dX;split <;> split <;> simp
theorem Ay(os:List Order)(i:Int):(jW os i).length≤2:=by
 unfold jW;split
 · simp
 · split
   · exact rF _ _
   · simp
theorem EK(os:List Order)(i:Int):PC Tryz.prog 64 [.sl (os.map aV),int i] (.sl ((jW os i).map bS)):=by
 refine PC.body (c:=Tryz.f64.body.getD .skip) (fun t=>t == 5) mixed Tryz.func64 rfl (by kernel_rfl) ?_;unfold Tryz.f64;simp only[Option.getD_some];simp only[go_sem];refine aL fun j hj=>?_
 simp only[go_sem];refine PC.use (Ny os i) ?_;simp only[go_sem];refine aB (fun h0=>?_) (fun h0=>?_)
 · have hb:pH i os.length=true:=by simpa using h0
   simp only[go_sem];rw[jW,if_pos hb];exact .refl _
 have hb:pH i os.length=false:=by simpa using h0
 have b0:0≤i∧i<(os.length:Int):=by simp only[pH,Bool.or_eq_false_iff,decide_eq_false_iff_not]at hb;omega
 obtain⟨o,ho⟩:=aW (show i.toNat<os.length by omega);rw[jW,if_neg (by rw[hb];simp),ho];simp only[go_sem,aF ho,b0];refine aB (fun h1=>?_) (fun h1=>?_)
 · simp only[go_sem,aF ho,b0]
   refine aX (aA _ _ _) ⟨rfl,rfl⟩ ⟨rfl,trivial⟩ (by simp) (fun j' hj'=>?_);simp only[go_sem,aF ho,b0];refine aB (fun h2=>?_) (fun h2=>?_)
   · simp only[go_sem,aF ho,b0]
     refine aX (aA _ _ _) ⟨rfl,rfl⟩ ⟨rfl,trivial⟩ (by simp) (fun j2 hj2=>?_);simp only[go_sem];have e:dX o i=[⟨i,false⟩,⟨i,true⟩]:=by unfold dX;rw[if_pos h1,if_pos h2];rfl
     rw[e];exact .row _ _ _ (aA _ _ _) (ConvE.refl _)
   · simp only[go_sem]
     have e:dX o i=[⟨i,false⟩]:=by unfold dX;rw[if_pos h1,if_neg (by rw[h2];simp)];rfl
     rw[e];exact .row _ _ _ (aA _ _ _) (ConvE.refl _)
 · simp only[go_sem,aF ho,b0]
   refine aB (fun h2=>?_) (fun h2=>?_)
   · simp only[go_sem,aF ho,b0]
     refine aX (aA _ _ _) ⟨rfl,rfl⟩ ⟨rfl,trivial⟩ (by simp) (fun j2 hj2=>?_);simp only[go_sem];have e:dX o i=[⟨i,true⟩]:=by unfold dX;rw[if_neg (by rw[h1];simp),if_pos h2];rfl
     rw[e];exact .row _ _ _ (aA _ _ _) (ConvE.refl _)
   · simp only[go_sem]
     have e:dX o i=[]:=by unfold dX;rw[if_neg (by rw[h1];simp),if_neg (by rw[h2];simp)];rfl
     rw[e];exact .row _ _ _ (aA _ _ _) (ConvE.refl _)
def eM(x:Instance)(v:Visit):Stop×Int:=if(yR x v).2=true then((yR x v).1,0)else(kJ,if pH v.order x.orders.length=true then 2 else 19)
theorem OY(x:Instance)(v:Visit):PC Tryz.prog 91 [.sl (x.orders.map aV),.agg (bS v)] (.tup [.agg (iC (eM x v).1),int (eM x v).2]):=by
 refine PC.body (c:=Tryz.f91.body.getD .skip) (fun _=>false) mixed Tryz.func91 rfl (by kernel_rfl) ?_;unfold Tryz.f91;simp only[Option.getD_some];simp only[go_sem];refine aL fun i4 hi40=>?_
 generalize hGi4:aG _ i4 _=HGi4;have R4:HGi4 i4=some (lH kJ):=by rw[←hGi4,aA];try rfl
 clear hGi4 hi40;simp only[go_sem,R4];refine PC.use (Ny x.orders v.order) ?_;simp only[go_sem];refine aB (fun h1=>?_) (fun h1=>?_)
 · have h1:pH v.order x.orders.length=true:=by simpa using h1
   have e:eM x v=(kJ,2):=by unfold eM yR;rw[if_pos h1,if_pos h1];rfl
   rw[e];simp only[go_sem];refine aP R4 (by simp) ?_;simp only[go_sem];exact .refl _
 have h1:pH v.order x.orders.length=false:=by simpa using h1
 have hin:0≤v.order∧v.order<(x.orders.length:Int):=by
   simp only[pH,Bool.or_eq_false_iff,decide_eq_false_iff_not]at h1;omega
 obtain⟨o,ho⟩:=aW (show v.order.toNat<x.orders.length by omega);have e0:yR x v=(oY o v,decide ((oY o v).place≥0)):=by unfold yR;rw[if_neg (by rw[h1];simp),ho]
 have e:eM x v=if(oY o v).place<0 then(kJ,19)else(oY o v,0):=by
   unfold eM;rw[e0,if_neg (show ¬pH v.order x.orders.length=true by rw[h1];simp)];by_cases h:(oY o v).place<0
   · rw[if_pos h,if_neg (by simp;omega)]
   · rw[if_neg h,if_pos (by simp;omega)]
 rw[e];simp only[go_sem,aF ho,hin];refine aL fun i6 hi60=>?_
 have ne_i4_i6:i4≠i6:=aN R4 hi60;simp only[go_sem,R4];refine aP (aA _ _ _) (by simp[jY]) ?_;generalize hGi6:aG (aG _ i6 _) i6 _=HGi6;replace R4:=(congrFun hGi6.symm i4).trans ((aC _ _ _ _ ne_i4_i6).trans ((aC _ _ _ _ ne_i4_i6).trans R4));have R6:HGi6 i6=some (lH o.pick):=by rw[←hGi6,aA];try rfl
 clear hGi6 hi60;simp only[go_sem,R6,R4];refine aU (fun ρ' H'=>ρ' 4=.op i4 0 0∧ρ' 6=.op i6 0 0∧H' i4=some (lH kJ)∧H' i6=some (lH (oY o v))) ?_ fun K hK=>aB (fun hb=>?_) (fun hb=>?_)
 · clear R4 R6
   rintro ρ H ⟨h4,h6,R4,R6⟩;simp only[go_sem,h4,h6,R6];refine aB (fun hp=>?_) (fun hp=>?_)
   · have hp:(oY o v).place<0:=by simpa using hp
     rw[if_pos hp];simp only[go_sem,h4];refine aP R4 (by simp) ?_;simp only[go_sem,h4];exact .refl _
   · have hp:¬(oY o v).place<0:=by simpa using hp
     rw[if_neg hp];simp only[go_sem,h4,h6,R6];refine aP R4 (by simp[jY]) ?_;simp only[go_sem,h4];exact .refl _
 · simp only[go_sem,aF ho,hin]
   refine aP R6 (by simp[jY]) ?_;simp only[go_sem];refine hK _ _ ⟨by simp only[go_sem],by simp only[go_sem],by rw[aC _ _ _ _ ne_i4_i6];exact R4,?_⟩;rw[aA,oY,if_pos hb];rfl
 · simp only[go_sem]
   refine hK _ _ ⟨by simp only[go_sem],by simp only[go_sem],R4,?_⟩;rw[oY,if_neg (by rw[hb];simp)];exact R6
end Go.Proofs.YtdlijlecpopadaaGreatDoor.Sq
end

section
set_option linter.unusedSimpArgs false
set_option linter.unusedVariables false
namespace Go.Proofs.YtdlijlecpopadaaGreatDoor.Sq
open Go.Aw Go.Aw.D Go.Proofs Ty
open Mv (fZ fA kI NC.pc bR)
set_option maxRecDepth 100000
def memU(set:Int)(k:Nat):List Int:=((List.range k).filter fun i:Nat=>kE set (i:Int)).map fun i:Nat=>(i:Int)
def M3(set:Int):List Int:=memU set 63
def Ys(a b:Int):Int:=W (a+b)
def U7(a b:Int):Int:=W (a-b)
theorem ZO(a b:Int):PC Tryz.prog 190 [int a,int b] (int (Ys a b)):=by
 refine PC.body (c:=Tryz.f190.body.getD .skip) (fun _=>false) mixed Tryz.func190 rfl (by kernel_rfl) ?_;unfold Tryz.f190;simp only[Option.getD_some];simp only[go_sem];exact .refl _
theorem Ct(a b:Int):PC Tryz.prog 191 [int a,int b] (int (U7 a b)):=by
 refine PC.body (c:=Tryz.f191.body.getD .skip) (fun _=>false) mixed Tryz.func191 rfl (by kernel_rfl) ?_;unfold Tryz.f191;simp only[Option.getD_some];simp only[go_sem];exact .refl _
theorem RU{α:Type}{l:List α}{k n:Nat}{x z:α}(hl:l.length=n)(h:l[k]?=some x):(l.take k++List.replicate (n-k) z).set k x=l.take (k+1)++List.replicate (n-(k+1)) z:=by
 have hlt:=(List.getElem?_eq_some_iff.1 h).1;have e:n-k=(n-(k+1))+1:=by omega
 rw[cM h,e,List.replicate_succ,List.set_append_right _ _ (by simp;omega)];have:k-(l.take k).length=0:=by simp;omega
 rw[this,List.set_cons_zero];simp
theorem F2{g : Nat}{op : Int → Int → Int}(a b : List Int)(hl : a.length ≤ 1048576)(hab : a.length = b.length)(hok : aD Tryz.prog g = true)(hg : ∀ p q, PC Tryz.prog g [int p, int q] (int (op p q))):
   NC Tryz.prog 189 [.sl (a.map aO),.sl (b.map aO),.v (.func (.func g) #[] #[])] (DH (List.zipWith op a b)) (fun j=>.tup [.os j,int 0]):=by
 have hzl:(List.zipWith op a b).length=a.length:=by rw[List.length_zipWith,←hab,Nat.min_self]
 refine NC.body (c:=Tryz.f189.body.getD .skip) (fun _=>false) mixed Tryz.func189 rfl (by kernel_rfl) ?_;unfold Tryz.f189;simp only[Option.getD_some];simp only[go_sem];refine aB (fun hb=>by rw[hab]at hb;simp at hb) (fun _=>?_);simp only[go_sem];refine⟨⟨by omega,by omega⟩,aL fun j hj=>?_⟩;simp only[go_sem];refine⟨fun ρ H=>∃k:Nat,k≤a.length∧ρ 0=.sl (a.map aO)∧ρ 1=.sl (b.map aO)∧ρ 2=.v (.func (.func g) #[] #[])∧ρ 8=.os j∧ρ 19=int a.length∧ρ 20=int k∧H j=some (DH ((List.zipWith op a b).take k++List.replicate (a.length-k) 0)),fun ρ _=>a.length-bE (ρ 20),⟨0,Nat.zero_le _,rfl,rfl,rfl,rfl,by simp only[go_sem,List.length_map],rfl,?_⟩,?_⟩
 · rw[aA]
   simp[DH,List.map_replicate,aO]
 clear hj;rintro ρ H ⟨k,hk,h0,h1,h2,h8,h19,h20,R⟩;simp only[go_sem,h0,h1,h2,h8,h19,h20];refine aB (fun hlt=>?_) (fun hge=>?_)
 · have hlt:=cF hlt
   obtain⟨p,hp⟩:=aW hlt;obtain⟨q,hq⟩:=aW (show k<b.length by omega);have b1:=inB hlt;have b2:=inB (show k<b.length by omega);simp only[go_sem,h0,h1,h2,h8,h19,h20];refine jD [(0,true),(1,true),(2,true),(3,true),(4,true),(5,true),(6,true),(7,true),(8,false),(9,false),(10,false),(11,false),(12,false),(13,false)] (by kernel_rfl) ?_;simp only[go_sem,h0,h1,h2,h8,h19,h20,aF hp,aF hq,b1,b2,hok];refine PC.use (hg p q) ?_;have hlen:((List.zipWith op a b).take k++List.replicate (a.length-k) 0:List Int).length=a.length:=by simp[hzl];omega
   simp only[go_sem,h0,h1,h2,h8,h19,h20,R];refine⟨⟨b1.1,by rw[hlen];exact b1.2⟩,bY so3 R (by rw[List.length_map,hlen];exact⟨hlt,rfl,Nat.le_refl 1⟩) ?_⟩;have hz:(List.zipWith op a b)[k]?=some (op p q):=by rw[List.getElem?_zipWith,hp,hq]
   have hk0:k<((List.zipWith op a b).take k++List.replicate (a.length-k) 0:List Int).length:=by omega
   obtain⟨y,hy⟩:=aW hk0;have hs:=RU (n:=a.length) (z:=(0:Int)) hzl hz;simp only[go_sem,h0,h1,h2,h8,h19,h20,aF hy,bA (show k≤4611686018427387904 by omega)];refine⟨⟨k+1,hlt,rfl,?_⟩,by simp only[aH];omega⟩;rw[←hs];show _=some (⟨3,1,_⟩:Row);rw[List.map_set];rfl
 · have hge:=cH hk hge
   subst hge;simp only[go_sem,h8];refine⟨j,rfl,?_⟩;rw[R,List.take_of_length_le (by omega)];simp
def qT(a b:List Int):List Int:=List.zipWith Ys a b
def sA(a b:List Int):List Int:=List.zipWith U7 a b
theorem aiL(a b:List Int)(hl:a.length≤1048576)(hab:a.length=b.length):NC Tryz.prog 149 [.sl (a.map aO),.sl (b.map aO)] (DH (qT a b)) (fun j=>.tup [.os j,int 0]):=by
 refine NC.body (c:=Tryz.f149.body.getD .skip) (fun _=>false) mixed Tryz.func149 rfl (by kernel_rfl) ?_;unfold Tryz.f149;simp only[Option.getD_some];simp only[go_sem];refine NC.use (F2 a b hl hab (by simp only[go_sem]) ZO) fun j hj=>?_
 simp only[go_sem];exact⟨j,rfl,aA _ _ _⟩
theorem abB(a b:List Int)(hl:a.length≤1048576)(hab:a.length=b.length):NC Tryz.prog 150 [.sl (a.map aO),.sl (b.map aO)] (DH (sA a b)) (fun j=>.tup [.os j,int 0]):=by
 refine NC.body (c:=Tryz.f150.body.getD .skip) (fun _=>false) mixed Tryz.func150 rfl (by kernel_rfl) ?_;unfold Tryz.f150;simp only[Option.getD_some];simp only[go_sem];refine NC.use (F2 a b hl hab (by simp only[go_sem]) Ct) fun j hj=>?_
 simp only[go_sem];exact⟨j,rfl,aA _ _ _⟩
theorem N6(a c:List Int)(hl:a.length≤1048576):PC Tryz.prog 97 [.sl (a.map aO),.sl (c.map aO)] (boo (iM a c)):=by
 refine PC.body (c:=Tryz.f97.body.getD .skip) (fun _=>false) mixed Tryz.func97 rfl (by kernel_rfl) ?_;unfold Tryz.f97;simp only[Option.getD_some];simp only[go_sem];refine aB (fun hb=>?_) (fun hb=>?_)
 · simp only[go_sem]
   refine fA ?_;unfold iM;have:((a.length:Int) == (c.length:Int))=false:=by simpa[bne]using hb
   rw[this];rfl
 have hac:a.length=c.length:=by simp[bne]at hb;omega
 simp only[go_sem];refine⟨fun ρ _=>∃k:Nat,k≤a.length∧ρ 1=.sl (c.map aO)∧ρ 12=.sl (a.map aO)∧ρ 13=int a.length∧ρ 14=int k∧∀i∈(List.range a.length).take k,decide (a.getD i 0>c.getD i 0)=false,fun ρ _=>a.length-bE (ρ 14),⟨0,Nat.zero_le _,rfl,rfl,by simp only[go_sem,List.length_map],rfl,by simp⟩,?_⟩;rintro ρ H ⟨k,hk,h1,h12,h13,h14,hz⟩;simp only[go_sem,h1,h12,h13,h14];refine aB (fun hlt=>?_) (fun hge=>?_)
 · have hlt:=cF hlt
   obtain⟨p,hp⟩:=aW hlt;obtain⟨q,hq⟩:=aW (show k<c.length by omega);have b1:=inB hlt;have b2:=inB (show k<c.length by omega);have e1:a.getD k 0=p:=by simp[List.getD,hp]
   have e2:c.getD k 0=q:=by simp[List.getD,hq]
   simp only[go_sem,h1,h12,h13,h14,aF hp,aF hq,b1,b2];refine aB (fun hb'=>?_) (fun hb'=>?_)
   · simp only[go_sem]
     refine fA ?_;unfold iM
     symm
     rw[Bool.and_eq_false_iff];right;exact Xt (mP hlt) (by rw[e1,e2,hb'];rfl)
   · simp only[go_sem,h1,h12,h13,h14,bA (show k≤4611686018427387904 by omega)]
     exact⟨⟨k+1,hlt,rfl,bR (p:=fun i=>decide (a.getD i 0>c.getD i 0)=false) (mP hlt) (by rw[e1,e2];exact hb') hz⟩,by simp only[aH];omega⟩
 · have hge:=cH hk hge
   subst hge;simp only[go_sem];refine fA ?_;unfold iM
   symm
   rw[Bool.and_eq_true];refine⟨by simp[hac],List.all_eq_true.2 fun i hi=>?_⟩;rw[hz i (by rw[List.take_of_length_le (by simp)];exact hi)];rfl
def pG(c s:Int):Bool:=(decide (c≥0)&&decide (s≥0))&&(qQ .andNot .i64 s c == 0)
theorem Yu(t:VType)(s:Int):PC Tryz.prog 88 [.agg (bC t),int s] (boo (pG t.skills s)):=by
 refine PC.body (c:=Tryz.f88.body.getD .skip) (fun _=>false) mixed Tryz.func88 rfl (by kernel_rfl) ?_;unfold Tryz.f88;simp only[Option.getD_some];simp only[go_sem];exact .refl _
def YN(x:Instance)(s:List Int)(i:Int):List Int:=match x.orders[i.toNat]? with
 | some o=>if decide (o.pick.place<0)=true then qT s o.load else s
 | none=>s
def fY(x:Instance)(set dims:Int):List Int:=(M3 set).foldl (YN x) (List.replicate dims.toNat 0)
theorem fR{α β:Type}{f:β→α→β}{l:List α}{k:Nat}{x:α}{b:β}(h:l[k]?=some x):(l.take (k+1)).foldl f b=f ((l.take k).foldl f b) x:=by rw[cM h,List.foldl_append];rfl
structure LoadB(x:Instance):Prop where
 dims:0≤M5 x∧M5 x≤1048576
 load:∀o∈x.orders,o.load.length=(M5 x).toNat
 few:x.orders.length≤63
end Go.Proofs.YtdlijlecpopadaaGreatDoor.Sq
end
