import Derived.Lib.ItoaMem
import Derived.Lib.LaidIn
import Derived.MakeChecks
import Derived.Stop.LaidErr
import Derived.Test.YtmhpdppobocokaaGreatDoorTs09
set_option linter.unusedSimpArgs false
set_option linter.unusedVariables false
set_option linter.defProp false
set_option maxRecDepth 100000
namespace Go.Proofs.YtmhpdppobocokaaGreatDoor
open Go.Aw Go.Aw.D Go.Proofs Ty
namespace Nu
open Go.Proofs.Tryz
open Go.Nu
def jJ(one:Cut)(cols:List Column):List Int:=cols.map fun c=>BO one.kind (one.set.toNat &&& c.set.toNat)
def oS(one:Cut)(s:ByteArray):ByteArray×Int:=if one.kind=1 then tG s (zed 1)else if one.kind=2 then tG (zed one.n) s else(dec 0,0)
def dM(one:Cut)(cols:List Column)(rates:List ByteArray):ByteArray×Int:=
 if rates.length<cols.length then(emp,2)else
 if(gE (jJ one cols) (rates.take cols.length)).2≠0 then(emp,(gE (jJ one cols) (rates.take cols.length)).2)else
 if(oS one (gE (jJ one cols) (rates.take cols.length)).1).2≠0 then(emp,(oS one (gE (jJ one cols) (rates.take cols.length)).1).2)else
 if rO (oS one (gE (jJ one cols) (rates.take cols.length)).1).1<=0 then(dec 0,0)else((oS one (gE (jJ one cols) (rates.take cols.length)).1).1,0)
def wR:∀(l:List (Int×ByteArray)) (t:ByteArray),bP t=true->(qC l t).2=0->bP (qC l t).1=true
 | [],t,h,_=>h
 | p::l,t,h,h0=>by
  unfold qC at h0 |-;split at h0
  ·next h1=>exact absurd h0 h1
  ·next h1=>
   rw[if_neg h1];split at h0
   ·next u=>exact absurd h0 u
   ·next u=>
    rw[if_neg u];exact wR l _ (A5 (by simpa using u)) h0
def zU{ns:List Int}{xs:List ByteArray}(h:(gE ns xs).2=0):bP (gE ns xs).1=true:=by
 unfold gE at h |-;split at h
 ·cases h
 ·next h1=>
  rw[if_neg h1];split at h
  ·cases h
  ·next u=>rw[if_neg u];exact wR _ _ vL h
def BE{a b:ByteArray}(h:(tG a b).2=0):bP (tG a b).1=true:=by
 unfold tG at h |-;split at h
 ·rename_i E;rw[if_pos E];obtain⟨e,u⟩:=vC h;rw[e];exact jD u
 ·cases h
def AS{one:Cut}{s:ByteArray}(E:bP s=true)(h:(oS one s).2=0):bP (oS one s).1=true:=by
 unfold oS at h |-;split at h
 ·next h1=>rw[if_pos h1];exact BE h
 ·next h1=>
  rw[if_neg h1];split at h
  ·next u=>rw[if_pos u];exact BE h
  ·next u=>rw[if_neg u];exact vL
def DQ(one:Cut):Prop:=0<=one.set/\one.set<=9223372036854775807/\ -9223372036854775808<=one.n/\one.n<=9223372036854775807
def Qi(one:Cut)(cols:List Column)(rates:List ByteArray)(h1:DQ one)(O:∀c∈cols,0<=c.set/\c.set<=9223372036854775807)(hl:cols.length<=1048576)(hr:rates.length<=1048576)(hs:∀s∈rates,s.size<=1048576):
  PC prog 38 [.agg (cU one),.sl (cols.map bF),.sl (rates.map Go.Aw.D.cQ)] (.tup [str (dM one cols rates).1,int (dM one cols rates).2]):=by
 refine pcb (fun t=>t == 8) func38 rfl rfl ?_;simp only[go_sem];refine aA (fun hb=>?_) (fun hb=>?_)
 ·have hb:=ltB hb;simp only[go_sem];rw[show dM one cols rates=(emp,2)from if_pos hb];exact .refl _
 have hb:¬rates.length<cols.length:=by simpa using hb
 unfold dM;rw[if_neg hb];simp only[go_sem];refine aL fun j hj=>?_
 simp only[go_sem,Xaa];refine⟨fun ρ H=>∃(k j:Nat),k<=cols.length/\ρ 1=.sl (cols.map bF)/\ρ 2=.sl (rates.map Go.Aw.D.cQ)/\ρ 3=.rp (cU one) 0/\ρ 19=.sl (cols.map bF)/\ρ 20=int cols.length/\ρ 21=int k/\ρ 8=.os j/\H j=some (dB (jJ one (cols.take k))),fun ρ _=>cols.length-aW (ρ 21),
  ⟨0,j,Xab _,by simp only[go_sem],by simp only[go_sem],by simp only[go_sem],by simp only[go_sem],by simp only[go_sem,Xaa],by simp only[go_sem];rfl,by simp only[go_sem],aB _ _ _⟩,?_⟩
 clear hj j;rintro ρ H ⟨k,j,hk,e1,e2,Z,J,F,L,e8,Rj⟩;simp only[go_sem,e1,e2,Z,J,F,L,e8];refine aA (fun E=>?_) (fun aa=>?_)
 ·have E:=ltB E;obtain⟨c,u⟩:=bG E;have b1:=inB E;simp only[go_sem,e1,e2,Z,J,F,L,e8,aJ u,b1];have ak:=O c (Xaf u);have ae:=QK one.kind one.n one.set.toNat c.set.toNat (by have:=h1.2.1;omega) (by omega);rw[Int.toNat_of_nonneg h1.1,Int.toNat_of_nonneg ak.1]at ae;refine aL fun i hi=>?_
  have ag:j≠i:=aO Rj hi;simp only[go_sem];refine aZ (aB _ _ _) (by simp[bF]) ?_;generalize hG:aE (aE _ i _) i _=HG;have Ri:HG i=some (⟨90,7,[bF c]⟩:Row):=by rw[<-hG,aB];rfl
  have ai:HG j=some (dB (jJ one (cols.take k))):=by rw[<-hG,aC _ _ _ _ ag,aC _ _ _ _ ag];exact Rj
  clear hG hi Rj;simp only[go_sem,e1,e2,Z,J,F,L,e8,Ri];refine aN ae ?_;simp only[go_sem,e1,e2,Z,J,F,L,e8];refine cD ai ⟨rfl,rfl⟩ ⟨rfl,trivial⟩ (by simp only[dB,jJ,Xaa,Xaj,Xae,List.length_nil];omega) (fun j' al=>?_);simp only[go_sem,e1,e2,Z,J,F,L,e8,aY k];refine⟨⟨k+1,j',E,rfl,rfl,?_⟩,by simp only[aF];omega⟩;rw[aB];simp only[dB,jJ,bK u,Xak,Xar,Xay];rfl
 ·have aa:=geB hk aa;subst aa;rw[Xai]at Rj;have ac:=BX (jJ one cols) (rates.take cols.length) (fun n hn=>by unfold jJ at hn;obtain⟨c,_,rfl⟩:=List.mem_map.1 hn;unfold BO;split <;> omega) (by rw[Xaj];omega) (fun s aj=>hs s (List.mem_of_mem_take aj));rw[List.map_take]at ac;simp only[go_sem,e1,e2,Z,e8,Xaa];refine⟨⟨by omega,by omega⟩,?_⟩;refine PC.useF [j] (.cons _ _ _ _ (.row _ _ _ (by simp only[Xap,if_true];exact Rj) (ConvE.refl _)) (.cons _ _ _ _ (.refl _) .nil)) ac ?_;have ah:=zU (ns:=jJ one cols) (xs:=rates.take cols.length);generalize gE (jJ one cols) (rates.take cols.length)=T at *;simp only[go_sem,Z];refine aA (fun u=>?_) (fun u=>?_)
  ·have u:T.2≠0:=by simpa using u
   simp only[go_sem];rw[if_pos u];exact .refl _
  have u:T.2=0:=by simpa using u
  rw[if_neg (by simp[u])];simp only[go_sem,Z];have af:bP T.1=true:=ah u;have an:=eW af;refine GR (fun ρ _=>ρ 12=int (oS one T.1).2/\ρ 13=str (oS one T.1).1) ?_ fun Q' hQ _ _=>aA (fun h=>?_) (fun h=>?_)
  ·rintro ρ H ⟨ab,M⟩;simp only[go_sem,ab,M];refine aA (fun hd=>?_) (fun hd=>?_)
   ·simp only[go_sem,ab];rw[if_pos (by simpa using hd)];exact .refl _
   have hd:(oS one T.1).2=0:=by simpa using hd
   rw[if_neg (by simp[hd])];have ho:=eW (AS af hd);simp only[go_sem,M];refine aN (fS _ (by omega)) ?_;simp only[go_sem,M];refine aA (fun hs=>?_) (fun hs=>?_)
   ·rw[if_pos (by simpa using hs)];simp only[go_sem];rw[<-tC];exact .refl _
   ·rw[if_neg (by simpa using hs)];simp only[go_sem,M];exact .refl _
  ·have h:one.kind=1:=by simpa using h
   have e:oS one T.1=tG T.1 (zed 1):=if_pos h;rw[e]at hQ;simp only[go_sem];refine aN (jT 1 (by decide) (by decide)) ?_;simp only[go_sem];refine aN (iZ T.1 (zed 1) (by omega) (by have:=Go.Nu.cX (sQ (n:=(1:Int).natAbs) (k:=20) (by decide) (by decide));omega)) ?_;simp only[go_sem];exact hQ _ _ ⟨rfl,rfl⟩
  ·have h:one.kind≠1:=by simpa using h
   simp only[go_sem];refine aA (fun O=>?_) (fun O=>?_)
   ·have O:one.kind=2:=by simpa using O
    have e:oS one T.1=tG (zed one.n) T.1:=(if_neg h).trans (if_pos O);rw[e]at hQ;have am:=Go.Nu.cX (sQ (n:=one.n.natAbs) (k:=20) (by have:=h1.2.2;omega) (by decide));simp only[go_sem,Z];refine aN (jT one.n h1.2.2.1 h1.2.2.2) ?_;simp only[go_sem];refine aN (iZ (zed one.n) T.1 (by omega) (by omega)) ?_;simp only[go_sem];exact hQ _ _ ⟨rfl,rfl⟩
   ·have O:one.kind≠2:=by simpa using O
    have e:oS one T.1=(dec 0,0):=(if_neg h).trans (if_neg O);rw[e]at hQ;simp only[go_sem];exact hQ _ _ ⟨u▸rfl,tC▸rfl⟩
end Nu
section

end
namespace Nu
open Go.Proofs.Tryz
open Go.Nu
def nP(p:Nat->Bool):Nat->Nat
 | 0=>0
 | k+1=>nP p k+(if p k=true then 2^k else 0)
def wT(p:Nat->Bool):∀k,nP p k<2^k
 | 0=>by simp[nP]
 | k+1=>by have:=wT p k;rw[nP,Xbl];split <;> omega
def qI(p:Nat->Bool):∀k i,(nP p k).testBit i=(decide (i<k)&&p i)
 | 0,i=>by simp[nP]
 | k+1,i=>by
  have u:=wT p k;have ih:=qI p k i;rw[nP];have E:nP p k+(if p k=true then 2^k else 0)=nP p k ||| (if p k=true then 2^k else 0):=by
   split
   ·rw[Nat.add_comm,Nat.or_comm];have:=Nat.two_pow_add_eq_or_of_lt u 1;simpa using this
   ·simp
  rw[E,Nat.testBit_or,ih];by_cases h:p k=true
  ·rw[if_pos h,Nat.testBit_two_pow];by_cases e:k=i
   ·subst e;simp[h]
   ·have:(decide (i<k+1))=decide (i<k):=by rw[Xbf];simp;omega
    rw[this];simp[e]
  ·rw[if_neg h];by_cases e:k=i
   ·subst e;simp[h]
   ·have:(decide (i<k+1))=decide (i<k):=by rw[Xbf];simp;omega
    rw[this];simp
def Qh{a k:Nat}(h:a<2^k):a ||| 2^k=a+2^k:=by rw[Nat.or_comm,Nat.add_comm];have:=Nat.two_pow_add_eq_or_of_lt h 1;simpa using this.symm
def PB{a b:Nat}(E:a<2^63)(F:b<2^63):nK .or .i64 (a:Int) (b:Int)=((a ||| b:Nat):Int):=by
 have h:((BitVec.ofInt 64 (a:Int) ||| BitVec.ofInt 64 (b:Int)).toNat:Int)=((a ||| b:Nat):Int):=by
  rw[BitVec.toNat_or,BitVec.toNat_ofInt,BitVec.toNat_ofInt];have h1:((a:Int)%((2^64:Nat):Int)).toNat=a:=by omega
  have u:((b:Int)%((2^64:Nat):Int)).toNat=b:=by omega
  rw[h1,u]
 refine Eq.trans (congrArg IntKind.i64.wrap h) ?_;have:=Nat.or_lt_two_pow E F;exact aV (by omega)
def KG{i:Nat}(h:i<=62):shV .shl .i64 1 (i:Int)=((2^i:Nat):Int):=by
 show IntKind.i64.wrap (1*2^min ((i:Int)).toNat 64)=_;have:min ((i:Int)).toNat 64=i:=by omega
 rw[this,Int.one_mul];have u:(2:Nat)^i<=2^62:=Xam (by decide) h;have E:((2:Int)^i)=((2^i:Nat):Int):=by norm_cast
 rw[E];generalize 2^i=m at u;exact aV (by omega)
def sN{s:Nat}{i:Nat}(h1:i<=62):kM (s:Int) (i:Int)=s.testBit i:=by
 rw[Nat.testBit_eq_decide_div_mod_eq];unfold kM;have u:((2:Int)^i)=((2^i:Nat):Int):=by norm_cast
 rw[Xbb,u];have:((s:Int)/((2^i:Nat):Int))=((s/2^i:Nat):Int):=rfl;rw[this];generalize s/2^i=m;rw[Xbf];simp only[beq_iff_eq,decide_eq_true_eq,Xav];omega
def Bh{a b:Nat}(ha:a<2^63)(hb:b<2^63):(nK .andNot .i64 (a:Int) (b:Int) == 0)=decide (a &&& b=a):=by
 have e:nK .andNot .i64 (a:Int) (b:Int)=((a-(a &&& b):Nat):Int):=by
  have h1:((a:Int)%((2^64:Nat):Int)).toNat=a:=by omega
  have Z:((b:Int)%((2^64:Nat):Int)).toNat=b:=by omega
  have h:((BitVec.ofInt 64 (a:Int) &&& ~~~(BitVec.ofInt 64 (b:Int))).toNat:Int)=((a-(a &&& b):Nat):Int):=by
   have u:a &&& b<=a:=Nat.and_le_left;have L:BitVec.ofInt 64 (a:Int) &&& ~~~(BitVec.ofInt 64 (b:Int))=BitVec.ofNat 64 (a-(a &&& b)):=by
    have O:BitVec.ofInt 64 (a:Int)=BitVec.ofNat 64 a:=by apply BitVec.eq_of_toNat_eq;rw[BitVec.toNat_ofInt,BitVec.toNat_ofNat,h1,Xbg (by omega)]
    have M:BitVec.ofInt 64 (b:Int)=BitVec.ofNat 64 b:=by apply BitVec.eq_of_toNat_eq;rw[BitVec.toNat_ofInt,BitVec.toNat_ofNat,Z,Xbg (by omega)]
    rw[O,M];have h5:(BitVec.ofNat 64 a &&& ~~~BitVec.ofNat 64 b) &&& BitVec.ofNat 64 (a &&& b)=0#64:=by apply BitVec.eq_of_getLsbD_eq;intro i hi;simp only[BitVec.getLsbD_and,BitVec.getLsbD_not,BitVec.getLsbD_ofNat,Nat.testBit_and,hi,decide_true,Xbm,BitVec.getLsbD_zero];cases a.testBit i <;> cases b.testBit i <;> simp
    have J:(BitVec.ofNat 64 a &&& ~~~BitVec.ofNat 64 b) ||| BitVec.ofNat 64 (a &&& b)=BitVec.ofNat 64 a:=by apply BitVec.eq_of_getLsbD_eq;intro i hi;simp only[BitVec.getLsbD_or,BitVec.getLsbD_and,BitVec.getLsbD_not,BitVec.getLsbD_ofNat,Nat.testBit_and,hi,decide_true,Xbm];cases a.testBit i <;> cases b.testBit i <;> rfl
    have F:=congrArg BitVec.toNat ((BitVec.add_eq_or_of_and_eq_zero _ _ h5).trans J);rw[BitVec.toNat_add,BitVec.toNat_ofNat,BitVec.toNat_ofNat,Xbg (by omega:a<2^64),Xbg (by omega:a &&& b<2^64)]at F;apply BitVec.eq_of_toNat_eq;rw[BitVec.toNat_ofNat,Xbg (by omega)];have hl:=(BitVec.ofNat 64 a &&& ~~~BitVec.ofNat 64 b).isLt;have E:(BitVec.ofNat 64 a &&& ~~~BitVec.ofNat 64 b).toNat<=a:=by rw[BitVec.toNat_and,BitVec.toNat_ofNat,Xbg (by omega:a<2^64)];exact Nat.and_le_left
    omega
   rw[L,BitVec.toNat_ofNat,Xbg (by omega)]
  refine Eq.trans (congrArg IntKind.i64.wrap h) ?_;exact aV (by omega)
 rw[e,Xbf];have u:a &&& b<=a:=Nat.and_le_left;simp only[beq_iff_eq,decide_eq_true_eq];omega
def NB(a b:Nat)(u:a<2^63)(E:b<2^63):PC prog 153 [int a,int b] (boo (decide (a &&& b=a))):=by refine pcd func153 rfl rfl ?_;simp only[go_sem];exact cB (Bh u E)
def nO(q:Order->Bool)(l:List Order)(i:Nat):Bool:=match l[i]? with|some o=> !o.off&&q o|none=>false
def BR{q:Order->Bool}{l:List Order}{i:Nat}{o:Order}(h:l[i]?=some o):nO q l i=(!o.off&&q o):=by unfold nO;rw[h]
def IR(q:Order->Bool)(l:List Order):Nat:=nP (nO q l) l.length
def P2{g:Nat}{q:Order->Bool}(x:Instance)(hx:x.orders.length<=62)(aa:aG prog g=true)(hg:∀o∈x.orders,PC prog g [.agg (bT o)] (boo (q o))):
  PC prog 148 [.agg (aH x),.v (.func (.func g) #[] #[])] (int (IR q x.orders:Nat)):=by
 refine pcd func148 rfl rfl ?_;simp only[go_sem];unfold IR;generalize hp:nO q x.orders=p;refine⟨fun ρ H=>∃(k:Nat),k<=x.orders.length/\ρ 1=.v (.func (.func g) #[] #[])/\ρ 9=.sl (x.orders.map bT)/\ρ 10=int (x.orders.length:Nat)/\ρ 11=int k/\ρ 5=int (nP p k:Nat),fun ρ _=>x.orders.length-aW (ρ 11),⟨0,Xab _,by simp only[go_sem],by simp only[go_sem],by simp only[go_sem,Xaa],(by simp only[go_sem];rfl),by simp only[go_sem];rfl⟩,?_⟩;rintro ρ H ⟨k,hk,J,L,E,u,e5⟩;simp only[go_sem,J,L,E,u,e5];refine aA (fun F=>?_) (fun M=>?_)
 ·have F:=ltB F;obtain⟨o,Z⟩:=bG F;have b1:=inB F;have O:p k=(!o.off&&q o):=by rw[<-hp];exact BR Z
  have ab:=wT p k;have ac:2^k<=2^62:=Xam (by decide) (by omega);simp only[go_sem,J,L,E,u,e5,aJ Z,b1];refine aL fun j hj=>?_
  simp only[go_sem,J,L,E,u,e5,aJ Z,b1];refine aZ (aB _ _ _) (by simp[bT]) ?_;simp only[go_sem,J,L,E,u,e5,aJ Z,b1,aa];refine⟨_,fun _=>(hg o (Xaf Z)).q rfl,?_⟩;simp only[go_sem,J,L,E,u,e5];refine aA (fun hb=>?_) (fun hb=>?_)
  ·have q1:=KG (i:=k) (by omega);have q2:=PB (a:=nP p k) (b:=2^k) (by omega) (by omega);simp only[go_sem,J,L,E,u,e5,q1,q2,aY k];refine⟨by omega,⟨k+1,F,rfl,?_⟩,by simp only[aF];omega⟩;rw[Qh ab,nP,O,if_pos hb]
  ·simp only[go_sem,J,L,E,u,e5,aY k];refine⟨⟨k+1,F,rfl,?_⟩,by simp only[aF];omega⟩;rw[nP,O,if_neg (by rw[hb];simp),Nat.add_zero]
 ·have M:=geB hk M;subst M;simp only[go_sem,J,L,E,u,e5];exact .refl _
def oO(x:Instance):Nat:=IR (fun _=>true) x.orders
def jZ(x:Instance):Nat:=IR (fun o=>o.penalty == -1) x.orders
def T3(o:Order):PC prog 149 [.agg (bT o)] (boo true):=by refine pcd func149 rfl rfl ?_;simp only[go_sem];exact .refl _
def Ss(o:Order):PC prog 152 [.agg (bT o)] (boo (o.penalty == -1)):=by refine pcd func152 rfl rfl ?_;simp only[go_sem];exact .refl _
def zD(x:Instance)(u:x.orders.length<=62):PC prog 86 [.agg (aH x)] (int (oO x:Nat)):=by refine pcd func86 rfl rfl ?_;simp only[go_sem];refine aN (P2 x u (by kernel_rfl) fun o _=>T3 o) ?_;simp only[go_sem];exact .refl _
def JV(x:Instance)(u:x.orders.length<=62):PC prog 88 [.agg (aH x)] (int (jZ x:Nat)):=by refine pcd func88 rfl rfl ?_;simp only[go_sem];refine aN (P2 x u (by kernel_rfl) fun o _=>Ss o) ?_;simp only[go_sem];exact .refl _
def qJ(n:Nat)(set:Int):Bool:=decide (set>=0)&&(set/2^n == 0)
def Fk(x:Instance)(set:Int)(u:x.orders.length<=62):PC prog 115 [.agg (aH x),int set] (boo (qJ x.orders.length set)):=by refine pcd func115 rfl rfl ?_;simp only[go_sem];refine⟨by omega,?_⟩;refine cB ?_;rw[BD u];rfl
def Fb{g:Nat}{cap:List AV}{p:Int->Bool}(l:List Int)(hl:l.length<=1048576)(aa:aG prog g=true)(hg:∀v∈l,PC prog g (int v::cap) (boo (p v))):
  ∃n:Int,decide (n>=0)=l.any p/\PC prog 253 [.sl (l.map aP),.fn g cap] (int n):=by
 refine⟨match l.findIdx? p with|some i=>(i:Int)|none=> -1,?_,?_⟩
 ·cases h:l.findIdx? p with
  | none=>have:=List.findIdx?_eq_none_iff.1 h;simp only;rw[List.any_eq_false.2 (fun x hx=>by rw[this x hx];simp)];rfl
  | some i=>obtain⟨hi,hp,_⟩:=List.findIdx?_eq_some_iff_getElem.1 h;simp only;rw[List.any_eq_true.2 ⟨l[i],List.getElem_mem hi,hp⟩];simp
 ·
  refine pcd func253 rfl rfl ?_;simp only[go_sem];refine⟨fun ρ H=>∃(k:Nat),k<=l.length/\ρ 0=.sl (l.map aP)/\ρ 1=.fn g cap/\ρ 7=int (l.length:Nat)/\ρ 8=int k/\(∀u∈l.take k,p u=false),fun ρ _=>l.length-aW (ρ 8),⟨0,Xab _,by simp only[go_sem],by simp only[go_sem],by simp only[go_sem,Xaa],(by simp only[go_sem];rfl),by simp⟩,?_⟩;rintro ρ H ⟨k,hk,J,L,M,O,hz⟩;simp only[go_sem,J,L,M,O];refine aA (fun E=>?_) (fun F=>?_)
  ·have E:=ltB E;obtain⟨u,Z⟩:=bG E;have b1:=inB E;simp only[go_sem,J,L,M,O,aJ Z,b1,aa];refine aN (hg u (Xaf Z)) ?_;simp only[go_sem,J,L,M,O];refine aA (fun hb=>?_) (fun hb=>?_)
   ·simp only[go_sem,J,L,M,O];have:l.findIdx? p=some k:=by
     have ab:k<l.length:=E;refine List.findIdx?_eq_some_iff_getElem.2 ⟨ab,?_,fun j hj=>?_⟩
     ·have:=(List.getElem?_eq_some_iff.1 Z).2;rw[this];exact hb
     ·have:=hz l[j] (List.mem_take_iff_getElem.2 ⟨j,by omega,rfl⟩);rw[this];simp
    rw[this];exact .refl _
   ·simp only[go_sem,J,L,M,O,aY k];exact⟨⟨k+1,E,rfl,fU (p:=fun u=>p u=false) Z hb hz⟩,by simp only[aF];omega⟩
  ·have F:=geB hk F;subst F;rw[Xai]at hz;simp only[go_sem];rw[List.findIdx?_eq_none_iff.2 hz];exact .refl _
def Ae{g:Nat}{cap:List AV}{p:Int->Bool}(l:List Int)(L:l.length<=1048576)(u:aG prog g=true)(F:∀v∈l,PC prog g (int v::cap) (boo (p v))):
  PC prog 210 [.sl (l.map aP),.fn g cap] (boo (l.any p)):=by
 obtain⟨n,E,J⟩:=Fb l L u F;refine pcd func210 rfl rfl ?_;simp only[go_sem];refine aN J ?_;simp only[go_sem];exact cB E
def lS(l:List Order)(i:Int):Order:=l.getD i.toNat ⟨ByteArray.empty,[],⟨0,0,0,0⟩,⟨0,0,0,0⟩,0,0,0,0,0,false⟩
def lF{l:List Order}{i:Nat}{o:Order}(h:l[i]?=some o):lS l (i:Int)=o:=by simp[lS,List.getD,h]
def KZ(l:List Order)(ms:List Int):Prop:=∀i∈ms,0<=i/\i<(l.length:Int)
def FK(x:Instance)(g:Nat)(q:Order->Int)(i:Int)(hi:0<=i/\i<(x.orders.length:Int))(E:aG prog g=true)(J:∀o,PC prog g [.agg (bT o)] (int (q o))):
  PC prog 211 [int i,.rp [.v (.func (.func g) #[] #[])] 0,.rp (aH x) 0] (boo (decide (q (lS x.orders i)>=0))):=by
 obtain⟨n,rfl⟩:=Int.eq_ofNat_of_zero_le hi.1;have u:n<x.orders.length:=by omega
 obtain⟨o,F⟩:=bG u;have L:=inB u;rw[lF F];refine pcd func211 rfl rfl ?_;simp only[go_sem];refine eZ (by rfl) (by kernel_rfl) ?_;simp only[go_sem,aJ F,L,E];refine⟨_,(J o).q rfl,?_⟩;simp only[go_sem];exact .refl _
def I7(o:Order):PC prog 212 [.agg (bT o)] (int o.pick.place):=by refine pcd func212 rfl rfl ?_;simp only[go_sem];exact .refl _
def Gj(o:Order):PC prog 213 [.agg (bT o)] (int o.drop.place):=by refine pcd func213 rfl rfl ?_;simp only[go_sem];exact .refl _
def yQ(x:Instance)(g:Nat)(q:Order->Int)(ms:List Int)(J:KZ x.orders ms)(F:ms.length<=1048576)(u:aG prog g=true)(E:∀o,PC prog g [.agg (bT o)] (int (q o))):
  PC prog 209 [.v (.func (.func g) #[] #[]),.rp [.sl (ms.map aP)] 0,.rp (aH x) 0] (boo (!(ms.any fun i=>decide (q (lS x.orders i)>=0)))):=by
 refine pcd func209 rfl rfl ?_;simp only[go_sem];refine aN (Ae (p:=fun i=>decide (q (lS x.orders i)>=0)) ms F (by kernel_rfl) (fun i hi=>FK x g q i (J i hi) u E)) ?_;simp only[go_sem];exact .refl _
def U6(x:Instance)(ms:List Int):Bool:= !(ms.any fun i=>decide ((lS x.orders i).pick.place>=0))|| !(ms.any fun i=>decide ((lS x.orders i).drop.place>=0))
def KN(x:Instance)(ms:List Int)(E:KZ x.orders ms)(u:ms.length<=1048576):PC prog 154 [.agg (aH x),.sl (ms.map aP)] (boo (U6 x ms)):=by refine pcd func154 rfl rfl ?_;simp only[go_sem];refine aN (yQ x _ (fun o=>o.pick.place) ms E u (by kernel_rfl) I7) ?_;simp only[go_sem];refine⟨_,fun _=>(yQ x _ (fun o=>o.drop.place) ms E u (by kernel_rfl) Gj).q rfl,?_⟩;simp only[go_sem];exact .refl _
def oQ:List Int->List Int->Int->Int×Int
 | n::a,c::l,t=>if n<=0 then oQ a l t else if c=0 then(0,24)else oQ a l (rY t ((n+c-1).tdiv c))
 | _,_,t=>(t,0)
def sI(a c:List Int):Int×Int:=if a.length≠c.length then(0,2)else if c.any (fun n=>decide (n<0))=true then(0,2)else oQ a c 0
def Mid(n:Int):Prop:= -1099511627776<=n/\n<=1099511627776
def O9(a c:List Int)(hl:a.length<=1048576)(ae:c.length<=1048576)(ha:∀n∈a,Mid n)(hc:∀n∈c,Mid n):
  PC prog 214 [.sl (a.map aP),.sl (c.map aP)] (.tup [int (sI a c).1,int (sI a c).2]):=by
 refine pcd func214 rfl rfl ?_;simp only[go_sem];refine aA (fun hb=>?_) (fun hb=>?_)
 ·have hb:a.length≠c.length:=neN hb;simp only[go_sem];rw[show sI a c=(0,2)from if_pos hb];exact .refl _
 have hb:a.length=c.length:=eqN hb;have e0:sI a c=if c.any (fun n=>decide (n<0))=true then(0,2)else oQ a c 0:=if_neg (by simp[hb])
 rw[e0];simp only[go_sem,Xaa];refine⟨fun ρ H=>∃(k:Nat),k<=c.length/\ρ 0=.sl (a.map aP)/\ρ 1=.sl (c.map aP)/\ρ 17=.sl (c.map aP)/\ρ 18=int (c.length:Nat)/\ρ 19=int k/\(∀n∈c.take k,0<=n),fun ρ _=>c.length-aW (ρ 19),⟨0,Xab _,by simp only[go_sem],by simp only[go_sem],by simp only[go_sem],by simp only[go_sem,Xaa],(by simp only[go_sem];rfl),by simp⟩,?_⟩;rintro ρ H ⟨k,hk,e0,L,E,J,F,hz⟩;simp only[go_sem,e0,L,E,J,F];refine aA (fun u=>?_) (fun M=>?_)
 ·have u:=ltB u;obtain⟨n,hn⟩:=bG u;have b1:=inB u;simp only[go_sem,e0,L,E,J,F,aJ hn,b1];refine aA (fun hd=>?_) (fun hd=>?_)
  ·simp only[go_sem];rw[if_pos (Az hn hd)];exact .refl _
  ·simp only[go_sem,e0,L,E,J,F,aY k];exact⟨⟨k+1,u,rfl,fU hn (by simpa using hd) hz⟩,by simp only[aF];omega⟩
 have M:=geB hk M;subst M;rw[Xai]at hz;rw[if_neg (by rw[wP fun n hn=>by simpa using hz n hn];simp)];simp only[go_sem,e0,L,E,J,F,Xaa];refine⟨fun ρ H=>∃(k:Nat) (t:Int),k<=a.length/\ρ 1=.sl (c.map aP)/\ρ 26=.sl (a.map aP)/\ρ 27=int (a.length:Nat)/\ρ 28=int k/\ρ 8=int t/\oQ a c 0=oQ (a.drop k) (c.drop k) t,fun ρ _=>a.length-aW (ρ 28),⟨0,0,Xab _,by simp only[go_sem,e0,L,E,J,F],by simp only[go_sem,e0,L,E,J,F],by simp only[go_sem,Xaa,e0,L,E,J,F],(by simp only[go_sem,e0,L,E,J,F];rfl),by simp only[go_sem],rfl⟩,?_⟩;rintro ρ H ⟨k,t,hk,L,O,Z,aa,e8,hi⟩;simp only[go_sem,L,O,Z,aa,e8];refine aA (fun u=>?_) (fun M=>?_)
 ·have u:=ltB u;obtain⟨n,hn⟩:=bG u;obtain⟨m,hm⟩:=bG (l:=c) (k:=k) (by omega);have b1:=inB u;have b2:=inB (show k<c.length by omega);have ab:=ha n (Xaf hn);have ac:=hc m (Xaf hm);have af:=hz m (Xaf hm);unfold Mid at ab ac;rw[qT hn,qT hm,oQ]at hi;simp only[go_sem,L,O,Z,aa,e8,aJ hn,aJ hm,b1,b2];refine aA (fun hd=>?_) (fun hd=>?_)
  ·rw[if_pos (by simpa using hd)]at hi;simp only[go_sem,L,O,Z,aa,e8,aY k];exact⟨⟨k+1,t,u,rfl,rfl,hi⟩,by simp only[aF];omega⟩
  have hd:¬n<=0:=by simpa using hd
  rw[if_neg hd]at hi;simp only[go_sem,L,O,Z,aa,e8];refine aA (fun h0=>?_) (fun h0=>?_)
  ·rw[if_pos (by simpa using h0)]at hi;rw[hi];simp only[go_sem];exact .refl _
  have h0:m≠0:=by simpa using h0
  rw[if_neg h0]at hi;have w1:IntKind.i64.wrap (n+m)=n+m:=aV (by omega);have w2:IntKind.i64.wrap (n+m-1)=n+m-1:=aV (by omega);have w3:IntKind.i64.wrap ((n+m-1).tdiv m)=(n+m-1).tdiv m:=aV (by have h1:=Int.tdiv_nonneg (a:=n+m-1) (b:=m) (by omega) (by omega);have h2:=Int.tdiv_le_self m (a:=n+m-1) (by omega);omega);simp only[go_sem,L,O,Z,aa,e8,w1,w2,w3,aY k];exact⟨h0,⟨k+1,_,u,rfl,rfl,hi⟩,by simp only[aF];omega⟩
 ·have M:=geB hk M;subst M;have ea:a.drop a.length=[]:=List.drop_length;have:oQ a c 0=(t,0):=by rw[hi,ea];unfold oQ;rfl
  rw[this];simp only[go_sem,L,O,Z,aa,e8];exact .refl _
def uP(l:List Order)(dim:Nat)(i:Int):Int:=(lS l i).load.getD dim 0
def eV(l:List Order)(ms:List Int)(dim:Nat):Int:=(ms.map (uP l dim)).sum
def iO(l:List VType)(dim:Nat):Int:=l.foldl (fun c t=>rY c (t.cap.getD dim 0)) 0
def pX(x:Instance)(ms:List Int)(dim:Nat):Int:=if(sI [eV x.orders ms dim] [iO x.types dim]).2≠0 then 0 else(sI [eV x.orders ms dim] [iO x.types dim]).1
structure LoadsOk(x:Instance)(d:Nat):Prop where
 dims:d<=3
 orders:x.orders.length<=62
 types:x.types.length<=1048576
 load:∀o∈x.orders,o.load.length=d/\∀n∈o.load,0<=n/\n<=1000
 cap:∀t∈x.types,t.cap.length=d/\∀n∈t.cap,0<=n/\n<=1000
def DT{x:Instance}{d dim:Nat}(h:LoadsOk x d)(J:dim<d){i:Int}(hi:0<=i/\i<(x.orders.length:Int)):0<=uP x.orders dim i/\uP x.orders dim i<=1000:=by obtain⟨n,rfl⟩:=Int.eq_ofNat_of_zero_le hi.1;obtain⟨o,E⟩:=bG (show n<x.orders.length by omega);unfold uP;rw[lF E];obtain⟨h1,F⟩:=h.load o (Xaf E);obtain⟨v,u⟩:=bG (show dim<o.load.length by omega);rw[List.getD,u];exact F v (Xaf u)
def nF{x:Instance}{d dim:Nat}(h:LoadsOk x d)(u:dim<d):∀{ms:List Int},KZ x.orders ms->0<=eV x.orders ms dim/\eV x.orders ms dim<=1000*ms.length
 | [],_=>by simp[eV]
 | i::ms,hm=>by
  have h1:=DT h u (hm i (by simp));have F:=nF h u (ms:=ms) fun j E=>hm j (by simp[E])
  unfold eV at F |-;rw[Xar,List.sum_cons,Xae];omega
def FA(l:List Order)(ms:List Int)(i:Int)(dim:Nat):eV l (ms++[i]) dim=eV l ms dim+uP l dim i:=by simp[eV]
def yR(l:List VType)(t:VType)(dim:Nat):iO (l++[t]) dim=rY (iO l dim) (t.cap.getD dim 0):=by simp[iO]
def Sn{a b c:Int}(h1:0<=a/\a<=c)(u:0<=b/\b<=c):0<=rY a b/\rY a b<=c:=by unfold rY;split <;> omega
def xZ{x:Instance}{d dim:Nat}(h:LoadsOk x d)(J:dim<d):∀k,0<=iO (x.types.take k) dim/\iO (x.types.take k) dim<=1000
 | 0=>by simp[iO]
 | k+1=>by
  have ih:=xZ h J k;rcases Xbd k x.types.length with F|F
  ·obtain⟨t,u⟩:=bG F;rw[bK u,yR];obtain⟨h1,L⟩:=h.cap t (Xaf u);obtain⟨v,E⟩:=bG (show dim<t.cap.length by omega);refine Sn ih ?_;rw[List.getD,E];exact L v (Xaf E)
  ·rw[Xba (by omega)]at ih |-;exact ih
def S6(x:Instance)(ms:List Int)(dim d:Nat)(h:LoadsOk x d)(hd:dim<d)(hm:KZ x.orders ms)(hl:ms.length<=63):
  PC prog 155 [.agg (aH x),.sl (ms.map aP),int dim] (int (pX x ms dim)):=by
 have al:=h.orders;have am:=h.types;refine pcd func155 rfl rfl ?_;simp only[go_sem];refine⟨fun ρ H=>∃(k:Nat),k<=ms.length/\ρ 2=int dim/\ρ 3=.rp (aH x) 0/\ρ 8=int 0/\ρ 15=.sl (ms.map aP)/\ρ 16=int (ms.length:Nat)/\ρ 17=int k/\ρ 7=int (eV x.orders (ms.take k) dim),fun ρ _=>ms.length-aW (ρ 17),⟨0,Xab _,by simp only[go_sem],by simp only[go_sem],by simp only[go_sem],by simp only[go_sem],by simp only[go_sem,Xaa],(by simp only[go_sem];rfl),by simp only[go_sem];rfl⟩,?_⟩;rintro ρ H ⟨k,hk,e2,e3,J,L,E,F,M⟩;simp only[go_sem,e2,e3,J,L,E,F,M];refine aA (fun u=>?_) (fun O=>?_)
 ·have u:=ltB u;obtain⟨i,hi⟩:=bG u;have b1:=inB u;have af:=hm i (Xaf hi);have aq:=DT h hd af;have ar:=nF h hd (ms:=ms.take k) fun j hj=>hm j (List.mem_of_mem_take hj)
  have ag:=FA x.orders (ms.take k) i dim;rw[<-bK hi]at ag;obtain⟨n,rfl⟩:=Int.eq_ofNat_of_zero_le af.1;have hn:n<x.orders.length:=by omega
  obtain⟨o,ac⟩:=bG hn;obtain⟨ap,ao⟩:=h.load o (Xaf ac);obtain⟨v,hv⟩:=bG (show dim<o.load.length by omega);have aj:uP x.orders dim (n:Int)=v:=by unfold uP;rw[lF ac,List.getD,hv];rfl
  have b2:=inB hn;have b3:=inB (show dim<o.load.length by omega);have an:(ms.take k).length<=63:=by rw[Xaj];omega
  have w1:IntKind.i64.wrap (eV x.orders (ms.take k) dim+v)=eV x.orders (ms.take (k+1)) dim:=by rw[ag,aj,aV (by omega)]
  simp only[go_sem,e2,e3,J,L,E,F,M,aJ hi,b1,aJ ac,b2,aJ hv,b3,w1,aY k];exact⟨⟨k+1,u,rfl,rfl⟩,by simp only[aF];omega⟩
 have O:=geB hk O;subst O;rw[Xai]at M;simp only[go_sem,e2,e3,J,L,E,F,M,Xaa];refine⟨fun ρ H=>∃(k:Nat),k<=x.types.length/\ρ 2=int dim/\ρ 7=int (eV x.orders ms dim)/\ρ 34=.sl (x.types.map cV)/\ρ 35=int (x.types.length:Nat)/\ρ 36=int k/\ρ 8=int (iO (x.types.take k) dim),fun ρ _=>x.types.length-aW (ρ 36),⟨0,Xab _,by simp only[go_sem,e2,e3,J,L,E,F,M],by simp only[go_sem,e2,e3,J,L,E,F,M],by simp only[go_sem,e2,e3,J,L,E,F,M],by simp only[go_sem,Xaa,e2,e3,J,L,E,F,M],(by simp only[go_sem,e2,e3,J,L,E,F,M];rfl),by simp only[go_sem,J];rfl⟩,?_⟩;rintro ρ H ⟨k,hk,e2,M,ab,aa,Z,J⟩;simp only[go_sem,e2,M,ab,aa,Z,J];refine aA (fun u=>?_) (fun O=>?_)
 ·have u:=ltB u;obtain⟨t,ht⟩:=bG u;have b1:=inB u;obtain⟨h1,h2⟩:=h.cap t (Xaf ht);obtain⟨v,hv⟩:=bG (show dim<t.cap.length by omega);have b3:=inB (show dim<t.cap.length by omega);simp only[go_sem,e2,M,ab,aa,Z,J,aJ ht,b1];refine aL fun j ae=>?_
  simp only[go_sem,e2,M,ab,aa,Z,J,aJ ht,b1];refine iI ae (by simp[qS]) fun ah (R:ah j=some (SY t)) N=>?_
  clear N ae;simp only[go_sem,e2,M,ab,aa,Z,J,aJ ht,b1,R];simp only[go_sem,e2,M,ab,aa,Z,J,aJ hv,b3,aY k];refine⟨⟨k+1,u,rfl,?_⟩,by simp only[aF];omega⟩;rw[bK ht,yR,List.getD,hv];rfl
 have O:=geB hk O;subst O;rw[Xai]at J;have hL:=nF h hd hm;have hC:=xZ h hd x.types.length;rw[Xai]at hC;simp only[go_sem,e2,M,ab,aa,Z,J];have ak:∀n∈[eV x.orders ms dim],Mid n:=fun n hn=>by rw[Xap.1 hn];unfold Mid;omega
 have ai:∀n∈[iO x.types dim],Mid n:=fun n hn=>by rw[Xap.1 hn];unfold Mid;omega
 refine aN (O9 [eV x.orders ms dim] [iO x.types dim] (by simp) (by simp) ak ai) ?_;unfold pX;generalize sI [eV x.orders ms dim] [iO x.types dim]=T;simp only[go_sem];refine aA (fun hb=>?_) (fun hb=>?_)
 ·simp only[go_sem];rw[if_pos (by simpa using hb)];exact .refl _
 ·simp only[go_sem];rw[if_neg (by simpa using hb)];exact .refl _
def vG{n:Nat}{set:Int}(h:qJ n set=true):∃s:Nat,set=(s:Int)/\s<2^n:=by
 unfold qJ at h;simp only[Xav,decide_eq_true_eq,beq_iff_eq]at h;obtain⟨s,rfl⟩:=Int.eq_ofNat_of_zero_le h.1;refine⟨s,rfl,?_⟩;have F:((2:Int)^n)=((2^n:Nat):Int):=by norm_cast
 have u:=h.2;rw[F]at u;have E:s/2^n=0:=by exact_mod_cast u
 exact(Nat.div_eq_zero_iff_lt (Nat.two_pow_pos n)).1 E
def E1{s n:Nat}(h:s<2^n)(O:n<=62):∀i∈jO (s:Int),0<=i/\i<(n:Int):=by
 intro i hi;unfold jO sG at hi;obtain⟨j,J,rfl⟩:=List.mem_map.1 hi;obtain⟨E,u⟩:=List.mem_filter.1 J;have M:=Xbi.1 E;rw[sN (by omega)]at u;refine⟨by omega,?_⟩;rcases Xbd j n with L|F
 ·omega
 ·rw[Nat.testBit_lt_two_pow (Xaz h (Xam (by decide) F))]at u;cases u
def FP(x:Instance)(ms:List Int)(k:Nat):Int:=(List.range k).foldl (fun n dim=>rY n (pX x ms dim)) 1
def Ds(x:Instance)(ms:List Int)(k:Nat):FP x ms (k+1)=rY (FP x ms k) (pX x ms k):=by unfold FP;rw[List.range_succ,List.foldl_append];rfl
def TG(x:Instance)(set:Int):Bool:=decide (set<=0)|| !qJ x.orders.length set|| !decide (set.toNat &&& jZ x=set.toNat)
def mR(x:Instance)(d:Nat)(set:Int):Int:=if TG x set=true then 0 else if U6 x (jO set)=false then 1 else FP x (jO set) d
def oT(q:Order->Bool)(l:List Order):IR q l<2^l.length:=wT _ _
def Ig(x:Instance)(d:Nat)(set:Int)(h:LoadsOk x d)(ht:x.types≠[]):PC prog 89 [.agg (aH x),int set] (int (mR x d set)):=by
 have u:=h.orders;have ag:=h.dims;have af:jZ x<2^x.orders.length:=oT _ _;have ae:2^x.orders.length<=2^62:=Xam (by decide) u;refine pcd func89 rfl rfl ?_;simp only[go_sem];refine⟨_,fun _=>(Fk x set u).q rfl,?_⟩;simp only[go_sem];refine⟨_,fun _=>(JV x u).q rfl,?_⟩;simp only[go_sem];refine⟨boo (decide (set.toNat &&& jZ x=set.toNat)),fun hg=>?_,?_⟩
 ·simp at hg;obtain⟨s,rfl,hs⟩:=vG hg.2;exact(NB s (jZ x) (by omega) (by omega)).q rfl
 simp only[go_sem];refine aA (fun L=>?_) (fun L=>?_)
 ·simp only[go_sem];rw[show mR x d set=0 from if_pos L];exact .refl _
 have e0:mR x d set=if U6 x (jO set)=false then 1 else FP x (jO set) d:=if_neg (by unfold TG;rw[L];simp)
 rw[e0];obtain⟨s,rfl,hs⟩:=vG (n:=x.orders.length) (set:=set) (by simp at L;exact L.1.2);have hm:KZ x.orders (jO (s:Int)):=E1 hs u;have aa:(jO (s:Int)).length<=63:=oW _ _;simp only[go_sem];refine aN (iG s) ?_;simp only[go_sem];refine aN (KN x (jO s) hm (by omega)) ?_;simp only[go_sem];obtain⟨t,r,J⟩:=List.exists_cons_of_ne_nil ht;have Z:((x.types.length:Int) == 0)=false:=by rw[J];rw[beq_eq_false_iff_ne];simp;omega
 simp only[go_sem,Xaa,Z];refine aA (fun L=>?_) (fun L=>?_)
 ·simp only[go_sem];rw[if_pos (by simpa using L)];exact .refl _
 rw[if_neg (by simpa using L)];have b1:=inB (show 0<x.types.length by rw[J];simp);have ab:x.types[0]?=some t:=by rw[J];rfl
 have ac:=aJ (f:=cV) ab;have hd:=(h.cap t (by rw[J];simp)).1;subst hd;simp only[go_sem,Xaa,ac];refine⟨by omega,?_⟩;refine⟨fun ρ H=>∃(k:Nat),k<=t.cap.length/\ρ 2=.rp (aH x) 0/\ρ 6=.sl ((jO s).map aP)/\ρ 41=int (t.cap.length:Nat)/\ρ 42=int k/\ρ 5=int (FP x (jO s) k),fun ρ _=>t.cap.length-aW (ρ 42),⟨0,Xab _,by simp only[go_sem],by simp only[go_sem],by simp only[go_sem,Xaa],(by simp only[go_sem];rfl),by simp only[go_sem];rfl⟩,?_⟩;rintro ρ H ⟨k,hk,e2,e6,M,E,e5⟩;simp only[go_sem,e2,e6,M,E,e5];refine aA (fun F=>?_) (fun O=>?_)
 ·have F:=ltB F;simp only[go_sem,e2,e6,M,E,e5];refine aN (S6 x (jO s) k _ h F hm aa) ?_;simp only[go_sem,e2,e6,M,E,e5,aY k];exact⟨⟨k+1,F,rfl,by rw[Ds]⟩,by simp only[aF];omega⟩
 ·have O:=geB hk O;subst O;simp only[go_sem,e2,e6,M,E,e5];exact .refl _
def oR(x:Instance)(d:Nat)(one:Cut):Int:=
 if one.kind=1 then(if(!qJ x.orders.length one.set|| !((pU 63 one.set.toNat:Nat):Int) == 3)=true then 2 else if one.n≠1 then 27 else 0)
 else if one.kind=2 then(if(!qJ x.orders.length one.set||one.set == 0)=true then 2 else if(decide (one.n<1)||decide (one.n>mR x d one.set))=true then 27 else 0)
 else 8
def O7(x:Instance)(d:Nat)(one:Cut)(h:LoadsOk x d)(L:x.types≠[]):PC prog 68 [.agg (aH x),.agg (cU one)] (int (oR x d one)):=by
 have E:=h.orders;refine pcd func68 rfl rfl ?_;simp only[go_sem];unfold oR;refine aA (fun h1=>?_) (fun h1=>?_)
 ·rw[if_pos (by simpa using h1)];simp only[go_sem];refine aN (Fk x one.set E) ?_;simp only[go_sem];refine⟨int (pU 63 one.set.toNat:Nat),fun J=>?_,?_⟩
  ·simp at J;obtain⟨s,M,_⟩:=vG J;rw[M];exact(BQ s).q rfl
  simp only[go_sem];refine aA (fun u=>?_) (fun u=>?_)
  ·rw[if_pos (by exact u)];simp only[go_sem];exact .refl _
  rw[if_neg (by rw[show(!qJ x.orders.length one.set|| !((pU 63 one.set.toNat:Nat):Int) == 3)=false from u];simp)];simp only[go_sem];refine aA (fun u=>?_) (fun u=>?_)
  ·rw[if_pos (by simpa using u)];simp only[go_sem];exact .refl _
  ·rw[if_neg (by simpa using u)];simp only[go_sem];exact .refl _
 rw[if_neg (by simpa using h1)];simp only[go_sem];refine aA (fun F=>?_) (fun F=>?_)
 ·rw[if_pos (by simpa using F)];simp only[go_sem];refine aN (Fk x one.set E) ?_;simp only[go_sem];refine aA (fun u=>?_) (fun u=>?_)
  ·rw[if_pos (by exact u)];simp only[go_sem];exact .refl _
  rw[if_neg (by rw[show(!qJ x.orders.length one.set||one.set == 0)=false from u];simp)];simp only[go_sem];refine eZ (by rfl) (by kernel_rfl) ?_;simp only[go_sem];refine⟨_,fun _=>(Ig x d one.set h L).q rfl,?_⟩;simp only[go_sem];refine aA (fun u=>?_) (fun u=>?_)
  ·rw[if_pos (by exact u)];simp only[go_sem];exact .refl _
  ·rw[if_neg (by rw[show(decide (one.n<1)||decide (one.n>mR x d one.set))=false from u];simp)];simp only[go_sem];exact .refl _
 ·rw[if_neg (by simpa using F)];simp only[go_sem];exact .refl _
def FV(one:Cut):Int×Int:=if one.kind=1 then(1,1)else if one.kind=2 then(3,one.n)else(0,0)
def Vp(one:Cut):PC prog 195 [.agg (cU one)] (.tup [int (FV one).1,int (FV one).2]):=by
 refine pcd func195 rfl rfl ?_;simp only[go_sem];unfold FV;refine aA (fun h1=>?_) (fun h1=>?_)
 ·rw[if_pos (by simpa using h1)];simp only[go_sem];exact .refl _
 rw[if_neg (by simpa using h1)];simp only[go_sem];refine aA (fun u=>?_) (fun u=>?_)
 ·rw[if_pos (by simpa using u)];simp only[go_sem];refine eZ (by rfl) (by kernel_rfl) ?_;simp only[go_sem];exact .refl _
 ·rw[if_neg (by simpa using u)];simp only[go_sem];exact .refl _
end Nu
namespace Nu
open Go.Nu
def Ms(l:List Int):List AV:=[.sl (l.map aP)]
def Hs{x:Instance}{d dim:Nat}{ms:List Int}(h:LoadsOk x d)(M:dim<d)(hm:KZ x.orders ms):
  0<=pX x ms dim/\(iO x.types dim<1->pX x ms dim=0)/\(1<=iO x.types dim->∀n:Int,0<=n->(pX x ms dim<=n↔eV x.orders ms dim<=n*iO x.types dim))/\pX x ms dim<=eV x.orders ms dim:=by
 have hL:=(nF h M hm).1;have O:=(xZ h M x.types.length).1;rw[Xai]at O;unfold pX sI;generalize eV x.orders ms dim=L at *;generalize iO x.types dim=C at *;have E:([C].any fun n=>decide (n<0))=false:=by simp;exact O
 simp only[Xae,List.length_nil,ne_eq,not_true,if_false,E,Xax,oQ];by_cases h0:L<=0
 ·have:L=0:=by omega
  subst this;simp only[Int.le_refl,if_true];simp;intro F n u;exact⟨fun _=>Int.mul_nonneg u (by omega),fun _=>u⟩
 ·rw[if_neg h0];by_cases F:C=0
  ·rw[if_pos F];simp;omega
  ·rw[if_neg F];have hq:rY 0 ((L+C-1).tdiv C)=(L+C-1)/C:=by have h1:(L+C-1).tdiv C=(L+C-1)/C:=Xbz (by omega);have Z:0<=(L+C-1)/C:=Int.ediv_nonneg (by omega) (by omega);rw[h1];unfold rY;split <;> omega
   simp only[hq,not_true,if_false];have Z:0<=(L+C-1)/C:=Int.ediv_nonneg (by omega) (by omega);refine⟨Z,fun h=>by omega,fun h1 n u=>?_,?_⟩
   ·have J:(L+C-1)/C<=n↔(L+C-1)/C<n+1:=by omega
    rw[J,Int.ediv_lt_iff_lt_mul (by omega),Int.add_mul,Int.one_mul];omega
   ·have J:(L+C-1)/C<=L↔(L+C-1)/C<L+1:=by omega
    rw[J,Int.ediv_lt_iff_lt_mul (by omega),Int.add_mul,Int.one_mul];have:L*1<=L*C:=Int.mul_le_mul_of_nonneg_left (by omega) (by omega);omega
def MD{x:Instance}{d:Nat}{ms:List Int}(h:LoadsOk x d)(u:KZ x.orders ms)(E:ms.length<=63):∀k,k<=d->1<=FP x ms k/\FP x ms k<=63001
 | 0,_=>by simp[FP]
 | k+1,hk=>by have ih:=MD h u E k (by omega);have h1:=Hs h (dim:=k) (by omega) u;have F:=nF h (dim:=k) (by omega) u;rw[Ds];unfold rY;split <;> omega
end Nu
end Go.Proofs.YtmhpdppobocokaaGreatDoor
section
namespace Go.So
variable{α:Type}
structure SWO(lt:α->α->Bool):Prop where
 asym:∀a b,lt a b=true->lt b a=false
 neg:∀a b c,lt a b=false->lt b c=false->lt a c=false
def tlt(lt:α->α->Bool)(p q:α×Nat):Prop:=lt p.1 q.1=true\/(lt q.1 p.1=false/\p.2<q.2)
section
variable{lt:α->α->Bool}(h:SWO lt)
include h
theorem VE{a b c:α}(h1:lt a b=true)(E:lt c b=false):lt a c=true:=by
 cases u:lt a c with
 | true=>rfl
 | false=>have:=h.neg _ _ _ u E;rw[h1]at this;cases this
theorem UB{a b c:α}(h1:lt a b=true)(E:lt a c=false):lt c b=true:=by
 cases u:lt c b with
 | true=>rfl
 | false=>have:=h.neg _ _ _ E u;rw[h1]at this;cases this
theorem MF{p q:α×Nat}(h1:tlt lt p q):lt q.1 p.1=false:=h1.elim (fun e=>h.asym _ _ e) (fun e=>e.1)
theorem pO{p q r:α×Nat}(h1:tlt lt p q)(u:tlt lt q r):tlt lt p r:=by
 rcases h1 with h1|⟨h1,E⟩
 ·exact .inl (VE h h1 (MF h u))
 ·rcases u with u|⟨u,F⟩
  ·exact .inl (UB h u h1)
  ·exact .inr ⟨h.neg _ _ _ u h1,by omega⟩
theorem O3{p q:α×Nat}(h1:tlt lt p q)(u:tlt lt q p):False:=by
 rcases h1 with h1|⟨h1,E⟩
 ·have:=MF h u;rw[h1]at this;cases this
 ·rcases u with u|⟨u,F⟩
  ·rw[h1]at u;cases u
  ·omega
end
theorem zK{R:α->α->Prop}(M:∀a b,R a b->R b a->False):∀L J:List α,L.Perm J->L.Pairwise R->J.Pairwise R->L=J
 | [],J,hp,_,_=>(List.nil_perm.1 hp).symm
 | a::t,[],hp,_,_=>absurd hp.length_eq (by simp)
 | a::t,b::u,hp,h1,h2=>by
  have E:=List.pairwise_cons.1 h1;have F:=List.pairwise_cons.1 h2;by_cases e:a=b
  ·subst e;rw[zK M t u ((List.perm_cons a).1 hp) E.2 F.2]
  ·have O:a∈u:=(List.mem_cons.1 (hp.mem_iff.1 (List.mem_cons_self ..))).resolve_left e;have Z:b∈t:=(List.mem_cons.1 (hp.mem_iff.2 (List.mem_cons_self ..))).resolve_left (fun x=>e x.symm);exact(M a b (E.1 b Z) (F.1 a O)).elim
def ins(lt:α->α->Bool)(x:α):List α->List α
 | []=>[x]
 | z::r=>if lt x z=true then x::z::r else z::ins lt x r
def zT(lt:α->α->Bool)(l:List α):List α:=l.foldl (fun acc x=>ins lt x acc) []
theorem wE(lt:α->α->Bool)(x:α):∀l:List α,(ins lt x l).Perm (x::l)
 | []=>.refl _
 | z::r=>by
  unfold ins;split
  ·exact .refl _
  ·exact((wE lt x r).cons z).trans (.swap x z r)
theorem LP{u:Type}(lt:α->α->Bool)(f:u->α)(x:u):∀l:List u,(ins (fun a b=>lt (f a) (f b)) x l).map f=ins lt (f x) (l.map f)
 | []=>rfl
 | z::r=>by
  rw[List.map_cons];unfold ins;split
  ·rfl
  ·rw[List.map_cons,LP lt f x r]
theorem L1{lt:α->α->Bool}{x y:α}{l:List α}:y∈ins lt x l↔y=x\/y∈l:=by rw[(wE lt x l).mem_iff,List.mem_cons]
theorem BJ{lt:α->α->Bool}(h:SWO lt)(x:α×Nat):∀l:List (α×Nat),l.Pairwise (tlt lt)->(∀y∈l,y.2<x.2)->(ins (fun a b=>lt a.1 b.1) x l).Pairwise (tlt lt)
 | [],_,_=>by simp[ins]
 | z::r,hs,hr=>by
  have E:=List.pairwise_cons.1 hs;unfold ins;split
  ·next F=>
   refine List.pairwise_cons.2 ⟨fun y u=>?_,hs⟩;rcases List.mem_cons.1 u with rfl|u
   ·exact .inl F
   ·exact pO h (.inl F) (E.1 y u)
  ·next F=>
   refine List.pairwise_cons.2 ⟨fun y u=>?_,BJ h x r E.2 fun y u=>hr y (List.mem_cons_of_mem _ u)⟩;rcases L1.1 u with rfl|u
   ·exact .inr ⟨by simpa using F,hr z (List.mem_cons_self ..)⟩
   ·exact E.1 y u
theorem DX{lt:α->α->Bool}(h:SWO lt):∀(l u:List (α×Nat)) (k:Nat),u.Pairwise (tlt lt)->(∀y∈u,y.2<k)->(∀i (y:α×Nat),l[i]?=some y->y.2=k+i) ->
  ((l.foldl (fun a x=>ins (fun a b=>lt a.1 b.1) x a) u).Pairwise (tlt lt)/\(l.foldl (fun a x=>ins (fun a b=>lt a.1 b.1) x a) u).Perm (u++l)/\(l.foldl (fun a x=>ins (fun a b=>lt a.1 b.1) x a) u).map Prod.fst=(l.map Prod.fst).foldl (fun a x=>ins lt x a) (u.map Prod.fst))
 | [],u,k,hs,_,_=>⟨hs,by simp,rfl⟩
 | x::l,u,k,hs,hk,hl=>by
  have F:x.2=k:=by have:=hl 0 x rfl;omega
  have ih:=DX h l (ins (fun a b=>lt a.1 b.1) x u) (k+1) (BJ h x u hs fun y E=>by have:=hk y E;omega) (fun y E=>by
   rcases L1.1 E with rfl|E
   ·omega
   ·have:=hk y E;omega) (fun i y hi=>by have:=hl (i+1) y (by simpa using hi);omega)
  rw[List.foldl_cons];refine⟨ih.1,ih.2.1.trans ?_,?_⟩
  ·refine((wE _ x u).append_right l).trans ?_;exact List.perm_middle.symm
  ·rw[ih.2.2,LP lt Prod.fst x u,List.map_cons,List.foldl_cons]
def tag(l:List α):List (α×Nat):=l.zipIdx
theorem Ft(l:List α):(tag l).map Prod.fst=l:=by unfold tag;exact List.zipIdx_map_fst 0 l
theorem vW{l:List α}{i:Nat}{y:α×Nat}(h:(tag l)[i]?=some y):y.2=i:=by
 unfold tag at h;rw[List.getElem?_zipIdx]at h;cases u:l[i]? with
 | none=>rw[u]at h;cases h
 | some a=>rw[u]at h;simp at h;rw[<-h]
theorem SA(l:List α):(tag l).length=l.length:=by unfold tag;exact List.length_zipIdx
theorem NR{lt:α->α->Bool}(h:SWO lt){l:List α}{L:List (α×Nat)}(F:L.Perm (tag l))(E:L.Pairwise (tlt lt)):L.map Prod.fst=zT lt l:=by have u:=DX h (tag l) [] 0 List.Pairwise.nil (by simp) (fun i y hi=>by have:=vW hi;omega);rw[zK (fun a b=>O3 h) L _ (F.trans u.2.1.symm) E u.1,u.2.2,Ft];rfl
section
variable{lt:α->α->Bool}(h:SWO lt)
include h
theorem uR{Q B:List (α×Nat)}{x:α×Nat}(hs:(Q++B).Pairwise (tlt lt))(h1:∀y,Q.getLast?=some y->tlt lt y x)(Z:∀y,B.head?=some y->tlt lt x y):(Q++x::B).Pairwise (tlt lt):=by
 obtain⟨M,hB,J⟩:=List.pairwise_append.1 hs;have F:∀b∈B,tlt lt x b:=by
  intro b E;cases B with
  | nil=>cases E
  | cons y r=>
   rcases List.mem_cons.1 E with rfl|E
   ·exact Z b rfl
   ·exact pO h (Z y rfl) ((List.pairwise_cons.1 hB).1 b E)
 have L:∀a∈Q,tlt lt a x:=by
  intro a u;rcases List.eq_nil_or_concat Q with rfl|⟨Q',y,rfl⟩
  ·cases u
  ·rw[List.concat_eq_append]at *;have O:=h1 y (by simp);rcases List.mem_append.1 u with u|u
   ·exact pO h ((List.pairwise_append.1 M).2.2 a u y (by simp)) O
   ·rw[List.mem_singleton.1 u];exact O
 refine List.pairwise_append.2 ⟨M,List.pairwise_cons.2 ⟨F,hB⟩,fun a u b E=>?_⟩;rcases List.mem_cons.1 E with rfl|E
 ·exact L a u
 ·exact J a u b E
theorem xD{M A2 Z O M1 L:List (α×Nat)}(hA:(M++A2).Pairwise (tlt lt))(hB:(Z++O).Pairwise (tlt lt))
  (h1:∀x y,M.getLast?=some x->O.head?=some y->tlt lt x y) (h2:∀x y,Z.getLast?=some x->A2.head?=some y->tlt lt x y)
  (p1:M1.Perm (M++Z)) (p2:L.Perm (A2++O)) (s1:M1.Pairwise (tlt lt)) (s2:L.Pairwise (tlt lt)):
  (M1++L).Pairwise (tlt lt)/\(M1++L).Perm ((M++A2)++(Z++O)):=by
 have OQ:∀{X Y:List (α×Nat)},X.Pairwise (tlt lt)->Y.Pairwise (tlt lt)->(∀x y,X.getLast?=some x->Y.head?=some y->tlt lt x y)->∀x∈X,∀y∈Y,tlt lt x y:=by
  intro X Y hX hY hc x u y E;rcases List.eq_nil_or_concat X with rfl|⟨X',z,rfl⟩
  ·cases u
  ·rw[List.concat_eq_append]at *;cases Y with
   | nil=>cases E
   | cons w r=>
    have F:=hc z w (by simp) rfl;have ac:x=z\/tlt lt x z:=by
     rcases List.mem_append.1 u with u|u
     ·exact .inr ((List.pairwise_append.1 hX).2.2 x u z (by simp))
     ·exact .inl (List.mem_singleton.1 u)
    have ab:y=w\/tlt lt w y:=by
     rcases List.mem_cons.1 E with E|E
     ·exact .inl E
     ·exact .inr ((List.pairwise_cons.1 hY).1 y E)
    have J:tlt lt x w:=ac.elim (fun e=>e▸F) (fun e=>pO h e F);exact ab.elim (fun e=>e▸J) (fun e=>pO h J e)
 obtain⟨a1,a2,aa⟩:=List.pairwise_append.1 hA;obtain⟨b1,b2,ae⟩:=List.pairwise_append.1 hB;refine⟨List.pairwise_append.2 ⟨s1,s2,fun x u y E=>?_⟩,?_⟩
 ·rcases List.mem_append.1 (p1.mem_iff.1 u)with u|u <;> rcases List.mem_append.1 (p2.mem_iff.1 E)with E|E
  ·exact aa x u y E
  ·exact OQ a1 b2 h1 x u y E
  ·exact OQ b1 a2 h2 x u y E
  ·exact ae x u y E
 ·refine(p1.append p2).trans ?_;rw[List.append_assoc,List.append_assoc];refine List.Perm.append_left _ ?_;rw[<-List.append_assoc,<-List.append_assoc];exact(List.perm_append_comm).append_right _
end
def swp(l:List α)(i j:Nat):List α:=match l[i]?,l[j]? with
 | some x,some y=>(l.set i y).set j x
 | _,_=>l
theorem SU(l:List α)(i j:Nat):(swp l i j).length=l.length:=by unfold swp;split <;> simp
theorem Qk{U V W:List α}{x y:α}{i j:Nat}(hi:i=U.length)(E:j=U.length+1+V.length):swp (U++x::(V++y::W)) i j=U++y::(V++x::W):=by
 subst hi E;unfold swp;have u:(U++x::(V++y::W))[U.length]?=some x:=by simp
 have e2:(U++x::(V++y::W))[U.length+1+V.length]?=some y:=by rw[List.getElem?_append_right (by omega),show U.length+1+V.length-U.length=V.length+1 by omega,List.getElem?_cons_succ,List.getElem?_append_right (by omega)];simp
 rw[u,e2];simp only;rw[List.set_append_right _ _ (by omega),show U.length-U.length=0 by omega,List.set_cons_zero,List.set_append_right _ _ (by omega),show U.length+1+V.length-U.length=V.length+1 by omega,List.set_cons_succ,List.set_append_right _ _ (by omega),Nat.sub_self,List.set_cons_zero]
theorem BA{U W:List α}{x y:α}{i j:Nat}(hi:i=U.length)(u:j=U.length+1):swp (U++x::y::W) i j=U++y::x::W:=Qk (V:=[]) hi (by simpa using u)
theorem Iw(l:List α)(i j:Nat)(h:i≠j):swp l i j=swp l j i:=by
 unfold swp;cases l[i]? with
 | none=>cases l[j]? <;> rfl
 | some x=>cases l[j]? with
  | none=>rfl
  | some y=>exact List.set_comm _ _ h
def vU(l:List α)(a b:Nat):Nat->List α
 | 0=>l
 | n+1=>swp (vU l a b n) (a+n) (b+n)
theorem Gu(l:List α)(a b:Nat):∀n,(vU l a b n).length=l.length
 | 0=>rfl
 | n+1=>by rw[vU,SU,Gu l a b n]
theorem L3{P X V Y S:List α}(h:X.length=Y.length):∀n,n<=X.length->vU (P++X++V++Y++S) P.length (P.length+X.length+V.length) n=P++(Y.take n++X.drop n)++V++(X.take n++Y.drop n)++S
 | 0,_=>by simp[vU]
 | n+1,hn=>by
  rw[vU,L3 h n (by omega)];have u:n<X.length:=by omega
  have E:n<Y.length:=by omega
  rw[<-List.getElem_cons_drop (h:=u),<-List.getElem_cons_drop (h:=E)];have e:=Qk (U:=P++Y.take n) (V:=X.drop (n+1)++V++X.take n) (W:=Y.drop (n+1)++S) (x:=X[n]) (y:=Y[n]) (i:=P.length+n) (j:=P.length+X.length+V.length+n) (by rw[List.length_append,List.length_take];omega) (by simp only[List.length_append,List.length_take,List.length_drop];omega);simp only[List.append_assoc,List.cons_append]at e |-;rw[e];simp only[List.take_add_one,List.getElem?_eq_getElem u,List.getElem?_eq_getElem E,Option.toList_some,List.append_assoc,List.cons_append,List.nil_append]
theorem AL{P X V Y S:List α}{a b n:Nat}(F:a=P.length)(E:b=P.length+X.length+V.length)(u:n=X.length)(h:Y.length=n):vU (P++X++V++Y++S) a b n=P++Y++V++X++S:=by subst F E u;rw[L3 h.symm _ (Nat.le_refl _),List.take_of_length_le (by omega),List.drop_length,List.append_nil,List.take_length,List.drop_of_length_le (by omega),List.append_nil]
def zM(A B:List (α×Nat)):Prop:=∀x∈A,∀y∈B,x.2<y.2
structure Good(lt:α->α->Bool)(R:List (List (α×Nat))):Prop where
 srt:∀A∈R,A.Pairwise (tlt lt)
 rk:R.Pairwise zM
def nU(n:Nat):List (List (α×Nat))->Prop
 | []=>True
 | [A]=>1<=A.length/\A.length<=n
 | A::B::r=>A.length=n/\nU n (B::r)
theorem Lb{n:Nat}{A:List (α×Nat)}{r:List (List (α×Nat))}(h1:A.length=n)(h0:1<=n)(h:nU n r):nU n (A::r):=by
 cases r with
 | nil=>exact⟨by omega,by omega⟩
 | cons B r=>exact⟨h1,h⟩
theorem tY{n:Nat}{D r:List (List (α×Nat))}(h1:∀A∈D,A.length=n)(h0:1<=n)(h:nU n r):nU n (D++r):=by
 induction D with
 | nil=>exact h
 | cons A D ih=>exact Lb (h1 A (by simp)) h0 (ih fun A u=>h1 A (by simp[u]))
theorem Ol{n:Nat}{R:List (List (α×Nat))}(h0:1<=n)(h:nU n R)(u:2*n<=R.flatten.length):∃A B r,R=A::B::r/\A.length=n/\B.length=n/\nU n r:=by
 match R,h with
 | [],_=>simp at u;omega
 | [A],h=>simp at u;have:=h.2;omega
 | [A,B],h=>exact⟨A,B,[],rfl,h.1,by have:=h.1;have:=h.2.2;simp at u;omega,trivial⟩
 | A::B::C::r,h=>exact⟨A,B,C::r,rfl,h.1,h.2.1,h.2.2⟩
theorem Kr{n:Nat}{R:List (List (α×Nat))}(h:nU n R)(E:R.flatten.length<2*n)(u:n<R.flatten.length):∃A B,R=[A,B]/\A.length=n/\1<=B.length/\B.length<=n:=by
 match R,h with
 | [],_=>simp at u
 | [A],h=>simp at u;have:=h.2;omega
 | [A,B],h=>exact⟨A,B,rfl,h.1,h.2.1,h.2.2⟩
 | A::B::C::r,h=>have:=h.1;have:=h.2.1;simp at E;omega
theorem Dr{n:Nat}{R:List (List (α×Nat))}(h0:1<=n)(h:nU n R)(u:R.flatten.length<=n):R=[]\/∃A,R=[A]/\1<=A.length/\A.length<=n:=by
 match R,h with
 | [],_=>exact .inl rfl
 | [A],h=>exact .inr ⟨A,rfl,h⟩
 | [A,B],h=>have:=h.1;have:=h.2.1;simp at u;omega
 | A::B::C::r,h=>have:=h.1;have:=h.2.1;simp at u;omega
theorem Br{lt:α->α->Bool}{D r:List (List (α×Nat))}{A B:List (α×Nat)}(h:Good lt (D++A::B::r)):zM A B/\A.Pairwise (tlt lt)/\B.Pairwise (tlt lt):=by have u:=(List.pairwise_append.1 h.rk).2.1;exact⟨(List.pairwise_cons.1 u).1 B (by simp),h.srt A (by simp),h.srt B (by simp)⟩
theorem AY{lt:α->α->Bool}{D r:List (List (α×Nat))}{A B M:List (α×Nat)}(h:Good lt (D++A::B::r))(Z:M.Perm (A++B))(hs:M.Pairwise (tlt lt)):Good lt (D++M::r):=by
 obtain⟨q1,q2,O⟩:=List.pairwise_append.1 h.rk;obtain⟨q4,q5⟩:=List.pairwise_cons.1 q2;obtain⟨q6,q7⟩:=List.pairwise_cons.1 q5;refine⟨fun C u=>?_,List.pairwise_append.2 ⟨q1,List.pairwise_cons.2 ⟨fun C u x F y J=>?_,q7⟩,fun C u E L=>?_⟩⟩
 ·rcases List.mem_append.1 u with u|u
  ·exact h.srt C (by simp[u])
  ·rcases List.mem_cons.1 u with rfl|u
   ·exact hs
   ·exact h.srt C (by simp[u])
 ·rcases List.mem_append.1 (Z.mem_iff.1 F)with F|F
  ·exact q4 C (by simp[u]) x F y J
  ·exact q6 C u x F y J
 ·rcases List.mem_cons.1 L with rfl|L
  ·intro x F y J;rcases List.mem_append.1 (Z.mem_iff.1 J)with J|J
   ·exact O C u A (by simp) x F y J
   ·exact O C u B (by simp) x F y J
  ·exact O C u E (by simp[L])
theorem QD{lt:α->α->Bool}{n:Nat}{R:List (List (α×Nat))}(h:Good lt R)(h0:1<=n)(u:nU n R)(E:R.flatten.length<=n):R.flatten.Pairwise (tlt lt):=by
 rcases Dr h0 u E with rfl|⟨A,rfl,_⟩
 ·exact List.Pairwise.nil
 ·simpa using h.srt A (by simp)
theorem D9{lt:α->α->Bool}{D:List (List (α×Nat))}{A:List (α×Nat)}(h:Good lt D)(F:A.Pairwise (tlt lt))(L:∀B∈D,zM B A):Good lt (D++[A]):=by
 refine⟨fun C u=>?_,List.pairwise_append.2 ⟨h.rk,List.pairwise_singleton _ _,fun C u E J=>?_⟩⟩
 ·rcases List.mem_append.1 u with u|u
  ·exact h.srt C u
  ·rw[List.mem_singleton.1 u];exact F
 ·rw[List.mem_singleton.1 J];exact L C u
theorem NX{l:List α}{P Q:List (α×Nat)}(h:P++Q=tag l):zM P Q:=by
 intro x E y J;obtain⟨i,hi,rfl⟩:=List.getElem_of_mem E;obtain⟨j,F,rfl⟩:=List.getElem_of_mem J;have u:(tag l)[i]?=some P[i]:=by rw[<-h,List.getElem?_append_left hi,List.getElem?_eq_getElem hi]
 have e2:(tag l)[P.length+j]?=some Q[j]:=by rw[<-h,List.getElem?_append_right (by omega),Nat.add_sub_cancel_left,List.getElem?_eq_getElem F]
 rw[vW u,vW e2];omega
end Go.So
end
namespace Go.Proofs.YtmhpdppobocokaaGreatDoor
open Go.Aw Go.Aw.D Go.Proofs Ty
namespace Nu
open Go.Proofs.Tryz
open Go.Nu Go.So
structure Broken where
 cut:Cut
 by_:ByteArray
def bB(x:Broken):List AV:=[.v (.int .i64 x.cut.kind),.v (.int .i64 x.cut.set),.v (.int .i64 x.cut.n),.v (.string x.by_)]
def bU(x:Broken):(bB x).length=4:=(rfl)
def Gs(x:Broken):(bB x).getD 0 .any=.v (.int .i64 x.cut.kind):=(rfl)
def GT(x:Broken):(bB x).getD 1 .any=.v (.int .i64 x.cut.set):=(rfl)
def Gl(x:Broken):(bB x).getD 2 .any=.v (.int .i64 x.cut.n):=(rfl)
def HX(x:Broken):(bB x).getD 3 .any=.v (.string x.by_):=(rfl)
def CG(x:Broken):(bB x).take 4=bB x:=(rfl)
def iC(x:Broken):(bB x).drop 4=[]:=(rfl)
def Cu(x:Broken):(bB x).take 3=cU x.cut:=(rfl)
attribute [go_sem] bU Gs GT Gl HX CG Cu
abbrev rX(gf:Nat):AV:=.v (.func (.func gf) #[] #[])
abbrev dO(l:List Broken):Row:=⟨126,4,l.map bB⟩
def cK(H:aD)(j:Nat)(a b:Option Row):aE (aE H j a) j b=aE H j b:=by funext k;unfold aE;split <;> rfl
def cY{H:aD}{j:Nat}{r:Row}(h:H j=some r):aE H j (some r)=H:=by
 funext k;unfold aE;split
 ·next e=>rw[e,h]
 ·rfl
def Au{L:List Broken}{a b j:Nat}{x y:Broken}{H0 H:aD}(J:L[a]?=some x)(E:L[b]?=some y)(u:a≠b)(M:H=aE H0 j (some (dO L))):
  aE (aE H j (some (⟨126,4,(L.map bB).set a (bB y)⟩:Row))) j (some (⟨126,4,((L.map bB).set a (bB y)).set b (bB x++List.drop 4 (((L.map bB).set a (bB y)).getD b []))⟩:Row))=aE H0 j (some (dO (swp L a b))):=by
 have F:((L.map bB).set a (bB y)).getD b []=bB y:=by rw[List.getD,List.getElem?_set_ne u,List.getElem?_map,E];rfl
 rw[M,cK,cK,F,iC,Xaq];unfold swp dO;simp only[J,E,List.map_set]
def tN(L:List Broken)(a b n j:Nat)(gf:Nat)(H0:aD)(K:AV->aD->Prop)(aa:a+n<=b)(ac:b+n<=L.length)(hl:L.length<=1048576)(hj:H0 j=some (dO L))
  (hK:∀r,K r (aE H0 j (some (dO (vU L a b n))))):aI prog 260 [.os j,int a,int b,int n,rX gf] H0 K:=by
 refine aI.body (c:=f260.body.getD .skip) (fun _=>false) mixed func260 rfl (by kernel_rfl) ?_;unfold f260;simp only[Xag];simp only[go_sem];refine⟨fun ρ H=>∃(k:Nat),k<=n/\ρ 0=.os j/\ρ 1=int a/\ρ 2=int b/\ρ 3=int n/\ρ 10=int k/\H=aE H0 j (some (dO (vU L a b k))),fun ρ _=>n-aW (ρ 10),⟨0,Xab _,by simp only[go_sem],by simp only[go_sem],by simp only[go_sem],by simp only[go_sem],(by simp only[go_sem];rfl),(cY hj).symm⟩,?_⟩;rintro ρ H ⟨k,hk,J,M,e2,O,u,Z⟩;simp only[go_sem,J,M,e2,O,u];refine aA (fun E=>?_) (fun F=>?_)
 ·have E:=ltB E;have ab:=Gu L a b k;obtain⟨x,hx⟩:=bG (l:=vU L a b k) (k:=a+k) (by omega);obtain⟨y,hy⟩:=bG (l:=vU L a b k) (k:=b+k) (by omega);have R:H j=some (dO (vU L a b k)):=by rw[Z];exact aB _ _ _
  have w1:IntKind.i64.wrap ((a:Int)+(k:Int))=((a+k:Nat):Int):=by rw[aV (by omega)];omega
  have w2:IntKind.i64.wrap ((b:Int)+(k:Int))=((b+k:Nat):Int):=by rw[aV (by omega)];omega
  have b1:=inB (show a+k<(vU L a b k).length by omega);have b2:=inB (show b+k<(vU L a b k).length by omega);simp only[go_sem,J,M,e2,O,u];refine oF [] (.q 0 (.q 1 (.q 2 (.q 3 (.q 4 (.q 5 (.q 6 (.q 7 (.q 8 (.q 9 (.q 10 (.q 11 (.q 14 (.q 15 (.q 16 (.q 17 (.a2 12 (.a2 13 (.a1 18 (.a1 19 (.a1 20 (.a1 21 (.a1 22 (.a1 23 (.nil))))))) 18 (.a2 13 (.a1 19 (.a1 20 (.a1 21 (.a1 22 (.a1 23 (.nil)))))) 19 (.a1 13 (.a1 20 (.a1 21 (.a1 22 (.a1 23 (.nil)))))))) 18 (.a2 12 (.a2 13 (.a1 19 (.a1 20 (.a1 21 (.a1 22 (.a1 23 (.nil)))))) 19 (.a1 13 (.a1 20 (.a1 21 (.a1 22 (.a1 23 (.nil))))))) 19 (.a1 12 (.a1 13 (.a1 20 (.a1 21 (.a1 22 (.a1 23 (.nil))))))))))))))))))))))))) (by simp) (by kernel_rfl) fun Hp Hr _ hr _ _=>?_
  obtain rfl:Hr=H:=funext fun i=>hr i (by simp)
  simp only[go_sem,J,M,e2,O,u,w1,w2,R,b1,b2]
  repeat' (first|(refine fY ?_ ?_)|(refine⟨by omega,?_⟩)|(refine aZ R ⟨by rw[Xaa];omega,bU _,by rw[bU];exact Xad 4⟩ ?_)|(refine aZ (aB _ _ _) ⟨by rw[Xal,Xaa];omega,bU _,by rw[bU];exact Xad 4⟩ ?_)|(refine eK fun _ Hm _ hm=>?_;obtain rfl:Hm=_:=funext fun i=>hm i (by simp))|(simp only[go_sem,J,M,e2,O,u,w1,w2,R,b1,b2,aJ hy,aJ hx,aY k,Xal,Xaa,iC,Xaq]))
  all_goals exact⟨⟨k+1,E,rfl,Au hx hy (by omega) Z⟩,by simp only[aF];omega⟩
 ·have F:=geB hk F;subst F;simp only[go_sem];rw[Z];exact hK _
def yK{a b:Nat}(h:b<=a)(u:a<=4611686018427387904):IntKind.i64.wrap ((a:Int)-(b:Int))=((a-b:Nat):Int):=by rw[aV (by omega)];omega
def N0{a b:Nat}(h:a+b<=4611686018427387904):IntKind.i64.wrap ((a:Int)+(b:Int))=((a+b:Nat):Int):=by rw[aV (by omega)];omega
def nI{α:Type}{l:List α}{n:Nat}(h:n<=l.length):∃E u,l=E++u/\E.length=n/\u.length=l.length-n:=⟨l.take n,l.drop n,(List.take_append_drop n l).symm,by rw[Xaj];omega,by rw[List.length_drop]⟩
def PT(P U V S:List Broken)(a m b j:Nat)(gf:Nat)(H0:aD)(K:AV->aD->Prop)(ha:a=P.length)(hm:m=a+U.length)(hb:b=m+V.length)(hU:U≠[])(hV:V≠[])(hl:(P++U++V++S).length<=1048576)(hj:H0 j=some (dO (P++U++V++S)))
  (hK:∀r,K r (aE H0 j (some (dO (P++V++U++S))))):aI prog 221 [.os j,int a,int m,int b,rX gf] H0 K:=by
 have ac:P.length+U.length+V.length+S.length<=1048576:=by simpa[Xbn]using hl
 have ai:=Xbt.2 hU;have ah:=Xbt.2 hV;refine aI.body (c:=f221.body.getD .skip) (fun _=>false) mixed func221 rfl (by kernel_rfl) ?_;unfold f221;simp only[Xag];simp only[go_sem];simp only[go_sem,yK (show a<=m by omega) (by omega),yK (show m<=b by omega) (by omega)];refine⟨fun ρ H=>∃F u E S':List Broken,ρ 0=.os j/\ρ 2=int m/\ρ 4=rX gf/\ρ 10=int u.length/\ρ 11=int E.length/\F.length+u.length=m/\0<u.length/\0<E.length/\(F.length+u.length+E.length+S'.length<=1048576)/\F++E++u++S'=P++V++U++S/\H=aE H0 j (some (dO (F++u++E++S'))),fun ρ _=>aW (ρ 10)+aW (ρ 11),
  ⟨P,U,V,S,by simp only[go_sem],by simp only[go_sem],by simp only[go_sem],by simp only[go_sem];rw[show m-a=U.length by omega],by simp only[go_sem];rw[show b-m=V.length by omega],by omega,ai,ah,ac,rfl,(cY hj).symm⟩,?_⟩
 rintro ρ H ⟨F,u,E,S',Z,e2,e4,L,J,aj,hu,hv,ak,aa,hH⟩;have R:H j=some (dO (F++u++E++S')):=by rw[hH];exact aB _ _ _
 simp only[go_sem,Z,e2,e4,L,J];refine aA (fun ag=>?_) (fun ab=>?_)
 ·have ag:u.length≠E.length:=neN ag;simp only[go_sem,Z,e2,e4,L,J];refine aA (fun O=>?_) (fun M=>?_)
  ·have O:E.length<u.length:=by simpa using O
   obtain⟨U1,U2,af,h1,h2⟩:=nI (Nat.le_of_lt O);have e:=AL (P:=F) (X:=U1) (V:=U2) (Y:=E) (S:=S') (a:=F.length) (b:=m) (n:=E.length) rfl (by omega) h1.symm rfl;simp only[go_sem,Z,e2,e4,L,J,yK (show u.length<=m by omega) (by omega),show m-u.length=F.length by omega];refine tN (F++u++E++S') F.length m E.length j gf _ _ (by omega) (by simp;omega) (by simp;omega) R fun r=>?_
   simp only[go_sem,Z,e2,e4,L,J,yK (show E.length<=u.length by omega) (by omega)];refine⟨⟨F++E,U2,U1,S',?_,?_,by rw[Xac];omega,by omega,by omega,by rw[Xac];omega,?_,?_⟩,?_⟩
   ·rw[h2]
   ·rw[h1]
   ·rw[<-aa,af];simp only[Xah]
   ·rw[hH,cK,af]
    congr 2
    have:F++(U1++U2)++E++S'=F++U1++U2++E++S':=by simp only[Xah]
    rw[this,e]
   ·simp only[aF];omega
  ·have M:¬E.length<u.length:=by simpa using M
   obtain⟨V1,V2,ae,h1,h2⟩:=nI (l:=E) (n:=E.length-u.length) (by omega);have h2:V2.length=u.length:=by omega
   have e:=AL (P:=F) (X:=u) (V:=V1) (Y:=V2) (S:=S') (a:=F.length) (b:=m+V1.length) (n:=u.length) rfl (by omega) rfl h2;simp only[go_sem,Z,e2,e4,L,J,yK (show u.length<=m by omega) (by omega),show m-u.length=F.length by omega,N0 (show m+E.length<=4611686018427387904 by omega),yK (show u.length<=m+E.length by omega) (by omega),show m+E.length-u.length=m+V1.length by omega];refine tN (F++u++E++S') F.length (m+V1.length) u.length j gf _ _ (by omega) (by simp;omega) (by simp;omega) R fun r=>?_
   simp only[go_sem,Z,e2,e4,L,J,yK (show u.length<=E.length by omega) (by omega)];refine⟨⟨F,V2,V1,u++S',?_,?_,by omega,by omega,by omega,by rw[Xac];omega,?_,?_⟩,?_⟩
   ·rw[h2]
   ·rw[h1]
   ·rw[<-aa,ae];simp only[Xah]
   ·rw[hH,cK,ae]
    congr 2
    have:F++u++(V1++V2)++S'=F++u++V1++V2++S':=by simp only[Xah]
    rw[this,e];simp only[Xah]
   ·simp only[aF];omega
 ·have ab:u.length=E.length:=eqN ab;have e:=AL (P:=F) (X:=u) (V:=[]) (Y:=E) (S:=S') (a:=F.length) (b:=m) (n:=u.length) rfl (by simp;omega) rfl ab.symm;simp only[Xaq]at e;simp only[go_sem,Z,e2,e4,L,J,yK (show u.length<=m by omega) (by omega),show m-u.length=F.length by omega];refine tN (F++u++E++S') F.length m u.length j gf _ _ (by omega) (by simp;omega) (by simp;omega) R fun r=>?_
  simp only[go_sem];rw[hH,cK,e,aa];exact hK _
abbrev TB:=Broken×Nat
def fs(L:List TB):List Broken:=L.map Prod.fst
def mP(a:List TB):(fs a).length=a.length:=Xaa _
def jK{L:List TB}{k:Nat}{x:TB}(h:L[k]?=some x):(fs L)[k]?=some x.1:=by unfold fs;rw[List.getElem?_map,h];rfl
structure CmpOk(gf:Nat)(lt:Broken->Broken->Bool)(ok:Broken->Prop):Prop where
 call:aG Tryz.prog gf=true
 cmp:∀x y,ok x->ok y->∃n:Int,decide (n<0)=lt x y/\PC Tryz.prog gf [.agg (bB x),.agg (bB y)] (int n)
def tD{l:List Nat}{H E u:aD}(h1:∀k,k∈l->u k=H k)(J:∀k,k∉l->u k=E k)(F:∀k,k∉l->E k=H k):u=H:=funext fun k=>by
 by_cases h:k∈l
 ·exact h1 k h
 ·rw[J k h,F k h]
def yY{gf:Nat}{lt:Broken->Broken->Bool}{ok:Broken->Prop}(hs:SWO lt)(hc:CmpOk gf lt ok)(P X S:List TB)(a b j:Nat)(H0:aD)(K:AV->aD->Prop)(ha:a=P.length)(hb:b=a+X.length)
   (ao:X.Pairwise fun p q=>p.2<q.2) (an:∀x∈X,ok x.1) (hl:(P++X++S).length<=1048576) (hj:H0 j=some (dO (fs (P++X++S))))
   (hK:∀M:List TB,M.Perm X->M.Pairwise (tlt lt)->∀r,K r (aE H0 j (some (dO (fs (P++M++S)))))):aI prog 162 [.os j,int a,int b,rX gf] H0 K:=by
 have a7:P.length+X.length+S.length<=1048576:=by simpa[Xbn]using hl
 have ac:=hc.call;refine aI.body (c:=f162.body.getD .skip) (fun _=>false) mixed func162 rfl (by kernel_rfl) ?_;unfold f162;simp only[Xag];simp only[go_sem];simp only[go_sem,aY a];refine⟨fun ρ H=>∃(k:Nat) (M:List TB),1<=k/\k<=max 1 X.length/\ρ 0=.os j/\ρ 1=int a/\ρ 2=int b/\ρ 3=rX gf/\ρ 8=int (a+k:Nat)/\M.Perm (X.take k)/\M.Pairwise (tlt lt)/\H=aE H0 j (some (dO (fs (P++M++X.drop k++S)))),fun ρ _=>b+1-aW (ρ 8),
   ⟨1,X.take 1,Xad _,Nat.le_max_left _ _,by simp only[go_sem],by simp only[go_sem],by simp only[go_sem],by simp only[go_sem],by simp only[go_sem],.refl _,by cases X <;> simp,by
     have:P++X.take 1++X.drop 1++S=P++X++S:=by rw[Xah P,List.take_append_drop]
     rw[this];exact(cY hj).symm⟩,?_⟩
 rintro ρ H ⟨k,M,ba,a9,L,O,e2,Z,J,hp,hM,hH⟩;simp only[go_sem,L,O,e2,Z,J];refine aA (fun av=>?_) (fun a6=>?_)
 . have ae:k<X.length:=by have:=ltB av;omega
   obtain⟨y,hy⟩:=bG ae;have a0:y∈X:=Xaf hy;have aq:M.length=k:=by rw[hp.length_eq,Xaj];omega
   have af:∀z∈M,ok z.1/\z.2<y.2:=fun z hz=>by
     have hz:=hp.mem_iff.1 hz;refine⟨an z (List.mem_of_mem_take hz),?_⟩;have hX:X=X.take k++y::X.drop (k+1):=by rw[<-qT hy,List.take_append_drop]
     rw[hX]at ao;exact(List.pairwise_append.1 ao).2.2 z hz y (List.mem_cons_self ..)
   simp only[go_sem,L,O,e2,Z,J];refine⟨fun ρ H=>∃M1 F:List TB,M=M1++F/\(∀z∈F,lt y.1 z.1=true)/\ρ 0=.os j/\ρ 1=int a/\ρ 2=int b/\ρ 3=rX gf/\ρ 8=int (a+k:Nat)/\ρ 9=int (a+M1.length:Nat)/\H=aE H0 j (some (dO (fs (P++M1++y::F++X.drop (k+1)++S)))),fun ρ _=>aW (ρ 9),
     ⟨M,[],by simp,by simp,by simp only[go_sem,L],by simp only[go_sem,O],by simp only[go_sem,e2],by simp only[go_sem,Z],by simp only[go_sem,J],by simp only[go_sem,J,aq],by rw[hH,qT hy];simp only[Xah,Xaw,Xau]⟩,?_⟩
   clear L O e2 Z J hH;rintro ρ H ⟨M1,F,rfl,al,L,O,e2,Z,J,e9,hH⟩;have a5:M1.length+F.length=k:=by rw[<-aq,Xac]
   have R:H j=some (dO (fs (P++M1++y::F++X.drop (k+1)++S))):=by rw[hH];exact aB _ _ _
   have aa:(M1=[]\/∃E z,M1=E++[z]/\lt y.1 z.1=false)->(M1++y::F).Perm (X.take (k+1))/\(M1++y::F).Pairwise (tlt lt):=by
     intro am;refine⟨?_,uR hs hM (fun z hz=>?_) (fun z hz=>.inl (al z (List.mem_of_mem_head? hz)))⟩
     . rw[bK hy];refine List.perm_middle.trans ?_;exact((hp.cons y)).trans (List.perm_append_singleton y _).symm
     . rcases am with rfl|⟨E,z',rfl,aw⟩
       . cases hz
       . rw[List.getLast?_append,List.getLast?_singleton]at hz;have:z'=z:=by simpa using hz
         subst this;exact .inr ⟨aw,(af z' (by simp)).2⟩
   rcases List.eq_nil_or_concat M1 with rfl|⟨E,z,rfl⟩
   . simp only[go_sem,L,O,e2,Z,J,e9];refine eN [j] [(0,true),(1,true),(2,true),(3,true),(4,true),(5,true),(6,true),(7,true),(8,true),(9,true),(10,true),(11,true),(12,true),(13,true),(14,true),(15,true),(16,true)] (by simp[R]) (by kernel_rfl) fun Hp Hr ag ai ar az=>?_
     have Rp:=(ag j (by simp)).trans R;have a4:decide ((a:Int)>(a:Int))=false:=by simp
     simp only[List.length_nil,Nat.add_zero]at e9;simp only[go_sem,L,O,e2,Z,J,e9,Rp,a4,ac];refine⟨int 0,?_⟩;simp only[go_sem,L,O,e2,Z,J,e9];refine eK fun _ Hm ah aj=>?_
     obtain rfl:=tD ah aj ai;refine aA (fun hb=>by cases hb) (fun _=>?_);simp only[go_sem,L,O,e2,Z,J,nN (show a+k<=4611686018427387904 by omega)];obtain⟨f1,f2⟩:=aa (.inl rfl);refine⟨⟨k+1,_,by omega,by omega,?_,f1,f2,by rw[hH];simp only[Xah,Xaw,Xau]⟩,by simp only[aF];omega⟩;rw[Xbn]
   . rw[List.concat_eq_append]at *;have ap:(P++(E++[z])++y::F++X.drop (k+1)++S)[a+E.length]?=some z:=by rw[ha];simp only[Xah];rw[List.getElem?_append_right (by omega),List.getElem?_append_right (by omega)];simp
     have ak:(P++(E++[z])++y::F++X.drop (k+1)++S)[a+E.length+1]?=some y:=by rw[ha];simp only[Xah];rw[List.getElem?_append_right (by omega),List.getElem?_append_right (by omega),List.getElem?_append_right (by simp;omega)];simp[Nat.add_sub_cancel_left,show P.length+E.length+1-P.length-E.length-1=0 by omega]
     simp only[Xac,List.length_singleton]at a5;have a8:(fs (P++(E++[z])++y::F++X.drop (k+1)++S)).length=P.length+X.length+S.length:=by simp[fs];omega
     have b1:(0:Int)<=((a+E.length+1:Nat):Int)/\((a+E.length+1:Nat):Int)<((fs (P++(E++[z])++y::F++X.drop (k+1)++S)).length:Int):=by omega
     have b2:(0:Int)<=((a+E.length:Nat):Int)/\((a+E.length:Nat):Int)<((fs (P++(E++[z])++y::F++X.drop (k+1)++S)).length:Int):=by omega
     have g1:=aJ (f:=bB) (jK ak);have g2:=aJ (f:=bB) (jK ap);obtain⟨n,hn,au⟩:=hc.cmp y.1 z.1 (an y a0) (af z (by simp)).1;have ab:ρ 9=int ((a+E.length+1:Nat):Int):=by rw[e9];simp[Xbn]
     have ax:decide (((a+E.length+1:Nat):Int)>(a:Int))=true:=by simp;omega
     have w1:IntKind.i64.wrap (((a+E.length+1:Nat):Int)-1)=((a+E.length:Nat):Int):=by rw[aV (by omega)];omega
     simp only[go_sem,L,O,e2,Z,J,ab];refine eN [j] [(0,true),(1,true),(2,true),(3,true),(4,true),(5,true),(6,true),(7,true),(8,true),(9,true),(10,true),(11,true),(12,true),(13,true),(14,true),(15,true),(16,true)] (by simp[R]) (by kernel_rfl) fun Hp Hr ag ai ar az=>?_
     have Rp:=(ag j (by simp)).trans R;simp only[go_sem,L,O,e2,Z,J,ab,Rp,ax,ac,w1,g1,g2,b1,b2];refine⟨by omega,by omega,_,au.q rfl,?_⟩;simp only[go_sem,L,O,e2,Z,J,ab,hn];refine eK fun _ Hm ah aj=>?_
     obtain rfl:=tD ah aj ai;refine aA (fun hb=>?_) (fun hb=>?_)
     . simp only[go_sem,L,O,e2,Z,J,ab];refine oF [] (.q 0 (.q 1 (.q 2 (.q 3 (.q 4 (.q 5 (.q 6 (.q 7 (.q 10 (.q 11 (.a2 8 (.a2 9 (.a1 12 (.a1 13 (.a1 14 (.a1 15 (.a1 16 (.a1 17 (.nil))))))) 12 (.a2 9 (.a1 13 (.a1 14 (.a1 15 (.a1 16 (.a1 17 (.nil)))))) 13 (.a1 9 (.a1 14 (.a1 15 (.a1 16 (.a1 17 (.nil)))))))) 12 (.a2 8 (.a2 9 (.a1 13 (.a1 14 (.a1 15 (.a1 16 (.a1 17 (.nil)))))) 13 (.a1 9 (.a1 14 (.a1 15 (.a1 16 (.a1 17 (.nil))))))) 13 (.a1 8 (.a1 9 (.a1 14 (.a1 15 (.a1 16 (.a1 17 (.nil))))))))))))))))))) (by simp) (by kernel_rfl) fun Hp Hr _ hr _ _=>?_
       obtain rfl:Hr=Hm:=funext fun i=>hr i (by simp)
       have hx:(fs (P++(E++[z])++y::F++X.drop (k+1)++S))[a+E.length+1]?=some y.1:=jK ak;have ay:(fs (P++(E++[z])++y::F++X.drop (k+1)++S))[a+E.length]?=some z.1:=jK ap;simp only[go_sem,L,O,e2,Z,J,ab,w1,R,b1,b2]
       repeat' (first|(refine fY ?_ ?_)|(refine⟨by omega,?_⟩)|(refine aZ R ⟨by rw[Xaa];omega,bU _,by rw[bU];exact Xad 4⟩ ?_)|(refine aZ (aB _ _ _) ⟨by rw[Xal,Xaa];omega,bU _,by rw[bU];exact Xad 4⟩ ?_)|(refine eK fun _ Hm _ hm=>?_;obtain rfl:Hm=_:=funext fun i=>hm i (by simp))|(simp only[go_sem,L,O,e2,Z,J,ab,w1,R,b1,b2,g1,g2,Xal,Xaa,iC,Xaq]))
       all_goals refine⟨⟨E,z::F,by simp,?_,rfl,(Au hx ay (by omega) hH).trans ?_⟩,by simp only[aF];omega⟩
       all_goals first
         | (intro u hu
            rcases Xao.1 hu with rfl|hu
            . exact hb
            . exact al u hu)
         | (congr 2
            rw[Iw _ _ _ (by omega)];have:=BA (U:=fs (P++E)) (W:=fs (F++X.drop (k+1)++S)) (x:=z.1) (y:=y.1) (i:=a+E.length) (j:=a+E.length+1) (by rw[mP,Xac];omega) (by rw[mP,Xac];omega);simp only[fs,Xak,Xar,Xay,Xah,Xaw,Xau]at this |-;exact congrArg dO this)
     . simp only[go_sem,L,O,e2,Z,J,nN (show a+k<=4611686018427387904 by omega)];obtain⟨f1,f2⟩:=aa (.inr ⟨E,z,rfl,hb⟩);refine⟨⟨k+1,_,by omega,by omega,?_,f1,f2,by rw[hH];simp only[Xah,Xaw,Xau]⟩,by simp only[aF];omega⟩;rw[Xbn]
 . have ae : X.length <= k := by
     have:¬a+k<b:=fun h=>by simp at a6;omega
     omega
   rw[Xba ae]at hp;rw[List.drop_of_length_le ae,Xaq]at hH;simp only[go_sem];rw[hH];exact hK M hp hM _
end Nu
namespace Nu
open Go.Proofs.Tryz
open Go.Nu Go.So
def AD{i k:Nat}(h:i+k<=4611686018427387904):IntKind.i64.wrap (shV .shr .u64 (IntKind.u64.wrap (IntKind.i64.wrap ((i:Int)+(k:Int)))) 1)=(((i+k)/2:Nat):Int):=by
 have u:IntKind.u64.wrap ((i+k:Nat):Int)=((i+k:Nat):Int):=by have e:IntKind.u64.wrap ((i+k:Nat):Int)=((i+k:Nat):Int)%18446744073709551616:=rfl;rw[e];omega
 rw[N0 h,u];show IntKind.i64.wrap (((i+k:Nat):Int).fdiv (2^min (1:Int).toNat 64))=_;rw[show min (1:Int).toNat 64=1 from rfl,Int.fdiv_eq_ediv_of_nonneg _ (by decide),aV (by omega)];omega
def P5{P A B S:List TB}{m k:Nat}{y:TB}(E:m=P.length+A.length)(u:B[k]?=some y):(P++A++B++S)[m+k]?=some y:=by have F:=(List.getElem?_eq_some_iff.1 u).1;rw[List.getElem?_append_left (by simp;omega),List.getElem?_append_right (by simp;omega),Xac,E,Nat.add_sub_cancel_left,u]
def Q3{P A B S:List TB}{a k:Nat}{y:TB}(E:a=P.length)(u:A[k]?=some y):(P++A++B++S)[a+k]?=some y:=by have F:=(List.getElem?_eq_some_iff.1 u).1;rw[List.getElem?_append_left (by simp;omega),List.getElem?_append_left (by simp;omega),List.getElem?_append_right (by omega),E,Nat.add_sub_cancel_left,u]
section
variable{gf:Nat}{lt:Broken->Broken->Bool}{ok:Broken->Prop}
set_option maxHeartbeats 8000000 in
theorem uU (hs:SWO lt) (hc:CmpOk gf lt ok):∀(N:Nat) (P A B S:List TB) (a m b j:Nat) (H0:aD) (K:AV->aD->Prop),A.length+B.length<=N->a=P.length->m=a+A.length->b=m+B.length->A≠[]->B≠[] ->
    A.Pairwise (tlt lt)->B.Pairwise (tlt lt)->zM A B->(∀x∈A,ok x.1)->(∀x∈B,ok x.1)->P.length+A.length+B.length+S.length<=1048576->H0 j=some (dO (fs (P++A++B++S))) ->
    (∀M:List TB,M.Perm (A++B)->M.Pairwise (tlt lt)->∀r,K r (aE H0 j (some (dO (fs (P++M++S))))))->aI prog 163 [.os j,int a,int m,int b,rX gf] H0 K
  | 0,P,A,B,S,a,m,b,j,H0,K,hN,_,_,_,hA,_,_,_,_,_,_,_,_,_=>by
    have:=Xbt.2 hA
    omega
  | N+1,P,A,B,S,a,m,b,j,H0,K,hN,ha,hm,hb,hA,hB,sA,sB,rk,okA,okB,hl,hj,hK=>by
    have ih:=uU hs hc N
    have ap:=hc.call
    have ce:=Xbt.2 hA
    have cd:=Xbt.2 hB
    have bk:(fs (P++A++B++S)).length=P.length+A.length+B.length+S.length:=by simp[fs];omega
    refine aI.body (c:=f163.body.getD .skip) (fun _=>false) mixed func163 rfl (by kernel_rfl) ?_
    unfold f163
    simp only[Xag]
    simp only[go_sem]
    simp only[go_sem,yK (show a<=m by omega) (by omega)]
    refine aA (fun h1=>?_) (fun h1=>?_)
    . have h1:m-a=1:=by have:=eq_of_beq h1;omega
      obtain⟨x,rfl⟩:∃x,A=[x]:=List.length_eq_one_iff.1 (by omega)
      simp only[List.length_singleton]at hm hl bk hN
      simp only[go_sem]
      refine⟨fun ρ H=>∃i i':Nat,m<=i/\i<=i'/\i'<=b/\(i=m\/∃y,B[i-1-m]?=some y/\lt y.1 x.1=true)/\(i'=b\/∃y,B[i'-m]?=some y/\lt y.1 x.1=false)/\ρ 0=.os j/\ρ 1=int a/\ρ 4=rX gf/\ρ 10=int i/\ρ 11=int i'/\H=H0,fun ρ _=>aW (ρ 11)-aW (ρ 10),
        ⟨m,b,Xad _,by omega,Xad _,.inl rfl,.inl rfl,by simp only[go_sem],by simp only[go_sem],by simp only[go_sem],by simp only[go_sem],by simp only[go_sem],rfl⟩,?_⟩
      rintro ρ H ⟨i,i',bd,a6,bt,q1,q2,J,e1,e4,af,aq,Z⟩
      have ah:H j=some (dO (fs (P++[x]++B++S))):=Z▸hj
      simp only[go_sem,J,e1,e4,af,aq]
      refine aA (fun L=>?_) (fun ae=>?_)
      . have L:=ltB L
        obtain⟨k,hk⟩:∃k,(i+i')/2=m+k:=⟨(i+i')/2-m,by omega⟩
        obtain⟨y,hy⟩:=bG (l:=B) (k:=k) (by omega)
        obtain⟨n,hn,au⟩:=hc.cmp y.1 x.1 (okB y (Xaf hy)) (okA x (by simp))
        have g1:=aJ (f:=bB) (jK (P5 (S:=S) (show m=P.length+[x].length by simp;omega) hy))
        have g2:=aJ (f:=bB) (jK (Q3 (B:=B) (S:=S) ha (show[x][0]?=some x from rfl)))
        simp only[Nat.add_zero]at g2
        have b1:(0:Int)<=((m+k:Nat):Int)/\((m+k:Nat):Int)<((fs (P++[x]++B++S)).length:Int):=by omega
        have b2:(0:Int)<=((a:Nat):Int)/\((a:Nat):Int)<((fs (P++[x]++B++S)).length:Int):=by omega
        have wh:=AD (i:=i) (k:=i') (by omega)
        rw[hk]at wh
        simp only[go_sem,J,e1,e4,af,aq,wh]
        refine⟨by decide,?_⟩
        refine eN [j] [(0,true),(1,true),(2,true),(3,true),(4,true),(5,true),(6,true),(7,true),(8,true),(9,true),(10,true)] (by simp[ah]) (by kernel_rfl) fun Hp Hr aj a4 a7 bv=>?_
        have Rp:=(aj j (by simp)).trans ah
        simp only[go_sem,J,e1,e4,af,aq,Rp,ap,g1,g2,b1,b2]
        refine⟨by omega,by omega,_,au.q rfl,?_⟩
        simp only[go_sem,J,e1,e4,af,aq,hn]
        refine eK fun _ Hm ax a5=>?_
        obtain rfl:=tD ax a5 a4
        refine aA (fun ak=>?_) (fun ak=>?_)
        . simp only[go_sem,J,e1,e4,aq,nN (show m+k<=4611686018427387904 by omega)]
          exact⟨⟨m+k+1,i',by omega,by omega,by omega,.inr ⟨y,by rw[show m+k+1-1-m=k by omega];exact hy,ak⟩,q2,rfl,rfl,Z⟩,by simp only[aF];omega⟩
        . simp only[go_sem,J,e1,e4,af]
          exact⟨⟨i,m+k,by omega,by omega,by omega,q1,.inr ⟨y,by rw[show m+k-m=k by omega];exact hy,ak⟩,rfl,rfl,Z⟩,by simp only[aF];omega⟩
      . have ae:i=i':=geB a6 ae
        subst ae
        obtain⟨B1,B2,ab,a0,b5⟩:=nI (l:=B) (n:=i-m) (by omega)
        have aw:(B1++x::B2).Pairwise (tlt lt):=by
          refine uR hs (ab▸sB) (fun z hz=>?_) (fun z hz=>?_)
          . rcases q1 with rfl|⟨y,hy,L⟩
            . rw[Nat.sub_self]at a0
              rw[Xat.1 a0]at hz;cases hz
            . have bm : 0 < B1.length := by
                rcases Xbv B1.length with h0|h0
                . rw[Xat.1 h0]at hz;cases hz
                . exact h0
              rw[ab,List.getElem?_append_left (by omega),show i-1-m=B1.length-1 by omega,<-List.getLast?_eq_getElem?,hz]at hy
              have:z=y:=by simpa using hy
              subst this
              exact .inl L
          . rcases q2 with rfl|⟨y,hy,L⟩
            . have:B2=[]:=Xat.1 (by omega)
              rw[this]at hz;cases hz
            . rw[ab,List.getElem?_append_right (by omega),show i-m-B1.length=0 by omega,<-List.head?_eq_getElem?,hz]at hy
              have:z=y:=by simpa using hy
              subst this
              exact .inr ⟨L,rk x (by simp) z (by rw[ab];exact Xbw _ (List.mem_of_mem_head? hz))⟩
        simp only[go_sem,J,e1,af]
        refine⟨fun ρ H=>∃Q R':List TB,B1=Q++R'/\ρ 0=.os j/\ρ 10=int i/\ρ 13=int (a+Q.length:Nat)/\H=aE H0 j (some (dO (fs (P++Q++x::R'++B2++S)))),fun ρ _=>i-aW (ρ 13),
          ⟨[],B1,rfl,by simp only[go_sem,J],by simp only[go_sem,af],by simp only[go_sem,List.length_nil,Nat.add_zero],by
            have:P++[]++x::B1++B2++S=P++[x]++B++S:=by rw[ab];simp
            rw[this,Z];exact(cY hj).symm⟩,?_⟩
        clear J e1 e4 af aq ah Z
        rintro ρ H ⟨Q,R',hQ,J,af,a9,hH⟩
        have bo:Q.length+R'.length=B1.length:=by rw[hQ,Xac]
        have R:H j=some (dO (fs (P++Q++x::R'++B2++S))):=by rw[hH];exact aB _ _ _
        have w0:IntKind.i64.wrap ((i:Int)-1)=((i-1:Nat):Int):=by rw[aV (by omega)];omega
        simp only[go_sem,J,af,a9,w0]
        refine aA (fun L=>?_) (fun ae=>?_)
        . have L:Q.length<B1.length:=by have:=ltB L;omega
          obtain⟨y,F,rfl⟩:∃y F,R'=y::F:=List.exists_cons_of_length_pos (by omega)
          simp only[Xae]at bo
          have az:(fs (P++Q++x::y::F++B2++S))[a+Q.length]?=some x.1:=by
            refine jK ?_
            rw[ha];simp only[Xah];rw[List.getElem?_append_right (by omega),List.getElem?_append_right (by omega)];simp
          have av:(fs (P++Q++x::y::F++B2++S))[a+Q.length+1]?=some y.1:=by
            refine jK ?_
            rw[ha];simp only[Xah];rw[List.getElem?_append_right (by omega),List.getElem?_append_right (by omega)];simp[show P.length+Q.length+1-P.length-Q.length=1 by omega]
          have bs:(fs (P++Q++x::y::F++B2++S)).length=P.length+1+B.length+S.length:=by simp[fs];omega
          have b1:(0:Int)<=((a+Q.length+1:Nat):Int)/\((a+Q.length+1:Nat):Int)<((fs (P++Q++x::y::F++B2++S)).length:Int):=by omega
          have b2:(0:Int)<=((a+Q.length:Nat):Int)/\((a+Q.length:Nat):Int)<((fs (P++Q++x::y::F++B2++S)).length:Int):=by omega
          have g1:=aJ (f:=bB) av
          have g2:=aJ (f:=bB) az
          have w1:=nN (show a+Q.length<=4611686018427387904 by omega)
          simp only[go_sem,J,af,a9,w1]
          refine oF [] (.q 0 (.q 1 (.q 2 (.q 3 (.q 4 (.q 5 (.q 6 (.q 7 (.q 10 (.q 11 (.a2 8 (.a2 9 (.a1 12 (.a1 13 (.a1 14 (.a1 15 (.a1 16 (.a1 17 (.nil))))))) 12 (.a2 9 (.a1 13 (.a1 14 (.a1 15 (.a1 16 (.a1 17 (.nil)))))) 13 (.a1 9 (.a1 14 (.a1 15 (.a1 16 (.a1 17 (.nil)))))))) 12 (.a2 8 (.a2 9 (.a1 13 (.a1 14 (.a1 15 (.a1 16 (.a1 17 (.nil)))))) 13 (.a1 9 (.a1 14 (.a1 15 (.a1 16 (.a1 17 (.nil))))))) 13 (.a1 8 (.a1 9 (.a1 14 (.a1 15 (.a1 16 (.a1 17 (.nil))))))))))))))))))) (by simp) (by kernel_rfl) fun Hp Hr _ hr _ _=>?_
          obtain rfl:Hr=H:=funext fun i=>hr i (by simp)
          simp only[go_sem,J,af,a9,w1,R,b1,b2]
          repeat' (first|(refine fY ?_ ?_)|(refine⟨by omega,?_⟩)|(refine aZ R ⟨by rw[Xaa];omega,bU _,by rw[bU];exact Xad 4⟩ ?_)|(refine aZ (aB _ _ _) ⟨by rw[Xal,Xaa];omega,bU _,by rw[bU];exact Xad 4⟩ ?_)|(refine eK fun _ Hm _ hm=>?_;obtain rfl:Hm=_:=funext fun i=>hm i (by simp))|(simp only[go_sem,J,af,a9,w1,R,b1,b2,g1,g2,Xal,Xaa,iC,Xaq]))
          all_goals refine⟨⟨Q++[y],F,by rw[hQ];simp,?_,(Au az av (by omega) hH).trans ?_⟩,by simp only[aF];omega⟩
          all_goals first
            | (rw[Xac,List.length_singleton,Xbn])
            | (congr 2
               have:=BA (U:=fs (P++Q)) (W:=fs (F++B2++S)) (x:=x.1) (y:=y.1) (i:=a+Q.length) (j:=a+Q.length+1) (by rw[mP,Xac];omega) (by rw[mP,Xac];omega)
               simp only[fs,Xak,Xar,Xay,Xah,Xaw,Xau]at this |-
               exact congrArg dO this)
        . have b0:R'=[]:=Xat.1 (by have h':¬a+Q.length<i-1:=(fun h=>by simp at ae;omega);omega)
          subst b0
          rw[Xaq]at hQ
          simp only[go_sem]
          have:P++Q++[x]++B2++S=P++(B1++x::B2)++S:=by rw[hQ];simp
          rw[hH,this]
          refine hK _ ?_ aw _
          rw[ab]
          exact List.perm_middle
    have h1:¬A.length=1:=fun h=>by
      have:((m-a:Nat):Int)=1:=by omega
      rw[this]at h1;cases h1
    simp only[go_sem,yK (show m<=b by omega) (by omega)]
    refine aA (fun h2=>?_) (fun h2=>?_)
    . have h2:b-m=1:=by have:=eq_of_beq h2;omega
      obtain⟨y,rfl⟩:∃y,B=[y]:=List.length_eq_one_iff.1 (by omega)
      simp only[List.length_singleton]at hb hl bk hN
      simp only[go_sem]
      refine⟨fun ρ H=>∃i i':Nat,a<=i/\i<=i'/\i'<=m/\(i=a\/∃z,A[i-1-a]?=some z/\lt y.1 z.1=false)/\(i'=m\/∃z,A[i'-a]?=some z/\lt y.1 z.1=true)/\ρ 0=.os j/\ρ 2=int m/\ρ 4=rX gf/\ρ 14=int i/\ρ 15=int i'/\H=H0,fun ρ _=>aW (ρ 15)-aW (ρ 14),
        ⟨a,m,Xad _,by omega,Xad _,.inl rfl,.inl rfl,by simp only[go_sem],by simp only[go_sem],by simp only[go_sem],by simp only[go_sem],by simp only[go_sem],rfl⟩,?_⟩
      rintro ρ H ⟨i,i',bd,a6,bt,q1,q2,J,e2,e4,ag,ar,Z⟩
      have ah:H j=some (dO (fs (P++A++[y]++S))):=Z▸hj
      simp only[go_sem,J,e2,e4,ag,ar]
      refine aA (fun L=>?_) (fun ae=>?_)
      . have L:=ltB L
        obtain⟨k,hk⟩:∃k,(i+i')/2=a+k:=⟨(i+i')/2-a,by omega⟩
        obtain⟨z,hz⟩:=bG (l:=A) (k:=k) (by omega)
        obtain⟨n,hn,au⟩:=hc.cmp y.1 z.1 (okB y (by simp)) (okA z (Xaf hz))
        have g1:=aJ (f:=bB) (jK (P5 (A:=A) (S:=S) (show m=P.length+A.length by omega) (show[y][0]?=some y from rfl)))
        simp only[Nat.add_zero]at g1
        have g2:=aJ (f:=bB) (jK (Q3 (B:=[y]) (S:=S) ha hz))
        have b1:(0:Int)<=((m:Nat):Int)/\((m:Nat):Int)<((fs (P++A++[y]++S)).length:Int):=by omega
        have b2:(0:Int)<=((a+k:Nat):Int)/\((a+k:Nat):Int)<((fs (P++A++[y]++S)).length:Int):=by omega
        have wh:=AD (i:=i) (k:=i') (by omega)
        rw[hk]at wh
        simp only[go_sem,J,e2,e4,ag,ar,wh]
        refine⟨by decide,?_⟩
        refine eN [j] [(0,true),(1,true),(2,true),(3,true),(4,true),(5,true),(6,true),(7,true),(8,true),(9,true),(10,true),(11,true)] (by simp[ah]) (by kernel_rfl) fun Hp Hr aj a4 a7 bv=>?_
        have Rp:=(aj j (by simp)).trans ah
        simp only[go_sem,J,e2,e4,ag,ar,Rp,ap,g1,g2,b1,b2]
        refine⟨by omega,by omega,_,au.q rfl,?_⟩
        simp only[go_sem,J,e2,e4,ag,ar,hn]
        refine eK fun _ Hm ax a5=>?_
        obtain rfl:=tD ax a5 a4
        refine aA (fun ak=>?_) (fun ak=>?_)
        . simp only[go_sem,J,e2,e4,ar,nN (show a+k<=4611686018427387904 by omega)]
          exact⟨⟨a+k+1,i',by omega,by omega,by omega,.inr ⟨z,by rw[show a+k+1-1-a=k by omega];exact hz,by simpa using ak⟩,q2,rfl,rfl,Z⟩,by simp only[aF];omega⟩
        . simp only[go_sem,J,e2,e4,ag]
          exact⟨⟨i,a+k,by omega,by omega,by omega,q1,.inr ⟨z,by rw[show a+k-a=k by omega];exact hz,by simpa using ak⟩,rfl,rfl,Z⟩,by simp only[aF];omega⟩
      . have ae:i=i':=geB a6 ae
        subst ae
        obtain⟨A1,A2,aa,a0,b5⟩:=nI (l:=A) (n:=i-a) (by omega)
        have aw:(A1++y::A2).Pairwise (tlt lt):=by
          refine uR hs (aa▸sA) (fun z hz=>?_) (fun z hz=>?_)
          . rcases q1 with rfl|⟨u,hu,L⟩
            . rw[Nat.sub_self]at a0
              rw[Xat.1 a0]at hz;cases hz
            . have bm : 0 < A1.length := by
                rcases Xbv A1.length with h0|h0
                . rw[Xat.1 h0]at hz;cases hz
                . exact h0
              rw[aa,List.getElem?_append_left (by omega),show i-1-a=A1.length-1 by omega,<-List.getLast?_eq_getElem?,hz]at hu
              have:z=u:=by simpa using hu
              subst this
              exact .inr ⟨L,rk z (by rw[aa];exact Xbx _ (List.mem_of_getLast? hz)) y (by simp)⟩
          . rcases q2 with rfl|⟨u,hu,L⟩
            . have:A2=[]:=Xat.1 (by omega)
              rw[this]at hz;cases hz
            . rw[aa,List.getElem?_append_right (by omega),show i-a-A1.length=0 by omega,<-List.head?_eq_getElem?,hz]at hu
              have:z=u:=by simpa using hu
              subst this
              exact .inl L
        simp only[go_sem,J,e2,ag]
        refine⟨fun ρ H=>∃R' Q:List TB,A2=R'++Q/\ρ 0=.os j/\ρ 14=int i/\ρ 17=int (i+R'.length:Nat)/\H=aE H0 j (some (dO (fs (P++A1++R'++y::Q++S)))),fun ρ _=>aW (ρ 17),
          ⟨A2,[],by simp,by simp only[go_sem,J],by simp only[go_sem,ag],by simp only[go_sem,e2];rw[show m=i+A2.length by omega],by
            have:P++A1++A2++[y]++S=P++A++[y]++S:=by rw[aa];simp
            rw[this,Z];exact(cY hj).symm⟩,?_⟩
        clear J e2 e4 ag ar ah Z
        rintro ρ H ⟨R',Q,hQ,J,ag,ba,hH⟩
        have bo:R'.length+Q.length=A2.length:=by rw[hQ,Xac]
        have R:H j=some (dO (fs (P++A1++R'++y::Q++S))):=by rw[hH];exact aB _ _ _
        simp only[go_sem,J,ag,ba]
        rcases List.eq_nil_or_concat R' with rfl|⟨F,z,rfl⟩
        . simp only[List.length_nil,Nat.add_zero]at ba
          refine aA (fun L=>by simp at L) (fun ae=>?_)
          rw[Xau]at hQ
          simp only[go_sem]
          have:P++A1++[]++y::Q++S=P++(A1++y::A2)++S:=by rw[hQ];simp
          rw[hH,this]
          refine hK _ ?_ aw _
          rw[aa]
          refine List.perm_middle.trans ?_
          exact(List.perm_append_singleton y _).symm
        . rw[List.concat_eq_append]at *
          simp only[Xac,List.length_singleton]at bo ba
          refine aA (fun L=>?_) (fun ae=>by simp at ae;omega)
          have az:(fs (P++A1++(F++[z])++y::Q++S))[i+F.length+1]?=some y.1:=by
            refine jK ?_
            rw[show i+F.length+1=P.length+(A1.length+(F.length+1))by omega]
            simp only[Xah];rw[List.getElem?_append_right (by omega),List.getElem?_append_right (by omega),List.getElem?_append_right (by omega)];simp
          have av:(fs (P++A1++(F++[z])++y::Q++S))[i+F.length]?=some z.1:=by
            refine jK ?_
            rw[show i+F.length=P.length+(A1.length+F.length)by omega]
            simp only[Xah];rw[List.getElem?_append_right (by omega),List.getElem?_append_right (by omega),List.getElem?_append_right (by omega)];simp
          have bs:(fs (P++A1++(F++[z])++y::Q++S)).length=P.length+A.length+1+S.length:=by simp[fs];omega
          have b1:(0:Int)<=((i+F.length+1:Nat):Int)/\((i+F.length+1:Nat):Int)<((fs (P++A1++(F++[z])++y::Q++S)).length:Int):=by omega
          have b2:(0:Int)<=((i+F.length:Nat):Int)/\((i+F.length:Nat):Int)<((fs (P++A1++(F++[z])++y::Q++S)).length:Int):=by omega
          have g1:=aJ (f:=bB) az
          have g2:=aJ (f:=bB) av
          have ay:ρ 17=int ((i+F.length+1:Nat):Int):=ba
          have w1:IntKind.i64.wrap (((i+F.length+1:Nat):Int)-1)=((i+F.length:Nat):Int):=by rw[aV (by omega)];omega
          simp only[go_sem,J,ag,ay,w1]
          refine oF [] (.q 0 (.q 1 (.q 2 (.q 3 (.q 4 (.q 5 (.q 6 (.q 7 (.q 10 (.q 11 (.a2 8 (.a2 9 (.a1 12 (.a1 13 (.a1 14 (.a1 15 (.a1 16 (.a1 17 (.nil))))))) 12 (.a2 9 (.a1 13 (.a1 14 (.a1 15 (.a1 16 (.a1 17 (.nil)))))) 13 (.a1 9 (.a1 14 (.a1 15 (.a1 16 (.a1 17 (.nil)))))))) 12 (.a2 8 (.a2 9 (.a1 13 (.a1 14 (.a1 15 (.a1 16 (.a1 17 (.nil)))))) 13 (.a1 9 (.a1 14 (.a1 15 (.a1 16 (.a1 17 (.nil))))))) 13 (.a1 8 (.a1 9 (.a1 14 (.a1 15 (.a1 16 (.a1 17 (.nil))))))))))))))))))) (by simp) (by kernel_rfl) fun Hp Hr _ hr _ _=>?_
          obtain rfl:Hr=H:=funext fun i=>hr i (by simp)
          simp only[go_sem,J,ag,ay,w1,R,b1,b2]
          repeat' (first|(refine fY ?_ ?_)|(refine⟨by omega,?_⟩)|(refine aZ R ⟨by rw[Xaa];omega,bU _,by rw[bU];exact Xad 4⟩ ?_)|(refine aZ (aB _ _ _) ⟨by rw[Xal,Xaa];omega,bU _,by rw[bU];exact Xad 4⟩ ?_)|(refine eK fun _ Hm _ hm=>?_;obtain rfl:Hm=_:=funext fun i=>hm i (by simp))|(simp only[go_sem,J,ag,ay,w1,R,b1,b2,g1,g2,Xal,Xaa,iC,Xaq]))
          all_goals refine⟨⟨F,z::Q,by rw[hQ];simp,rfl,(Au az av (by omega) hH).trans ?_⟩,by simp only[aF,Xac,List.length_singleton];omega⟩
          all_goals congr 2
          all_goals rw[Iw _ _ _ (by omega)]
          all_goals have:=BA (U:=fs (P++A1++F)) (W:=fs (Q++S)) (x:=z.1) (y:=y.1) (i:=i+F.length) (j:=i+F.length+1) (by rw[mP,Xac,Xac];omega) (by rw[mP,Xac,Xac];omega)
          all_goals simp only[fs,Xak,Xar,Xay,Xah,Xaw,Xau]at this |-
          all_goals exact congrArg dO this
    have h2:¬B.length=1:=fun h=>by
      have:((b-m:Nat):Int)=1:=by omega
      rw[this]at h2;cases h2
    have bj:=AD (i:=a) (k:=b) (by omega)
    obtain⟨E,hmid⟩:∃E,(a+b)/2=E:=⟨_,rfl⟩
    rw[hmid]at bj
    simp only[go_sem,bj]
    refine⟨by decide,?_⟩
    simp only[go_sem,N0 (show E+m<=4611686018427387904 by omega)]
    -- where the search begins and ends
    obtain⟨s0,hs0⟩:∃s0,s0=if E<m then E+m-b else a:=⟨_,rfl⟩
    obtain⟨r0,hr0⟩:∃r0,r0=if E<m then E else m:=⟨_,rfl⟩
    refine gC (fun ρ H=>ρ 0=.os j/\ρ 1=int a/\ρ 2=int m/\ρ 3=int b/\ρ 4=rX gf/\ρ 18=int E/\ρ 19=int (E+m:Nat)/\ρ 20=int s0/\ρ 21=int r0/\H=H0) ?_ fun K' am=>aA (fun h=>?_) (fun h=>?_)
    rotate_left
    . have h:E<m:=ltB h
      rw[if_pos h]at hs0 hr0
      simp only[go_sem,yK (show b<=E+m by omega) (by omega)]
      exact am _ _ ⟨by simp only[go_sem],by simp only[go_sem],by simp only[go_sem],by simp only[go_sem],by simp only[go_sem],by simp only[go_sem],by simp only[go_sem],by simp only[go_sem,hs0],by simp only[go_sem,hr0],rfl⟩
    . have h:¬E<m:=by simpa using h
      rw[if_neg h]at hs0 hr0
      simp only[go_sem]
      exact am _ _ ⟨by simp only[go_sem],by simp only[go_sem],by simp only[go_sem],by simp only[go_sem],by simp only[go_sem],by simp only[go_sem],by simp only[go_sem],by simp only[go_sem,hs0],by simp only[go_sem,hr0],rfl⟩
    rintro ρ H ⟨J,e1,e2,e3,e4,O,ai,ac,al,Z⟩
    have b6:s0<=r0/\a<=s0/\r0<=m/\r0<=E:=by rw[hs0,hr0];split <;> omega
    simp only[go_sem,J,e1,e2,e3,e4,O,ai,ac,al]
    have wp:IntKind.i64.wrap (((E+m:Nat):Int)-1)=((E+m-1:Nat):Int):=by rw[aV (by omega)];omega
    simp only[go_sem,wp]
    refine⟨fun ρ H=>∃st r:Nat,s0<=st/\st<=r/\r<=r0/\(st=s0\/∃z y,A[st-1-a]?=some z/\B[E+m-st-m]?=some y/\lt y.1 z.1=false)/\(r=r0\/∃z y,A[r-a]?=some z/\B[E+m-1-r-m]?=some y/\lt y.1 z.1=true)/\ρ 0=.os j/\ρ 1=int a/\ρ 2=int m/\ρ 3=int b/\ρ 4=rX gf/\ρ 18=int E/\ρ 19=int (E+m:Nat)/\ρ 22=int (E+m-1:Nat)/\ρ 20=int st/\ρ 21=int r/\H=H0,fun ρ _=>aW (ρ 21)-aW (ρ 20),
      ⟨s0,r0,Xad _,b6.1,Xad _,.inl rfl,.inl rfl,by simp only[go_sem,J],by simp only[go_sem,e1],by simp only[go_sem,e2],by simp only[go_sem,e3],by simp only[go_sem,e4],by simp only[go_sem,O],by simp only[go_sem,ai],by simp only[go_sem],by simp only[go_sem,ac],by simp only[go_sem,al],Z⟩,?_⟩
    clear J e1 e2 e3 e4 O ai ac al Z
    rintro ρ H ⟨st,r,bd,a6,bt,q1,q2,J,e1,e2,e3,e4,O,ai,an,ac,al,Z⟩
    have ah:H j=some (dO (fs (P++A++B++S))):=Z▸hj
    simp only[go_sem,J,e1,e2,e3,e4,O,ai,an,ac,al]
    refine aA (fun L=>?_) (fun ae=>?_)
    . have L:=ltB L
      obtain⟨c,hc0⟩:∃c,(st+r)/2=c:=⟨_,rfl⟩
      have wh:=AD (i:=st) (k:=r) (by omega)
      rw[hc0]at wh
      have bp:s0<=c/\c<r0/\st<=c/\c<r:=by omega
      have cc:m<=E+m-1-c/\E+m-1-c<b:=by
        rw[hs0,hr0]at bp
        split at bp <;> omega
      obtain⟨z,hz⟩:=bG (l:=A) (k:=c-a) (by omega)
      obtain⟨y,hy⟩:=bG (l:=B) (k:=E+m-1-c-m) (by omega)
      obtain⟨n,hn,au⟩:=hc.cmp y.1 z.1 (okB y (Xaf hy)) (okA z (Xaf hz))
      have g1:=aJ (f:=bB) (jK (P5 (A:=A) (S:=S) (show m=P.length+A.length by omega) hy))
      have g2:=aJ (f:=bB) (jK (Q3 (B:=B) (S:=S) ha hz))
      rw[show m+(E+m-1-c-m)=E+m-1-c by omega]at g1
      rw[show a+(c-a)=c by omega]at g2
      have b1:(0:Int)<=((E+m-1-c:Nat):Int)/\((E+m-1-c:Nat):Int)<((fs (P++A++B++S)).length:Int):=by omega
      have b2:(0:Int)<=((c:Nat):Int)/\((c:Nat):Int)<((fs (P++A++B++S)).length:Int):=by omega
      have b3:=yK (a:=E+m-1) (b:=c) (by omega) (by omega)
      simp only[go_sem,J,e1,e2,e3,e4,O,ai,an,ac,al,wh]
      refine⟨by decide,?_⟩
      refine eN [j] [(0,true),(1,true),(2,true),(3,true),(4,true),(5,true),(6,true),(7,true),(8,true),(9,true),(10,true),(11,true),(12,true),(13,true)] (by simp[ah]) (by kernel_rfl) fun Hp Hr aj a4 a7 bv=>?_
      have Rp:=(aj j (by simp)).trans ah
      simp only[go_sem,J,e1,e2,e3,e4,O,ai,an,ac,al,Rp,ap,b3,g1,g2,b1,b2]
      refine⟨by omega,by omega,_,au.q rfl,?_⟩
      simp only[go_sem,J,e1,e2,e3,e4,O,ai,an,ac,al,hn]
      refine eK fun _ Hm ax a5=>?_
      obtain rfl:=tD ax a5 a4
      refine aA (fun ak=>?_) (fun ak=>?_)
      . simp only[go_sem,J,e1,e2,e3,e4,O,ai,an,al,aY c]
        exact⟨⟨c+1,r,by omega,by omega,by omega,.inr ⟨z,y,by rw[show c+1-1-a=c-a by omega];exact hz,by rw[show E+m-(c+1)-m=E+m-1-c-m by omega];exact hy,by simpa using ak⟩,q2,rfl,rfl,Z⟩,by simp only[aF];omega⟩
      . simp only[go_sem,J,e1,e2,e3,e4,O,ai,an,ac]
        exact⟨⟨st,c,by omega,by omega,by omega,q1,.inr ⟨z,y,hz,hy,by simpa using ak⟩,rfl,rfl,Z⟩,by simp only[aF];omega⟩
    have ae:st=r:=geB a6 ae
    subst ae
    obtain⟨A1,A2,aa,bh,bi⟩:=nI (l:=A) (n:=st-a) (by omega)
    have b7:E-st<=B.length:=by rw[hs0]at bd;split at bd <;> omega
    obtain⟨B1,B2,ab,be,bg⟩:=nI b7
    have ca:E+m-st=m+B1.length:=by omega
    -- the cuts fit
    have f1:∀x y:TB,A1.getLast?=some x->B2.head?=some y->tlt lt x y:=by
      intro x y hx hy
      rcases q1 with h0|⟨z,w,hz,hw,L⟩
      . rw[hs0]at h0
        split at h0
        . have:B2=[]:=Xat.1 (by omega)
          rw[this]at hy;cases hy
        . have:A1=[]:=Xat.1 (by omega)
          rw[this]at hx;cases hx
      . have bm : 0 < A1.length := by
          rcases Xbv A1.length with h0|h0
          . rw[Xat.1 h0]at hx;cases hx
          . exact h0
        rw[aa,List.getElem?_append_left (by omega),show st-1-a=A1.length-1 by omega,<-List.getLast?_eq_getElem?,hx]at hz
        rw[ab,List.getElem?_append_right (by omega),show E+m-st-m-B1.length=0 by omega,<-List.head?_eq_getElem?,hy]at hw
        have e1:x=z:=by simpa using hz
        have e2:y=w:=by simpa using hw
        subst e1;subst e2
        exact .inr ⟨L,rk x (by rw[aa];exact Xbx _ (List.mem_of_getLast? hx)) y (by rw[ab];exact Xbw _ (List.mem_of_mem_head? hy))⟩
    have f2:∀x y:TB,B1.getLast?=some x->A2.head?=some y->tlt lt x y:=by
      intro x y hx hy
      rcases q2 with h0|⟨z,w,hz,hw,L⟩
      . rw[hr0]at h0
        split at h0
        . have:B1=[]:=Xat.1 (by omega)
          rw[this]at hx;cases hx
        . have:A2=[]:=Xat.1 (by omega)
          rw[this]at hy;cases hy
      . have bm : 0 < B1.length := by
          rcases Xbv B1.length with h0|h0
          . rw[Xat.1 h0]at hx;cases hx
          . exact h0
        rw[aa,List.getElem?_append_right (by omega),show st-a-A1.length=0 by omega,<-List.head?_eq_getElem?,hy]at hz
        rw[ab,List.getElem?_append_left (by omega),show E+m-1-st-m=B1.length-1 by omega,<-List.getLast?_eq_getElem?,hx]at hw
        have e1:y=z:=by simpa using hz
        have e2:x=w:=by simpa using hw
        subst e1;subst e2
        exact .inl L
    have a8:=List.pairwise_append.1 (aa▸sA)
    have bb:=List.pairwise_append.1 (ab▸sB)
    have bq:=yK (a:=E+m) (b:=st) (by omega) (by omega)
    simp only[go_sem,J,e1,e2,e3,e4,O,ai,an,ac,bq]
    refine gC (fun ρ H=>ρ 0=.os j/\ρ 1=int a/\ρ 2=int m/\ρ 3=int b/\ρ 4=rX gf/\ρ 18=int E/\ρ 20=int st/\ρ 24=int (E+m-st:Nat)/\H=aE H0 j (some (dO (fs (P++A1++B1++A2++B2++S))))) ?_ fun K' am=>aA (fun h=>?_) (fun h=>?_)
    rotate_left
    . have h:st<m/\m<E+m-st:=by simp at h;omega
      have bf:fs (P++A++B++S)=fs (P++A1)++fs A2++fs B1++fs (B2++S):=by rw[aa,ab];simp only[fs,Xak,Xah]
      simp only[go_sem,J,e2,e4,ac]
      refine PT (fs (P++A1)) (fs A2) (fs B1) (fs (B2++S)) st m (E+m-st) j gf _ _ (by rw[mP,Xac];omega) (by rw[mP];omega) (by rw[mP];omega) (fun e=>by have:=mP A2;rw[e]at this;simp at this;omega) (fun e=>by have:=mP B1;rw[e]at this;simp at this;omega) (by rw[<-bf,bk];exact hl) (by rw[ah,bf]) fun rr=>?_
      simp only[go_sem]
      refine am _ _ ⟨by simp only[go_sem,J],by simp only[go_sem,e1],by simp only[go_sem,e2],by simp only[go_sem,e3],by simp only[go_sem,e4],by simp only[go_sem,O],by simp only[go_sem,ac],by simp only[go_sem],?_⟩
      rw[Z]
      congr 3
      simp only[fs,Xak,Xah]
    . have h:¬(st<m/\m<E+m-st):=by simp at h;omega
      simp only[go_sem]
      refine am _ _ ⟨by simp only[go_sem,J],by simp only[go_sem,e1],by simp only[go_sem,e2],by simp only[go_sem,e3],by simp only[go_sem,e4],by simp only[go_sem,O],by simp only[go_sem,ac],by simp only[go_sem],?_⟩
      have hz:A2=[]\/B1=[]:=by
        by_cases br:st<m
        . exact .inr (Xat.1 (by omega))
        . exact .inl (Xat.1 (by omega))
      have:P++A1++B1++A2++B2++S=P++A++B++S:=by
        rw[aa,ab]
        rcases hz with rfl|rfl <;> simp
      rw[this,Z];exact(cY hj).symm
    clear J e1 e2 e3 e4 O ai an ac al Z ah
    rintro ρ H ⟨J,e1,e2,e3,e4,O,ac,ao,hH⟩
    have bz:∀x∈A1,ok x.1:=fun x hx=>okA x (by rw[aa];exact Xbx _ hx)
    have bw:∀x∈A2,ok x.1:=fun x hx=>okA x (by rw[aa];exact Xbw _ hx)
    have bx:∀x∈B1,ok x.1:=fun x hx=>okB x (by rw[ab];exact Xbx _ hx)
    have bu:∀x∈B2,ok x.1:=fun x hx=>okB x (by rw[ab];exact Xbw _ hx)
    have b4:zM A1 B1:=fun x hx y hy=>rk x (by rw[aa];exact Xbx _ hx) y (by rw[ab];exact Xbx _ hy)
    have b8:zM A2 B2:=fun x hx y hy=>rk x (by rw[aa];exact Xbw _ hx) y (by rw[ab];exact Xbw _ hy)
    have cf:A1.length+B1.length=E-a/\A2.length+B2.length=b-E/\a<E/\E<b:=by omega
    simp only[go_sem,J,e1,e2,e3,e4,O,ac,ao]
    refine gC (fun ρ H=>ρ 0=.os j/\ρ 3=int b/\ρ 4=rX gf/\ρ 18=int E/\ρ 24=int (E+m-st:Nat)/\∃M1:List TB,M1.Perm (A1++B1)/\M1.Pairwise (tlt lt)/\H=aE H0 j (some (dO (fs (P++M1++A2++B2++S))))) ?_ fun K' am=>aA (fun h=>?_) (fun h=>?_)
    rotate_left
    . have h:a<st/\st<E:=by simp at h;omega
      simp only[go_sem,J,e1,e4,O,ac]
      refine ih P A1 B1 (A2++B2++S) a st E j H _ (by omega) ha (by omega) (by omega) (fun e=>by rw[e]at bh;simp at bh;omega) (fun e=>by rw[e]at be;simp at be;omega) a8.1 bb.1 b4 bz bx (by simp only[Xac];omega) (by rw[hH,aB];simp only[Xah]) fun M1 aj bc rr=>?_
      simp only[go_sem]
      refine am _ _ ⟨by simp only[go_sem,J],by simp only[go_sem,e3],by simp only[go_sem,e4],by simp only[go_sem,O],by simp only[go_sem,ao],M1,aj,bc,?_⟩
      rw[hH,cK];simp only[Xah]
    . have h:¬(a<st/\st<E):=by simp at h;omega
      simp only[go_sem]
      refine am _ _ ⟨by simp only[go_sem,J],by simp only[go_sem,e3],by simp only[go_sem,e4],by simp only[go_sem,O],by simp only[go_sem,ao],A1++B1,.refl _,?_,?_⟩
      . by_cases br:a<st
        . rw[Xat.1 (show B1.length=0 by omega),Xaq];exact a8.1
        . rw[Xat.1 (show A1.length=0 by omega),Xau];exact bb.1
      . rw[hH];simp only[Xah]
    clear J e1 e2 e3 e4 O ac ao hH
    rintro ρ H ⟨J,e3,e4,O,ao,M1,aj,bc,hH⟩
    have b9:M1.length=E-a:=by rw[aj.length_eq,Xac];omega
    simp only[go_sem,J,e3,e4,O,ao]
    refine aA (fun h=>?_) (fun h=>?_)
    . have h:E<E+m-st/\E+m-st<b:=by simp at h;omega
      simp only[go_sem,J,e3,e4,O,ao]
      refine ih (P++M1) A2 B2 S E (E+m-st) b j H _ (by omega) (by rw[Xac];omega) (by omega) (by omega) (fun e=>by rw[e]at bi;simp at bi;omega) (fun e=>by rw[e]at bg;simp at bg;omega) a8.2.1 bb.2.1 b8 bw bu (by simp only[Xac];omega) (by rw[hH,aB]) fun M2 a7 bn rr=>?_
      simp only[go_sem]
      obtain⟨r1,r2⟩:=xD hs (aa▸sA) (ab▸sB) f1 f2 aj a7 bc bn
      have:P++M1++M2++S=P++(M1++M2)++S:=by simp only[Xah]
      rw[hH,cK,this]
      exact hK _ (by rw[aa,ab];exact r2) r1 _
    . have h:¬(E<E+m-st/\E+m-st<b):=by simp at h;omega
      simp only[go_sem]
      have bn:(A2++B2).Pairwise (tlt lt):=by
        by_cases br:E<E+m-st
        . rw[Xat.1 (show B2.length=0 by omega),Xaq];exact a8.2.1
        . rw[Xat.1 (show A2.length=0 by omega),Xau];exact bb.2.1
      obtain⟨r1,r2⟩:=xD hs (aa▸sA) (ab▸sB) f1 f2 aj (.refl (A2++B2)) bc bn
      have:P++M1++A2++B2++S=P++(M1++(A2++B2))++S:=by simp only[Xah]
      rw[hH,this]
      exact hK _ (by rw[aa,ab];exact r2) r1 _
end
end Nu
namespace Nu
open Go.Proofs.Tryz
open Go.Nu Go.So
def UK{α:Type}(l:List α):(tag l).Pairwise fun p q=>p.2<q.2:=by rw[List.pairwise_iff_getElem];intro i k hi E u;rw[vW (List.getElem?_eq_getElem hi),vW (List.getElem?_eq_getElem E)];exact u
def iR{α:Type}(D:List (List α))(A:List α):(D++[A]).flatten=D.flatten++A:=by simp
section
variable{gf:Nat}{lt:Broken->Broken->Bool}{ok:Broken->Prop}
set_option maxHeartbeats 4000000 in
theorem QF (hs:SWO lt) (hc:CmpOk gf lt ok) (l:List Broken) (j:Nat) (H0:aD) (K:AV->aD->Prop) (hl:l.length<=1048576) (a7:∀x∈l,ok x) (hj:H0 j=some (dO l))
    (hK:∀r,K r (aE H0 j (some (dO (zT lt l))))):aI prog 93 [.os j,int l.length,rX gf] H0 K:=by
  have ak:∀x∈tag l,ok x.1:=fun x E=>a7 x.1 (by
    have:=List.mem_map_of_mem (f:=Prod.fst) E
    rwa [Ft]at this)
  have ao:=SA l
  refine aI.body (c:=f93.body.getD .skip) (fun _=>false) mixed func93 rfl (by kernel_rfl) ?_
  unfold f93
  simp only[Xag]
  simp only[go_sem]
  refine⟨fun ρ H=>∃(D:List (List TB)) (P0 X:List TB),P0++X=tag l/\D.flatten.Perm P0/\So.Good lt D/\(∀A∈D,A.length=20)/\ρ 0=.os j/\ρ 1=int l.length/\ρ 2=rX gf/\ρ 6=int 20/\ρ 7=int P0.length/\ρ 8=int (P0.length+20:Nat)/\H=aE H0 j (some (dO (fs (D.flatten++X)))),fun ρ _=>l.length+1-aW (ρ 7),
    ⟨[],[],tag l,rfl,.refl _,⟨by simp,List.Pairwise.nil⟩,by simp,by simp only[go_sem],by simp only[go_sem],by simp only[go_sem],by simp only[go_sem],by simp only[go_sem];rfl,by simp only[go_sem];rfl,by
      have:fs (([]:List (List TB)).flatten++tag l)=l:=Ft l
      rw[this];exact(cY hj).symm⟩,?_⟩
  rintro ρ H ⟨D,P0,X,ab,hD,hG,aq,L,Z,e2,O,e7,e8,hH⟩
  have bb:P0.length+X.length=l.length:=by rw[<-ao,<-ab,Xac]
  have av:D.flatten.length=P0.length:=hD.length_eq
  have R:H j=some (dO (fs (D.flatten++X))):=by rw[hH];exact aB _ _ _
  have ax:X.Pairwise fun p q=>p.2<q.2:=(List.pairwise_append.1 (ab▸UK l)).2.1
  have al:∀x∈X,ok x.1:=fun x E=>ak x (by rw[<-ab];exact Xbw _ E)
  have az:∀M X':List TB,M.Perm X'->(∀x∈X',x∈X)->∀B∈D,zM B M:=fun M X' hM ba B hB x E y hy=>
    NX ab x (hD.mem_iff.1 (List.mem_flatten.2 ⟨B,hB,E⟩)) y (ba y (hM.mem_iff.1 hy))
  simp only[go_sem,L,Z,e2,O,e7,e8]
  refine aA (fun ai=>?_) (fun a6=>?_)
  . have ai:P0.length+20<=l.length:=by simp at ai;omega
    obtain⟨X1,X2,hX,an,bf⟩:=nI (l:=X) (n:=20) (by omega)
    simp only[go_sem,L,Z,e2,O,e7,e8]
    refine yY hs hc D.flatten X1 X2 P0.length (P0.length+20) j H _ av.symm (by omega) ((List.pairwise_append.1 (hX▸ax)).1) (fun x E=>al x (by rw[hX];exact Xbx _ E)) (by simp only[Xac];omega) (by rw[R,hX,Xah]) fun M hp hM r=>?_
    have a5:M.length=20:=by rw[hp.length_eq,an]
    have a9:IntKind.i64.wrap (((P0.length+20:Nat):Int)+20)=((P0.length+20+20:Nat):Int):=by rw[aV (by omega)];omega
    simp only[go_sem,L,Z,e2,O,e7,e8,a9]
    refine⟨⟨D++[M],P0++X1,X2,by rw[<-ab,hX,Xah],?_,D9 hG hM (az M X1 hp fun x E=>by rw[hX];exact Xbx _ E),?_,?_,?_,?_⟩,?_⟩
    . rw[iR];exact hD.append hp
    . intro A hA
      rcases Xbj.1 hA with hA|hA
      . exact aq A hA
      . rw[Xap.1 hA];exact a5
    . rw[Xac,an]
    . rw[Xac,an]
    . rw[hH,cK,iR]
    . simp only[aF];omega
  . have a6:l.length<P0.length+20:=by simp at a6;omega
    simp only[go_sem,L,Z,e2,O,e7,e8]
    refine yY hs hc D.flatten X [] P0.length l.length j H _ av.symm (by omega) ax al (by simp only[Xac,List.length_nil];omega) (by rw[R,Xaq]) fun M hp hM r=>?_
    have a5:M.length=X.length:=hp.length_eq
    rw[Xaq,hH,cK]
    clear R hH
    simp only[go_sem,L,Z,e2,O]
    refine⟨fun ρ H=>∃(u:Nat) (R:List (List TB)),20<=u/\u<=4194304/\So.Good lt R/\So.nU u R/\R.flatten.Perm (tag l)/\ρ 0=.os j/\ρ 1=int l.length/\ρ 2=rX gf/\ρ 6=int u/\H=aE H0 j (some (dO (fs R.flatten))),fun ρ _=>l.length-aW (ρ 6),
      ⟨20,if X=[]then D else D++[M],Xad _,by decide,?_,?_,?_,by simp only[go_sem,L],by simp only[go_sem,Z],by simp only[go_sem,e2],by simp only[go_sem,O];rfl,?_⟩,?_⟩
    . split
      . exact hG
      . exact D9 hG hM (az M X hp fun x E=>E)
    . split
      . have:=tY aq (by decide) (show So.nU 20 ([]:List (List TB))from trivial)
        rwa [Xaq]at this
      . next E=>
        have:=Xbt.2 E
        exact tY aq (by decide) (show So.nU 20 [M]from⟨by omega,by omega⟩)
    . split
      . next E=>rw[E,Xaq]at ab;rw[<-ab];exact hD
      . rw[iR,<-ab];exact hD.append hp
    . split
      . next E=>subst E;rw[List.perm_nil.1 hp,Xaq]
      . rw[iR]
    clear L Z e2 O e7 e8
    rintro ρ H ⟨u,R,bg,be,aa,af,J,L,Z,e2,O,hH⟩
    have aw:R.flatten.length=l.length:=by rw[J.length_eq,ao]
    simp only[go_sem,L,Z,e2,O]
    refine aA (fun au=>?_) (fun am=>?_)
    . have au:=ltB au
      have wd:IntKind.i64.wrap (2*(u:Int))=((2*u:Nat):Int):=by rw[aV (by omega)];omega
      simp only[go_sem,L,Z,e2,O,wd]
      refine⟨fun ρ H=>∃(D R:List (List TB)),So.Good lt (D++R)/\(∀A∈D,A.length=2*u)/\So.nU u R/\(D.flatten++R.flatten).Perm (tag l)/\ρ 0=.os j/\ρ 1=int l.length/\ρ 2=rX gf/\ρ 6=int u/\ρ 7=int D.flatten.length/\ρ 8=int (D.flatten.length+2*u:Nat)/\H=aE H0 j (some (dO (fs (D.flatten++R.flatten)))),fun ρ _=>l.length+1-aW (ρ 7),
        ⟨[],R,by simpa using aa,by simp,af,by simpa using J,by simp only[go_sem,L],by simp only[go_sem,Z],by simp only[go_sem,e2],by simp only[go_sem,O],by simp only[go_sem];rfl,by simp only[go_sem];simp,by rw[hH];rfl⟩,?_⟩
      clear L Z e2 O hH aa af J aw R
      rintro ρ H ⟨D',R,aa,ar,af,J,L,Z,e2,O,e7,e8,hH⟩
      have aw:D'.flatten.length+R.flatten.length=l.length:=by rw[<-ao,<-J.length_eq,Xac]
      have ag:∀A∈R,∀x∈A,ok x.1:=fun A hA x E=>ak x (J.mem_iff.1 (Xbw _ (List.mem_flatten.2 ⟨A,hA,E⟩)))
      simp only[go_sem,L,Z,e2,O,e7,e8]
      refine aA (fun ai=>?_) (fun a0=>?_)
      . have ai:D'.flatten.length+2*u<=l.length:=by have:=of_decide_eq_true ai;omega
        obtain⟨A,B,r,F,hA,hB,hr⟩:=Ol (by omega) af (by omega)
        obtain⟨g1,g2,g3⟩:=Br (F▸aa)
        have ae:R.flatten=A++(B++r.flatten):=by rw[F];simp
        have ay:R.flatten.length=A.length+B.length+r.flatten.length:=by rw[ae,Xac,Xac];omega
        have w1:=N0 (a:=D'.flatten.length) (b:=u) (by omega)
        simp only[go_sem,L,Z,e2,O,e7,e8,w1]
        refine uU hs hc (A.length+B.length) D'.flatten A B r.flatten D'.flatten.length (D'.flatten.length+u) (D'.flatten.length+2*u) j H _ (Xad _) rfl (by omega) (by omega) (fun e=>by rw[e]at hA;simp at hA;omega) (fun e=>by rw[e]at hB;simp at hB;omega) g2 g3 g1 (fun x E=>ag A (by rw[F];simp) x E) (fun x E=>ag B (by rw[F];simp) x E) (by omega) (by rw[hH,aB,ae];simp only[Xah]) fun M2 ac ap rr=>?_
        have aj:M2.length=2*u:=by rw[ac.length_eq,Xac];omega
        have w2:=N0 (a:=D'.flatten.length+2*u) (b:=2*u) (by omega)
        simp only[go_sem,L,Z,e2,O,e7,e8,wd,w2]
        refine⟨⟨D'++[M2],r,?_,?_,hr,?_,?_,?_,?_⟩,?_⟩
        . have:=AY (F▸aa) ac ap
          simpa using this
        . intro A' ah
          rcases Xbj.1 ah with ah|ah
          . exact ar A' ah
          . rw[Xap.1 ah];exact aj
        . refine List.Perm.trans ?_ J
          rw[iR,ae,Xah]
          refine List.Perm.append_left _ ?_
          rw[<-Xah]
          exact ac.append_right _
        . rw[iR,Xac,aj]
        . rw[iR,Xac,aj]
        . rw[hH,cK,iR]
        . simp only[aF];omega
      . have a0:l.length<D'.flatten.length+2*u:=by have:=of_decide_eq_false a0;omega
        have w1:=N0 (a:=D'.flatten.length) (b:=u) (by omega)
        have w3:IntKind.i64.wrap ((u:Int)*2)=((2*u:Nat):Int):=by rw[aV (by omega)];omega
        simp only[go_sem,L,Z,e2,O,e7,e8,w1]
        refine aA (fun hm=>?_) (fun hm=>?_)
        . have hm:=ltB hm
          obtain⟨A,B,F,hA,a4,bd⟩:=Kr af (by omega) (by omega)
          obtain⟨g1,g2,g3⟩:=Br (F▸aa)
          have ae:R.flatten=A++B:=by rw[F];simp
          have ay:R.flatten.length=A.length+B.length:=by rw[ae,Xac]
          simp only[go_sem,L,Z,e2,O,e7,e8]
          refine uU hs hc (A.length+B.length) D'.flatten A B [] D'.flatten.length (D'.flatten.length+u) l.length j H _ (Xad _) rfl (by omega) (by omega) (fun e=>by rw[e]at hA;simp at hA;omega) (fun e=>by rw[e]at a4;simp at a4) g2 g3 g1 (fun x E=>ag A (by rw[F];simp) x E) (fun x E=>ag B (by rw[F];simp) x E) (by simp only[List.length_nil];omega) (by rw[hH,aB,ae];simp only[Xah,Xaq]) fun M2 ac ap rr=>?_
          have aj:M2.length=A.length+B.length:=by rw[ac.length_eq,Xac]
          simp only[go_sem,L,Z,e2,O,w3]
          refine⟨⟨2*u,D'++[M2],by omega,by omega,?_,tY ar (by omega) ⟨by omega,by omega⟩,?_,rfl,?_⟩,?_⟩
          . have:=AY (F▸aa) ac ap
            exact this
          . refine List.Perm.trans ?_ J
            rw[iR,ae]
            exact List.Perm.append_left _ ac
          . rw[hH,cK,iR]
          . simp only[aF];omega
        . have hm:l.length<=D'.flatten.length+u:=by have:=of_decide_eq_false hm;omega
          simp only[go_sem,L,Z,e2,O,w3]
          refine⟨⟨2*u,D'++R,by omega,by omega,aa,tY ar (by omega) ?_,by rw[List.flatten_append];exact J,rfl,by rw[hH,List.flatten_append]⟩,?_⟩
          . rcases Dr (by omega) af (by omega)with rfl|⟨A,rfl,a8,bc⟩
            . trivial
            . exact⟨a8,by omega⟩
          . simp only[aF];omega
    . have am:l.length<=u:=by simp at am;omega
      simp only[go_sem]
      rw[hH]
      have:=NR hs J (QD aa (by omega) af (by omega))
      unfold fs
      rw[this]
      exact hK _
def FW(F:SWO lt)(L:CmpOk gf lt ok)(l:List Broken)(j:Nat)(H0:aD)(K:AV->aD->Prop)(M:l.length<=1048576)(u:∀x∈l,ok x)(E:H0 j=some (dO l))
  (J:∀r,K r (aE H0 j (some (dO (zT lt l))))):aI prog 41 [.os j,rX gf] H0 K:=by
 refine aI.body (c:=f41.body.getD .skip) (fun _=>false) mixed func41 rfl (by kernel_rfl) ?_;unfold f41;simp only[Xag];simp only[go_sem];simp only[go_sem,E,Xaa];refine QF F L l j H0 _ M u E fun r=>?_
 simp only[go_sem];exact J _
end
end Nu
namespace Dec
open Go.Proofs.Tryz
def Ly{H:aD}{k:IntKind}{a b:Int}(h:a=b):Conv H (.v (.int k a)) (.v (.int k b)):=h▸.refl _
def oD{H:aD}{a b:Bool}(h:a=b):Conv H (.v (.bool a)) (.v (.bool b)):=h▸.refl _
def xF(x:Instance)(n:Int):Bool:=decide (n>=0)&&decide (n<(x.orders.length:Int))
def AM(x:Instance)(n:Int):PC prog 67 [int n,.rp (aH x) 0] (boo (xF x n)):=by refine pcd func67 rfl rfl ?_;simp only[go_sem];exact .refl _
def lH(x:Instance)(d:Decision):Int:=
 if d.kind=1\/d.kind=2 then(if xF x d.a&&xF x d.b&&d.a != d.b then 0 else 2)
 else if d.kind=5\/d.kind=6 then(if xF x d.a then 0 else 2)
 else if d.kind=3\/d.kind=4 then(if decide (d.a>=0)&&decide (d.a<(x.types.length:Int))&&decide (d.n>=0)&&decide (d.n<=10)then 0 else 2)
 else 8
def S9(x:Instance)(d:Decision):PC prog 31 [.agg (aH x),.agg (aT d)] (int (lH x d)):=by
 refine pcd func31 rfl rfl ?_;simp only[go_sem]
 repeat' (first|(refine aN (AM _ _) ?_)|(refine⟨_,fun _=>PC.q (AM _ _) rfl,?_⟩)|(refine⟨_,PC.q (AM _ _) rfl,?_⟩)|(refine aA (fun u=>?_) (fun u=>?_))|(simp only[go_sem]))
 all_goals (refine Ly ?_;(try unfold lH);generalize xF x d.a=p at *;generalize xF x d.b=q at *;cases p <;> cases q <;> simp_all <;> (try omega))
def gL:List Int->Int
 | []=>0
 | e::r=>if e != 0 then e else gL r
def wC{l:List Int}{k:Nat}{e:Int}(h:∀e∈l.take k,e=0)(u:l[k]?=some e)(F:(e != 0)=true):gL l=e:=by
 induction l generalizing k with
 | nil=>simp at u
 | cons a r ih=>
  cases k with
  | zero=>simp at u;subst u;simp only[gL];rw[if_pos F]
  | succ k=>have h0:=h a (by simp);subst h0;simp only[gL];exact ih (k:=k) (fun e E=>h e (by simp[E])) (by simpa using u)
def uO{l:List Int}(h:∀e∈l,e=0):gL l=0:=by
 induction l with
 | nil=>rfl
 | cons a r ih=>have h0:=h a (by simp);subst h0;simp only[gL];exact ih fun e u=>h e (by simp[u])
def Cs{l:List Int}(h:gL l=0):∀e∈l,e=0:=by
 induction l with
 | nil=>simp
 | cons a r ih=>
  simp only[gL]at h;split at h
  ·rename_i u;simp at u;exact absurd h u
  ·rename_i u;simp at u;intro e E;rcases Xao.1 E with rfl|E;exact u;exact ih h e E
def yH(x:Instance)(l:List Decision):Int:=if decide ((l.length:Int)>1024)then 4 else gL (l.map (lH x))
def TU(x:Instance)(l:List Decision)(hl:l.length<=1048576):PC prog 16 [.agg (aH x),.sl (l.map aT)] (int (yH x l)):=by
 refine pcd func16 rfl rfl ?_;simp only[go_sem];refine aA (fun L=>?_) (fun L=>?_)
 ·simp only[go_sem];exact Ly (by unfold yH;rw[if_pos L])
 ·have hc:yH x l=gL (l.map (lH x)):=by unfold yH;rw[if_neg (by rw[L];simp)]
  rw[hc];simp only[go_sem];refine⟨fun ρ _=>∃k:Nat,k<=l.length/\ρ 2=.rp (aH x) 0/\ρ 11=.sl (l.map aT)/\ρ 12=int l.length/\ρ 13=int k/\∀e∈(l.map (lH x)).take k,e=0,fun ρ _=>l.length-aW (ρ 13),⟨0,Xab _,rfl,rfl,rfl,rfl,by simp⟩,?_⟩;rintro ρ H ⟨k,hk,Z,F,u,E,hz⟩;simp only[go_sem,Z,F,u,E];refine aA (fun J=>?_) (fun M=>?_)
  ·have J:=Bm J;obtain⟨d,hd⟩:=bG J;have b1:=inB J;simp only[go_sem,Z,F,u,E,aJ hd,b1];refine aL fun j hj=>?_
   simp only[go_sem,Z,F,u,E,aJ hd,b1];refine aZ (aB _ _ _) (by simp[fF]) ?_;simp only[go_sem,Z,F,u,E,aJ hd,b1];refine aN (S9 x d) ?_;simp only[go_sem,Z,F,u,E];refine aA (fun L=>?_) (fun L=>?_)
   ·simp only[go_sem];exact Ly (wC hz (by simp[hd]) L).symm
   ·simp only[go_sem,Z,F,u,E,aY k];refine⟨⟨k+1,J,rfl,?_⟩,by simp only[aF];omega⟩;rw[bK (x:=lH x d) (by simp[hd])];intro e O;rcases Xbj.1 O with O|O
    ·exact hz e O
    ·simp at O;subst O;simpa using L
  ·have M:=AK hk M;subst M;simp only[go_sem];exact Ly (uO (by rw[Xba (by simp)]at hz;exact hz)).symm
def kM(set i:Int):Bool:=decide (i>=0)&&decide (i<=62)&&((set/2^i.toNat)%2 == 1)
def Qt(set i:Int):PC prog 63 [int set,int i] (boo (kM set i)):=Sq.Cf set i
def iV(d:Decision)(set:Int):Bool:=
 if d.kind=1 then kM set d.a == kM set d.b else if d.kind=2 then !kM set d.a|| !kM set d.b else if d.kind=6 then !kM set d.a else true
def Oy(d:Decision)(set:Int):PC prog 119 [.agg (aT d),int set] (boo (iV d set)):=by
 refine pcd func119 rfl rfl ?_;simp only[go_sem];refine eZ (by rfl) (by kernel_rfl) ?_
 repeat' (first|(refine aN (Qt _ _) ?_)|(refine⟨_,fun _=>PC.q (Qt _ _) rfl,?_⟩)|(refine⟨_,PC.q (Qt _ _) rfl,?_⟩)|(refine aA (fun u=>?_) (fun u=>?_))|(simp only[go_sem]))
 all_goals (refine oD ?_;unfold iV;simp_all)
def SL{α:Type}{p:α->Bool}{l:List α}{k:Nat}{x:α}(u:l[k]?=some x)(E:p x=false):l.all p=false:=by rw[List.all_eq_false];exact⟨x,Xaf u,by simp[E]⟩
def Pu{α:Type}{p:α->Bool}{l:List α}(h:∀x∈l.take l.length,p x=true):l.all p=true:=by rw[Xai]at h;rw[Xbc];exact h
def Po{α:Type}{p:α->Bool}{l:List α}{k:Nat}{x:α}(F:l[k]?=some x)(E:p x=true)(h:∀x∈l.take k,p x=true):∀x∈l.take (k+1),p x=true:=by
 rw[bK F];intro y u;rcases Xbj.1 u with u|u
 ·exact h y u
 ·simp at u;subst u;exact E
def OM(l:List Decision)(c:Column)(hl:l.length<=1048576):PC prog 72 [.sl (l.map aT),.agg (bF c)] (boo (l.all fun d=>iV d c.set)):=by
 refine pcd func72 rfl rfl ?_;simp only[go_sem];refine⟨fun ρ _=>∃k:Nat,k<=l.length/\ρ 3=.rp (bF c) 0/\ρ 7=.sl (l.map aT)/\ρ 8=int l.length/\ρ 9=int k/\∀d∈l.take k,iV d c.set=true,fun ρ _=>l.length-aW (ρ 9),⟨0,Xab _,rfl,rfl,rfl,rfl,by simp⟩,?_⟩;rintro ρ H ⟨k,hk,M,F,L,J,hz⟩;simp only[go_sem,M,F,L,J];refine aA (fun u=>?_) (fun E=>?_)
 ·have u:=Bm u;obtain⟨d,O⟩:=bG u;have b1:=inB u;simp only[go_sem,M,F,L,J,aJ O,b1];refine aL fun j hj=>?_
  simp only[go_sem,M,F,L,J,aJ O,b1];refine aZ (aB _ _ _) (by simp[fF]) ?_;simp only[go_sem,M,F,L,J,aJ O,b1];refine aN (Oy d _) ?_;simp only[go_sem,M,F,L,J];refine aA (fun Z=>?_) (fun Z=>?_)
  ·simp only[go_sem];exact oD (SL O (by simpa using Z)).symm
  ·simp only[go_sem,M,F,L,J,aY k];exact⟨⟨k+1,u,rfl,Po O (by simpa using Z) hz⟩,by simp only[aF];omega⟩
 ·have E:=AK hk E;subst E;simp only[go_sem];exact oD (Pu hz).symm
end Dec
namespace Nu
open Go.Proofs.Tryz
open Go.Nu
def cM(s:ByteArray):ByteArray×ByteArray×Int:=if bP s=true then(fM s,fA s,0)else(emp,emp,3)
def OA(s:ByteArray)(h:s.size<=1048576):PC prog 108 [str s] (.tup [str (cM s).1,str (cM s).2.1,int (cM s).2.2]):=by
 refine pcd func108 rfl rfl ?_;simp only[go_sem];refine aN (sJ s h) ?_;simp only[go_sem];unfold cM;refine aA (fun u=>?_) (fun u=>?_)
 ·rw[if_neg (by simpa using u)];simp only[go_sem];exact .refl _
 ·rw[if_pos (by simpa using u)];simp only[go_sem];refine aN (vZ s h) ?_;simp only[go_sem];exact .refl _
def Dw(s:ByteArray):ByteArray×Int:=
 if((cM s).2.2 != 0)=true then(emp,(cM s).2.2)
 else if((kE (cM s).1 (cM s).2.1).2.2 != 0||(kE (cM s).1 (cM s).2.1).2.1.toList == (⟨#[48]⟩:ByteArray).toList)=true then((kE (cM s).1 (cM s).2.1).1,(kE (cM s).1 (cM s).2.1).2.2)
 else Hl (kE (cM s).1 (cM s).2.1).1 ⟨#[49]⟩
def IV(s:ByteArray)(h:s.size<=1048576):(cM s).1.size<=1048576/\(cM s).2.1.size<=1048576/\(kE (cM s).1 (cM s).2.1).1.size<=1048576:=by
 unfold cM;split
 next E=>
  obtain⟨x,rfl,u,F,e2⟩:=eL E;have M:=x.den_pos;have L:=u.2;have J:dec x.den=zed (x.den:Int):=(dG x.den).symm;refine⟨Xan (xH _) h,?_,?_⟩
  ·show(fA (lI x)).size<=1048576;rw[e2];exact dE u.2
  ·show(kE (fM (lI x)) (fA (lI x))).1.size<=1048576;rw[F,e2,J,BV u.1 (by omega) (by omega)];refine cX ?_;have h1:=u.1;have:(x.num.fdiv (x.den:Int)).natAbs<=x.num.natAbs:=by rw[Int.fdiv_eq_ediv_of_nonneg _ (by omega)];exact Int.natAbs_ediv_le_natAbs _ _
   show(x.num.fdiv (x.den:Int)).natAbs<cE;omega
 next E=>
  refine⟨by decide,by decide,?_⟩;show(kE emp emp).1.size<=1048576;have:jG emp emp=3:=by unfold jG;rw[if_pos (by decide)]
  unfold kE;rw[this];decide
def PI(s:ByteArray)(h:s.size<=1048576):PC prog 55 [str s] (.tup [str (Dw s).1,int (Dw s).2]):=by
 obtain⟨h1,M,L⟩:=IV s h;have J:Dw s=(if((cM s).2.2 != 0)=true then(emp,(cM s).2.2)
  else if((kE (cM s).1 (cM s).2.1).2.2 != 0||(kE (cM s).1 (cM s).2.1).2.1.toList == (⟨#[48]⟩:ByteArray).toList)=true then((kE (cM s).1 (cM s).2.1).1,(kE (cM s).1 (cM s).2.1).2.2)
  else Hl (kE (cM s).1 (cM s).2.1).1 ⟨#[49]⟩):=rfl
 have hP:=OA s h;have E:=A0 (cM s).1 (cM s).2.1 h1 M;have F:=PX (kE (cM s).1 (cM s).2.1).1 ⟨#[49]⟩ L (by decide);generalize kE (cM s).1 (cM s).2.1=D at *;generalize cM s=p at *;generalize Dw s=c at *;subst J;refine pcd func55 rfl rfl ?_;simp only[go_sem];refine aN hP ?_;simp only[go_sem];refine aA (fun u=>?_) (fun u=>?_)
 ·rw[if_pos u];simp only[go_sem];exact .refl _
 rw[if_neg (by rw[u];simp)];simp only[go_sem];refine aN E ?_;simp only[go_sem];refine aA (fun u=>?_) (fun u=>?_)
 ·rw[if_pos u];simp only[go_sem];exact .refl _
 rw[if_neg (by rw[u];simp)];simp only[go_sem];refine aN F ?_;simp only[go_sem];exact .refl _
end Nu
end Go.Proofs.YtmhpdppobocokaaGreatDoor
section
namespace Go.Aw.D
open Go.Aw Go.RowKit Go.Proofs Go.Proofs.YtmhpdppobocokaaGreatDoor Go.WideShapes Go.ChangeShapes
def EP:List (String×DataW Unit):=[("math/bits.deBruijn32tab",Go.Proofs.YtmhpdppobocokaaGreatDoor.Rows.laid_math_bits_deBruijn32tab),("math/bits.deBruijn64tab",Go.Proofs.YtmhpdppobocokaaGreatDoor.Rows.laid_math_bits_deBruijn64tab),("internal/strconv.uint64pow10",Go.Proofs.YtmhpdppobocokaaGreatDoor.Rows.laid_internal_strconv_uint64pow10),("strconv.ErrRange",Go.Proofs.YtmhpdppobocokaaGreatDoor.Rows.laid_strconv_ErrRange),("strconv.ErrSyntax",Go.Proofs.YtmhpdppobocokaaGreatDoor.Rows.laid_strconv_ErrSyntax)]
theorem QR:(Go.Proofs.YtmhpdppobocokaaGreatDoor.Rows.laid_math_bits_deBruijn64tab:DataW Unit)=Lib.tabData .u8 (Lib.deBruijn64tab.map fun z:Nat=>(z:Int)):=by kernel_rfl
theorem Qp:(Go.Proofs.YtmhpdppobocokaaGreatDoor.Rows.laid_internal_strconv_uint64pow10:DataW Unit)=Lib.tabData .u64 Lib.pow10Tab:=by kernel_rfl
theorem MR{W:World}(h:laidMetH Tryz.prog EP W):EC W:=by
 have h0:laidMet Tryz.prog EP W:=(Go.MakeChecks.laidMetH_plain Tryz.prog EP W (by kernel_rfl))▸h;have h1:=laidMet.tail h0;have E:=laidMet.tail h1;rw[QR]at h1;rw[Qp]at E;have b:=Lib.tabIs_of_head (g:=1) (by kernel_rfl) (by kernel_rfl) (t:=350) (e:=5) (n:=64) Tryz.underlying350 Tryz.underlying5 (by kernel_rfl) (by kernel_rfl) h1;have p:=Lib.tabIs_of_head (g:=5) (by kernel_rfl) (by kernel_rfl) (t:=467) (e:=301) (n:=20) Tryz.underlying467 Tryz.underlying301 (by kernel_rfl) (by kernel_rfl) E;unfold Lib.TabIs World.var? at b p;rw[show Tryz.prog.globalNamed "math/bits.deBruijn64tab" = some 1 by kernel_rfl]at b;rw[show Tryz.prog.globalNamed "internal/strconv.uint64pow10" = some 5 by kernel_rfl]at p;intro t u;simp only[ND,List.mem_cons,List.not_mem_nil,or_false]at u;rcases u with rfl|rfl
 . exact p
 . have:Jt=((Lib.deBruijn64tab.map fun z:Nat=>(z:Int)).map fun z=>Value.int .u8 z).toArray:=by simp[Jt]
   rw[this];exact b
end Go.Aw.D
end
