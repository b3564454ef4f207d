import Derived.Lib.LaidIn
import Derived.MakeChecks
import Derived.Stop.LaidErr
import Derived.Test.YtohmomanmikphaaGreatDoorCards
import Derived.Test.YtohmomanmikphaaGreatDoorTie
import Derived.Deep.DeepHandedRow
import Derived.Deep.DeepWitnessRowRef
import Derived.SevenTiedAt
import Derived.Test.YtohmomanmikphaaGreatDoorPf15
set_option linter.unusedSimpArgs false
set_option linter.unusedVariables false
set_option maxRecDepth 100000
section
namespace Go.Proofs.YtohmomanmikphaaGreatDoor
open Go.Aw Go.Aw.D Go.Proofs Ty
theorem fS{α:Type}{b:Bool}{f:α}(h:opt b f=[]):b=false:=by cases b <;> simp[opt]at h |-
theorem jT{n a b:Int}:inR n a b=true↔a<=n/\n<=b:=by
 unfold inR;simp only[Xap,decide_eq_true_eq]
theorem rG{b:Bool}(h:(!b)=false):b=true:=by simpa using h
structure TypeB(t:VType)(d:Int):Prop where
 cap:wL t.cap d=true
 skills:0<=t.skills/\t.skills<=1073741823
 start:0<=t.start/\t.start<=t.close
 close:t.close<=4096
 drive:1<=t.drive/\t.drive<=4096
 rest:0<=t.rest/\t.rest<=4096
 count:0<=t.count/\t.count<=10
theorem Ud{n:Network}{l:List VType}{k:Nat}{t:VType}(h:lE n l k t=[]):TypeB t (jU l):=by
 unfold lE at h;simp only[Xax,Xbg]at h;obtain⟨⟨⟨⟨⟨⟨⟨⟨_,_⟩,M⟩,_⟩,Z⟩,h6⟩,I⟩,J⟩,h9⟩:=h;have O:=jT.1 (rG (fS M));have e5:=rG (fS Z);have F:=jT.1 (rG (fS h6));have E:=Xak.1 (fS I);have u:=Xak.1 (fS J);have T:=jT.1 (rG E.1);have aa:¬t.close>4096:=by simpa using E.2
 exact⟨e5,F,T,by omega,jT.1 (rG u.1),jT.1 (rG u.2),O⟩
structure OrdB(o:Order)(d:Int):Prop where
 load:eU o.load d=true
 pick: -1<=o.pick.place
 drop: -1<=o.drop.place
 both:(o.pick.place == -1&&o.drop.place == -1)=false
 wpick:fF o.pick=0
 wdrop:fF o.drop=0
 skills:0<=o.skills/\o.skills<=1073741823
 penalty: -1<=o.penalty/\o.penalty<=1000000
theorem X9{P:Nat}{d T:Int}{l:List Order}{k:Nat}{o:Order}(h:jP P d T l k o=[]):OrdB o d:=by
 unfold jP at h;simp only[Xax,Xbg]at h;obtain⟨⟨⟨⟨⟨⟨⟨_,_⟩,Z⟩,h4⟩,I⟩,O⟩,J⟩,M⟩:=h;have F:=Xak.1 (fS h4);have u:=Xak.1 (fS O);have E:=fS M;simp only[Xak]at E;refine⟨rG (fS Z),(jT.1 (rG F.1)).1,(jT.1 (rG F.2)).1,fS I,by simpa using u.1,by simpa using u.2,jT.1 (rG (fS J)),jT.1 (rG E.1.1.1.1.1.1)⟩
structure ArcOk(a:Arc):Prop where
 travel:iO a.travel=[]
 slow:a.slow.length<=16
 pt:∀p∈a.slow,(0<=p.t/\p.t<=4096)/\0<=p.a/\p.a<=4096
theorem Vb{n:Network}{k:Nat}{a:Arc}(J:n.arcs[k]?=some a)(h:DZ n k=[]):ArcOk a:=by
 unfold DZ at h;rw[nD J]at h;simp only[Xax,Xbg,List.map_eq_nil_iff]at h;obtain⟨⟨⟨_,O⟩,F⟩,M⟩:=h;have T:¬(a.slow.length:Int)>16:=by simpa using fS F
 refine⟨O,by omega,fun p I=>?_⟩;obtain⟨i,E,rfl⟩:=List.getElem_of_mem I;have:=List.flatMap_eq_nil_iff.1 M i (Xaz.2 E);have u:=fS this;unfold mJ at u;rw[dM (List.getElem?_eq_getElem E)]at u;simp only[Xak]at u;exact⟨jT.1 (rG u.1.1),jT.1 (rG u.1.2)⟩
structure PairB(N:Int)(q:Pair):Prop where
 a:0<=q.a/\q.a<N
 b:0<=q.b/\q.b<N
 ne:q.a≠q.b
theorem L1{N:Int}{l:List Pair}{w:ByteArray}{s:Bool}(h:rJ N l w s=[]):l.length<=16/\∀q∈l,PairB N q:=by
 unfold rJ at h;rw[Xbg]at h;have J:¬(l.length:Int)>16:=by simpa using fS h.1
 refine⟨by omega,fun q F=>?_⟩;obtain⟨i,E,rfl⟩:=List.getElem_of_mem F;have:=List.flatMap_eq_nil_iff.1 h.2 i (Xaz.2 E);unfold fM at this;have I:pAt l i=l[i]:=by simp[pAt,List.getD,E]
 rw[I]at this;split at this
 . simp at this
 . rename_i u
   unfold Go.Proofs.YtohmomanmikphaaGreatDoor.AT at u;simp only[Xak,decide_eq_false_iff_not]at u;exact⟨by omega,by omega,by simpa using u.2⟩
structure Acc(x:Instance):Prop where
 arcs:x.net.arcs.length<=1024
 arc:∀a∈x.net.arcs,ArcOk a
 types:1<=x.types.length/\x.types.length<=6
 type:∀t∈x.types,TypeB t (jU x.types)
 orders:x.orders.length<=10
 order:∀o∈x.orders,OrdB o (jU x.types)
 apart:x.apart.length<=16
 apartB:∀q∈x.apart,PairB x.orders.length q
 before:x.before.length<=16
 beforeB:∀q∈x.before,PairB x.orders.length q
theorem afB{x:Instance}(h:E4 x=[]):Acc x:=by
 unfold E4 at h;simp only[Xbg,List.map_eq_nil_iff]at h;obtain⟨⟨⟨I,E⟩,J⟩,F⟩:=h;unfold FE at I;simp only[Xbg]at I;unfold sE at E;rw[Xbg]at E;unfold oU at J;rw[Xbg]at J;unfold BP at F;rw[Xbg]at F;obtain⟨Z,r2⟩:=L1 F.1;obtain⟨r3,T⟩:=L1 F.2;have e1:¬(x.net.arcs.length:Int)>1024:=by simpa using fS I.1.2
 have e2:=jT.1 (rG (fS E.1));have e3:¬(x.orders.length:Int)>10:=by simpa using fS J.1
 refine⟨by omega,fun a ha=>?_,by omega,fun t M=>?_,by omega,fun o O=>?_,Z,r2,r3,T⟩
 . obtain⟨i,u,rfl⟩:=List.getElem_of_mem ha
   exact Vb (List.getElem?_eq_getElem u) (List.flatMap_eq_nil_iff.1 I.2 i (Xaz.2 u))
 . obtain⟨i,u,rfl⟩:=List.getElem_of_mem M
   have:=List.flatMap_eq_nil_iff.1 E.2 i (Xaz.2 u);unfold gO at this;rw[List.map_eq_nil_iff,KZ (List.getElem?_eq_getElem u)]at this;exact Ud this
 . obtain⟨i,u,rfl⟩:=List.getElem_of_mem O
   have:=List.flatMap_eq_nil_iff.1 J.2 i (Xaz.2 u);unfold fU at this;rw[List.map_eq_nil_iff,KS (List.getElem?_eq_getElem u)]at this;exact X9 this
end Go.Proofs.YtohmomanmikphaaGreatDoor
end
section
namespace Go.Proofs.YtohmomanmikphaaGreatDoor.Nu
open Go.Proofs.Tryz(prog)
open Go.Aw Go.Aw.D Go.Proofs Ty Go.Nu
def qX(p:Nat->Bool):Nat->Nat
 | 0=>0
 | k+1=>qX p k+(if p k=true then 2^k else 0)
theorem AJ(p:Nat->Bool):∀k,qX p k<2^k
 | 0=>by simp[qX]
 | k+1=>by have:=AJ p k;rw[qX,Nat.pow_succ];split <;> omega
theorem EP(p:Nat->Bool):∀k i,(qX p k).testBit i=(decide (i<k)&&p i)
 | 0,i=>by simp[qX]
 | k+1,i=>by
   have u:=AJ p k;have ih:=EP p k i;rw[qX];have E:qX p k+(if p k=true then 2^k else 0)=qX p k ||| (if p k=true then 2^k else 0):=by
     split
     . rw[Nat.add_comm,Nat.or_comm];have:=Nat.two_pow_add_eq_or_of_lt u 1;simpa using this
     . simp
   rw[E,Nat.testBit_or,ih];by_cases h:p k=true
   . rw[if_pos h,Nat.testBit_two_pow]
     by_cases e:k=i
     . subst e;simp[h]
     . have:(decide (i<k+1))=decide (i<k):=by rw[Xau];simp;omega
       rw[this];simp[e]
   . rw[if_neg h]
     by_cases e:k=i
     . subst e;simp[h]
     . have:(decide (i<k+1))=decide (i<k):=by rw[Xau];simp;omega
       rw[this];simp
theorem adE{a k:Nat}(h:a<2^k):a ||| 2^k=a+2^k:=by
 rw[Nat.or_comm,Nat.add_comm];have:=Nat.two_pow_add_eq_or_of_lt h 1;simpa using this.symm
theorem D4{a b:Nat}(u:a<2^63)(F:b<2^63):qI .or .i64 (a:Int) (b:Int)=((a ||| b:Nat):Int):=by
 have h:((BitVec.ofInt 64 (a:Int) ||| BitVec.ofInt 64 (b:Int)).toNat:Int)=((a ||| b:Nat):Int):=by
   rw[BitVec.toNat_or,BitVec.toNat_ofInt,BitVec.toNat_ofInt];have h1:((a:Int)%((2^64:Nat):Int)).toNat=a:=by omega
   have E:((b:Int)%((2^64:Nat):Int)).toNat=b:=by omega
   rw[h1,E]
 refine Eq.trans (congrArg IntKind.i64.wrap h) ?_;have:=Xbs u F;exact bA (by omega)
theorem DS{i:Nat}(h:i<=62):shV .shl .i64 1 (i:Int)=((2^i:Nat):Int):=by
 show IntKind.i64.wrap (1*2^min ((i:Int)).toNat 64)=_;have:min ((i:Int)).toNat 64=i:=by omega
 rw[this,Int.one_mul];have u:(2:Nat)^i<=2^62:=Xav (by decide) h;have E:((2:Int)^i)=((2^i:Nat):Int):=by norm_cast
 rw[E];generalize 2^i=m at u;exact bA (by omega)
theorem sH{s:Nat}{i:Nat}(h1:i<=62):dH (s:Int) (i:Int)=s.testBit i:=by
 rw[Nat.testBit_eq_decide_div_mod_eq];unfold dH;have u:((2:Int)^i)=((2^i:Nat):Int):=by norm_cast
 rw[Xbf,u];have:((s:Int)/((2^i:Nat):Int))=((s/2^i:Nat):Int):=rfl;rw[this];generalize s/2^i=m;rw[Xau];simp only[beq_iff_eq,decide_eq_true_eq,Xap];omega
theorem Om{a b:Nat}(ha:a<2^63)(hb:b<2^63):(qI .andNot .i64 (a:Int) (b:Int) == 0)=decide (a &&& b=a):=by
 have e:qI .andNot .i64 (a:Int) (b:Int)=((a-(a &&& b):Nat):Int):=by
   have h1:((a:Int)%((2^64:Nat):Int)).toNat=a:=by omega
   have h2:((b:Int)%((2^64:Nat):Int)).toNat=b:=by omega
   have h:((BitVec.ofInt 64 (a:Int) &&& ~~~(BitVec.ofInt 64 (b:Int))).toNat:Int)=((a-(a &&& b):Nat):Int):=by
     have u:a &&& b<=a:=Nat.and_le_left;have J:BitVec.ofInt 64 (a:Int) &&& ~~~(BitVec.ofInt 64 (b:Int))=BitVec.ofNat 64 (a-(a &&& b)):=by
       have M:BitVec.ofInt 64 (a:Int)=BitVec.ofNat 64 a:=by apply BitVec.eq_of_toNat_eq;rw[BitVec.toNat_ofInt,BitVec.toNat_ofNat,h1,Xbb (by omega)]
       have O:BitVec.ofInt 64 (b:Int)=BitVec.ofNat 64 b:=by apply BitVec.eq_of_toNat_eq;rw[BitVec.toNat_ofInt,BitVec.toNat_ofNat,h2,Xbb (by omega)]
       rw[M,O];have T:(BitVec.ofNat 64 a &&& ~~~BitVec.ofNat 64 b) &&& BitVec.ofNat 64 (a &&& b)=0#64:=by
         apply BitVec.eq_of_getLsbD_eq;intro i E;simp only[BitVec.getLsbD_and,BitVec.getLsbD_not,BitVec.getLsbD_ofNat,Nat.testBit_and,E,decide_true,Xbj,BitVec.getLsbD_zero];cases a.testBit i <;> cases b.testBit i <;> simp
       have Z:(BitVec.ofNat 64 a &&& ~~~BitVec.ofNat 64 b) ||| BitVec.ofNat 64 (a &&& b)=BitVec.ofNat 64 a:=by
         apply BitVec.eq_of_getLsbD_eq;intro i E;simp only[BitVec.getLsbD_or,BitVec.getLsbD_and,BitVec.getLsbD_not,BitVec.getLsbD_ofNat,Nat.testBit_and,E,decide_true,Xbj];cases a.testBit i <;> cases b.testBit i <;> rfl
       have I:=congrArg BitVec.toNat ((BitVec.add_eq_or_of_and_eq_zero _ _ T).trans Z);rw[BitVec.toNat_add,BitVec.toNat_ofNat,BitVec.toNat_ofNat,Xbb (by omega:a<2^64),Xbb (by omega:a &&& b<2^64)]at I;apply BitVec.eq_of_toNat_eq;rw[BitVec.toNat_ofNat,Xbb (by omega)];have hl:=(BitVec.ofNat 64 a &&& ~~~BitVec.ofNat 64 b).isLt;have F:(BitVec.ofNat 64 a &&& ~~~BitVec.ofNat 64 b).toNat<=a:=by
         rw[BitVec.toNat_and,BitVec.toNat_ofNat,Xbb (by omega:a<2^64)];exact Nat.and_le_left
       omega
     rw[J,BitVec.toNat_ofNat,Xbb (by omega)]
   refine Eq.trans (congrArg IntKind.i64.wrap h) ?_;exact bA (by omega)
 rw[e,Xau];have u:a &&& b<=a:=Nat.and_le_left;simp only[beq_iff_eq,decide_eq_true_eq];omega
theorem Tj(a b:Nat)(u:a<2^63)(E:b<2^63):PC prog 152 [int a,int b] (boo (decide (a &&& b=a))):=by
 refine pcd Tryz.func152 ?_;unfold Tryz.f152;simp only[gdS];simp only[go_sem];exact cB (Om u E)
def CO(q:Order->Bool)(l:List Order)(i:Nat):Bool:=match l[i]? with|some o=> !o.off&&q o|none=>false
theorem V3{q:Order->Bool}{l:List Order}{i:Nat}{o:Order}(h:l[i]?=some o):CO q l i=(!o.off&&q o):=by unfold CO;rw[h]
def KP(q:Order->Bool)(l:List Order):Nat:=qX (CO q l) l.length
theorem We{g:Nat}{q:Order->Bool}(x:Instance)(hx:x.orders.length<=62)(aa:aC prog g=true)(hg:∀o∈x.orders,PC prog g [.agg (bD o)] (boo (q o))):
   PC prog 211 [.agg (aH x),.v (.func (.func g) #[] #[])] (int (KP q x.orders:Nat)):=by
 refine pcd Tryz.func211 ?_;unfold Tryz.f211;simp only[gdS];simp only[go_sem];unfold KP;generalize hp:CO q x.orders=p;refine⟨fun ρ H=>∃(k:Nat),k<=x.orders.length/\ρ 1=.v (.func (.func g) #[] #[])/\ρ 9=.sl (x.orders.map bD)/\ρ 10=int (x.orders.length:Nat)/\ρ 11=int k/\ρ 5=int (qX p k:Nat),fun ρ _=>x.orders.length-aV (ρ 11),⟨0,Xac _,by simp only[go_sem],by simp only[go_sem],by simp only[go_sem,Xaa],(by simp only[go_sem];rfl),by simp only[go_sem];rfl⟩,?_⟩;rintro ρ H ⟨k,hk,I,M,u,E,J⟩;simp only[go_sem,I,M,u,E,J];refine aB (fun F=>?_) (fun O=>?_)
 . have F:=ltB F
   obtain⟨o,Z⟩:=aN F;have b1:=inB F;have T:p k=(!o.off&&q o):=by rw[<-hp];exact V3 Z
   have ab:=AJ p k;have ac:2^k<=2^62:=Xav (by decide) (by omega);simp only[go_sem,I,M,u,E,J,aE Z,b1];refine aM fun j hj=>?_
   simp only[go_sem,I,M,u,E,J,aE Z,b1];refine aJ (aA _ _ _) (by simp[bD]) ?_;simp only[go_sem,I,M,u,E,J,aE Z,b1,aa];refine⟨_,fun _=>(hg o (Xae Z)).q rfl,?_⟩;simp only[go_sem,I,M,u,E,J];refine aB (fun hb=>?_) (fun hb=>?_)
   . have q1:=DS (i:=k) (by omega)
     have q2:=D4 (a:=qX p k) (b:=2^k) (by omega) (by omega);simp only[go_sem,I,M,u,E,J,q1,q2,aP (show k<=4611686018427387904 by omega)];refine⟨by omega,⟨k+1,F,rfl,?_⟩,by simp only[aF];omega⟩;rw[adE ab,qX,T,if_pos hb]
   . simp only[go_sem,I,M,u,E,J,aP (show k<=4611686018427387904 by omega)]
     refine⟨⟨k+1,F,rfl,?_⟩,by simp only[aF];omega⟩;rw[qX,T,if_neg (by rw[hb];simp),Nat.add_zero]
 . have O:=geB hk O
   subst O;simp only[go_sem,I,M,u,E,J];exact .refl _
def YM(x:Instance):Nat:=KP (fun _=>true) x.orders
def Lt(x:Instance):Nat:=KP (fun o=>o.penalty == -1) x.orders
theorem adZ(o:Order):PC prog 219 [.agg (bD o)] (boo true):=by
 refine pcd Tryz.func219 ?_;unfold Tryz.f219;simp only[gdS];simp only[go_sem];exact .refl _
theorem ZT(o:Order):PC prog 212 [.agg (bD o)] (boo (o.penalty == -1)):=by
 refine pcd Tryz.func212 ?_;unfold Tryz.f212;simp only[gdS];simp only[go_sem];exact .refl _
theorem abP(x:Instance)(u:x.orders.length<=62):PC prog 156 [.agg (aH x)] (int (YM x:Nat)):=by
 refine pcd Tryz.func156 ?_;unfold Tryz.f156;simp only[gdS];simp only[go_sem];refine PC.use (We x u (by kernel_rfl) fun o _=>adZ o) ?_;simp only[go_sem];exact .refl _
theorem adB(x:Instance)(u:x.orders.length<=62):PC prog 153 [.agg (aH x)] (int (Lt x:Nat)):=by
 refine pcd Tryz.func153 ?_;unfold Tryz.f153;simp only[gdS];simp only[go_sem];refine PC.use (We x u (by kernel_rfl) fun o _=>ZT o) ?_;simp only[go_sem];exact .refl _
def uY(n:Nat)(set:Int):Bool:=decide (set>=0)&&(set/2^n == 0)
theorem HY(x:Instance)(set:Int)(u:x.orders.length<=62):PC prog 92 [.agg (aH x),int set] (boo (uY x.orders.length set)):=by
 refine pcd Tryz.func92 ?_;unfold Tryz.f92;simp only[gdS];simp only[go_sem];refine⟨by omega,?_⟩;refine cB ?_;rw[rT u];rfl
theorem HI{g:Nat}{cap:List AV}{p:Int->Bool}(l:List Int)(hl:l.length<=1048576)(aa:aC prog g=true)(hg:∀v∈l,PC prog g (int v::cap) (boo (p v))):
   ∃n:Int,decide (n>=0)=l.any p/\PC prog 258 [.sl (l.map bN),.fn g cap] (int n):=by
 refine⟨match l.findIdx? p with|some i=>(i:Int)|none=> -1,?_,?_⟩
 . cases h:l.findIdx? p with
   | none=>
     have:=List.findIdx?_eq_none_iff.1 h;simp only;rw[List.any_eq_false.2 (fun x hx=>by rw[this x hx];simp)];rfl
   | some i=>
     obtain⟨hi,hp,_⟩:=List.findIdx?_eq_some_iff_getElem.1 h;simp only;rw[Xbe.2 ⟨l[i],List.getElem_mem hi,hp⟩];simp
 ·
   refine pcd Tryz.func258 ?_;unfold Tryz.f258;simp only[gdS];simp only[go_sem];refine⟨fun ρ H=>∃(k:Nat),k<=l.length/\ρ 0=.sl (l.map bN)/\ρ 1=.fn g cap/\ρ 7=int (l.length:Nat)/\ρ 8=int k/\(∀u∈l.take k,p u=false),fun ρ _=>l.length-aV (ρ 8),⟨0,Xac _,by simp only[go_sem],by simp only[go_sem],by simp only[go_sem,Xaa],(by simp only[go_sem];rfl),by simp⟩,?_⟩;rintro ρ H ⟨k,hk,M,I,O,J,T⟩;simp only[go_sem,M,I,O,J];refine aB (fun E=>?_) (fun F=>?_)
   . have E:=ltB E
     obtain⟨u,Z⟩:=aN E;have b1:=inB E;simp only[go_sem,M,I,O,J,aE Z,b1,aa];refine PC.use (hg u (Xae Z)) ?_;simp only[go_sem,M,I,O,J];refine aB (fun hb=>?_) (fun hb=>?_)
     . simp only[go_sem,M,I,O,J]
       have:l.findIdx? p=some k:=by
         have ab:k<l.length:=E;refine List.findIdx?_eq_some_iff_getElem.2 ⟨ab,?_,fun j hj=>?_⟩
         . have:=(List.getElem?_eq_some_iff.1 Z).2;rw[this];exact hb
         . have:=T l[j] (List.mem_take_iff_getElem.2 ⟨j,by omega,rfl⟩);rw[this];simp
       rw[this];exact .refl _
     . simp only[go_sem,M,I,O,J,aP (show k<=4611686018427387904 by omega)]
       exact⟨⟨k+1,E,rfl,kK (p:=fun u=>p u=false) Z hb T⟩,by simp only[aF];omega⟩
   . have F:=geB hk F
     subst F;rw[Xag]at T;simp only[go_sem];rw[List.findIdx?_eq_none_iff.2 T];exact .refl _
theorem C1{g:Nat}{cap:List AV}{p:Int->Bool}(l:List Int)(F:l.length<=1048576)(u:aC prog g=true)(I:∀v∈l,PC prog g (int v::cap) (boo (p v))):
   PC prog 214 [.sl (l.map bN),.fn g cap] (boo (l.any p)):=by
 obtain⟨n,E,J⟩:=HI l F u I;refine pcd Tryz.func214 ?_;unfold Tryz.f214;simp only[gdS];simp only[go_sem];refine PC.use J ?_;simp only[go_sem];exact cB E
def qV(l:List Order)(i:Int):Order:=l.getD i.toNat ⟨ByteArray.empty,[],⟨0,0,0,0⟩,⟨0,0,0,0⟩,0,0,0,0,0,false⟩
theorem wU{l:List Order}{i:Nat}{o:Order}(h:l[i]?=some o):qV l (i:Int)=o:=by simp[qV,List.getD,h]
def T9(l:List Order)(ms:List Int):Prop:=∀i∈ms,0<=i/\i<(l.length:Int)
theorem H7(x:Instance)(g:Nat)(q:Order->Int)(i:Int)(M:0<=i/\i<(x.orders.length:Int))(E:aC prog g=true)(J:∀o,PC prog g [.agg (bD o)] (int (q o))):
   PC prog 215 [int i,.rp [.v (.func (.func g) #[] #[])] 0,.rp (aH x) 0] (boo (decide (q (qV x.orders i)>=0))):=by
 obtain⟨n,rfl⟩:=Int.eq_ofNat_of_zero_le M.1;have u:n<x.orders.length:=by omega
 obtain⟨o,F⟩:=aN u;have I:=inB u;rw[wU F];refine pcd Tryz.func215 ?_;unfold Tryz.f215;simp only[gdS];simp only[go_sem];refine dA (by rfl) (by kernel_rfl) ?_;simp only[go_sem,aE F,I,E];refine⟨_,(J o).q rfl,?_⟩;simp only[go_sem];exact .refl _
theorem LU(o:Order):PC prog 216 [.agg (bD o)] (int o.pick.place):=by
 refine pcd Tryz.func216 ?_;unfold Tryz.f216;simp only[gdS];simp only[go_sem];exact .refl _
theorem KD(o:Order):PC prog 217 [.agg (bD o)] (int o.drop.place):=by
 refine pcd Tryz.func217 ?_;unfold Tryz.f217;simp only[gdS];simp only[go_sem];exact .refl _
theorem CJ(x:Instance)(g:Nat)(q:Order->Int)(ms:List Int)(I:T9 x.orders ms)(E:ms.length<=1048576)(u:aC prog g=true)(F:∀o,PC prog g [.agg (bD o)] (int (q o))):
   PC prog 213 [.v (.func (.func g) #[] #[]),.rp [.sl (ms.map bN)] 0,.rp (aH x) 0] (boo (!(ms.any fun i=>decide (q (qV x.orders i)>=0)))):=by
 refine pcd Tryz.func213 ?_;unfold Tryz.f213;simp only[gdS];simp only[go_sem];refine PC.use (C1 (p:=fun i=>decide (q (qV x.orders i)>=0)) ms E (by kernel_rfl) (fun i J=>H7 x g q i (I i J) u F)) ?_;simp only[go_sem];exact .refl _
def afH(x:Instance)(ms:List Int):Bool:= !(ms.any fun i=>decide ((qV x.orders i).pick.place>=0))|| !(ms.any fun i=>decide ((qV x.orders i).drop.place>=0))
theorem OG(x:Instance)(ms:List Int)(u:T9 x.orders ms)(E:ms.length<=1048576):PC prog 154 [.agg (aH x),.sl (ms.map bN)] (boo (afH x ms)):=by
 refine pcd Tryz.func154 ?_;unfold Tryz.f154;simp only[gdS];simp only[go_sem];refine PC.use (CJ x _ (fun o=>o.pick.place) ms u E (by kernel_rfl) LU) ?_;simp only[go_sem];refine⟨_,fun _=>(CJ x _ (fun o=>o.drop.place) ms u E (by kernel_rfl) KD).q rfl,?_⟩;simp only[go_sem];exact .refl _
def tG:List Int->List Int->Int->Int×Int
 | n::a,c::l,t=>if n<=0 then tG a l t else if c=0 then(0,24)else tG a l (jW t ((n+c-1).tdiv c))
 | _,_,t=>(t,0)
def yS(a c:List Int):Int×Int:=if a.length≠c.length then(0,2)else if c.any (fun n=>decide (n<0))=true then(0,2)else tG a c 0
def Mid(n:Int):Prop:= -1099511627776<=n/\n<=1099511627776
theorem Vw(a c:List Int)(hl:a.length<=1048576)(ac:c.length<=1048576)(ha:∀n∈a,Mid n)(hc:∀n∈c,Mid n):
   PC prog 218 [.sl (a.map bN),.sl (c.map bN)] (.tup [int (yS a c).1,int (yS a c).2]):=by
 refine pcd Tryz.func218 ?_;unfold Tryz.f218;simp only[gdS];simp only[go_sem];refine aB (fun hb=>?_) (fun hb=>?_)
 . have hb:a.length≠c.length:=neN hb
   simp only[go_sem];rw[show yS a c=(0,2)from if_pos hb];exact .refl _
 have hb:a.length=c.length:=eqN hb;have e0:yS a c=if c.any (fun n=>decide (n<0))=true then(0,2)else tG a c 0:=if_neg (by simp[hb])
 rw[e0];simp only[go_sem,Xaa];refine⟨fun ρ H=>∃(k:Nat),k<=c.length/\ρ 0=.sl (a.map bN)/\ρ 1=.sl (c.map bN)/\ρ 17=.sl (c.map bN)/\ρ 18=int (c.length:Nat)/\ρ 19=int k/\(∀n∈c.take k,0<=n),fun ρ _=>c.length-aV (ρ 19),⟨0,Xac _,by simp only[go_sem],by simp only[go_sem],by simp only[go_sem],by simp only[go_sem,Xaa],(by simp only[go_sem];rfl),by simp⟩,?_⟩;rintro ρ H ⟨k,hk,e0,J,E,F,I,hz⟩;simp only[go_sem,e0,J,E,F,I];refine aB (fun u=>?_) (fun M=>?_)
 . have u:=ltB u
   obtain⟨n,hn⟩:=aN u;have b1:=inB u;simp only[go_sem,e0,J,E,F,I,aE hn,b1];refine aB (fun hd=>?_) (fun hd=>?_)
   . simp only[go_sem]
     rw[if_pos (Dk hn hd)];exact .refl _
   . simp only[go_sem,e0,J,E,F,I,aP (show k<=4611686018427387904 by omega)]
     exact⟨⟨k+1,u,rfl,kK hn (by simpa using hd) hz⟩,by simp only[aF];omega⟩
 have M:=geB hk M;subst M;rw[Xag]at hz;rw[if_neg (by rw[Au fun n hn=>by simpa using hz n hn];simp)];simp only[go_sem,e0,J,E,F,I,Xaa];refine⟨fun ρ H=>∃(k:Nat) (t:Int),k<=a.length/\ρ 1=.sl (c.map bN)/\ρ 26=.sl (a.map bN)/\ρ 27=int (a.length:Nat)/\ρ 28=int k/\ρ 8=int t/\tG a c 0=tG (a.drop k) (c.drop k) t,fun ρ _=>a.length-aV (ρ 28),⟨0,0,Xac _,by simp only[go_sem,e0,J,E,F,I],by simp only[go_sem,e0,J,E,F,I],by simp only[go_sem,Xaa,e0,J,E,F,I],(by simp only[go_sem,e0,J,E,F,I];rfl),by simp only[go_sem],rfl⟩,?_⟩;rintro ρ H ⟨k,t,hk,J,T,O,Z,e8,hi⟩;simp only[go_sem,J,T,O,Z,e8];refine aB (fun u=>?_) (fun M=>?_)
 . have u:=ltB u
   obtain⟨n,hn⟩:=aN u;obtain⟨m,hm⟩:=aN (l:=c) (k:=k) (by omega);have b1:=inB u;have b2:=inB (show k<c.length by omega);have ab:=ha n (Xae hn);have aa:=hc m (Xae hm);have ad:=hz m (Xae hm);unfold Mid at ab aa;rw[xH hn,xH hm,tG]at hi;simp only[go_sem,J,T,O,Z,e8,aE hn,aE hm,b1,b2];refine aB (fun hd=>?_) (fun hd=>?_)
   . rw[if_pos (by simpa using hd)]at hi
     simp only[go_sem,J,T,O,Z,e8,aP (show k<=4611686018427387904 by omega)];exact⟨⟨k+1,t,u,rfl,rfl,hi⟩,by simp only[aF];omega⟩
   have hd:¬n<=0:=by simpa using hd
   rw[if_neg hd]at hi;simp only[go_sem,J,T,O,Z,e8];refine aB (fun h0=>?_) (fun h0=>?_)
   . rw[if_pos (by simpa using h0)]at hi
     rw[hi];simp only[go_sem];exact .refl _
   have h0:m≠0:=by simpa using h0
   rw[if_neg h0]at hi;have w1:IntKind.i64.wrap (n+m)=n+m:=bA (by omega);have w2:IntKind.i64.wrap (n+m-1)=n+m-1:=bA (by omega);have w3:IntKind.i64.wrap ((n+m-1).tdiv m)=(n+m-1).tdiv m:=bA (by
     have h1:=Int.tdiv_nonneg (a:=n+m-1) (b:=m) (by omega) (by omega);have h2:=Int.tdiv_le_self m (a:=n+m-1) (by omega);omega)
   simp only[go_sem,J,T,O,Z,e8,w1,w2,w3,aP (show k<=4611686018427387904 by omega)];exact⟨h0,⟨k+1,_,u,rfl,rfl,hi⟩,by simp only[aF];omega⟩
 . have M:=geB hk M
   subst M;have ea:a.drop a.length=[]:=Xbw;have:tG a c 0=(t,0):=by rw[hi,ea];unfold tG;rfl
   rw[this];simp only[go_sem,J,T,O,Z,e8];exact .refl _
def yY(l:List Order)(dim:Nat)(i:Int):Int:=(qV l i).load.getD dim 0
def iN(l:List Order)(ms:List Int)(dim:Nat):Int:=(ms.map (yY l dim)).sum
def oD(l:List VType)(dim:Nat):Int:=l.foldl (fun c t=>jW c (t.cap.getD dim 0)) 0
def Ip(x:Instance)(ms:List Int)(dim:Nat):Int:=if(yS [iN x.orders ms dim] [oD x.types dim]).2≠0 then 0 else(yS [iN x.orders ms dim] [oD x.types dim]).1
structure LoadsOk(x:Instance)(d:Nat):Prop where
 dims:d<=3
 orders:x.orders.length<=62
 types:x.types.length<=1048576
 load:∀o∈x.orders,o.load.length=d/\∀n∈o.load,0<=n/\n<=1000
 cap:∀t∈x.types,t.cap.length=d/\∀n∈t.cap,0<=n/\n<=1000
theorem Gh{x:Instance}{d dim:Nat}(h:LoadsOk x d)(J:dim<d){i:Int}(F:0<=i/\i<(x.orders.length:Int)):0<=yY x.orders dim i/\yY x.orders dim i<=1000:=by
 obtain⟨n,rfl⟩:=Int.eq_ofNat_of_zero_le F.1;obtain⟨o,u⟩:=aN (show n<x.orders.length by omega);unfold yY;rw[wU u];obtain⟨h1,I⟩:=h.load o (Xae u);obtain⟨v,E⟩:=aN (show dim<o.load.length by omega);rw[List.getD,E];exact I v (Xae E)
theorem zA{x:Instance}{d dim:Nat}(h:LoadsOk x d)(u:dim<d):∀{ms:List Int},T9 x.orders ms->0<=iN x.orders ms dim/\iN x.orders ms dim<=1000*ms.length
 | [],_=>by simp[iN]
 | i::ms,hm=>by
   have h1:=Gh h u (hm i (by simp));have F:=zA h u (ms:=ms) fun j E=>hm j (by simp[E])
   unfold iN at F |-;rw[Xar,List.sum_cons,Xad];omega
theorem Ja(l:List Order)(ms:List Int)(i:Int)(dim:Nat):iN l (ms++[i]) dim=iN l ms dim+yY l dim i:=by simp[iN]
theorem Cv(l:List VType)(t:VType)(dim:Nat):oD (l++[t]) dim=jW (oD l dim) (t.cap.getD dim 0):=by simp[oD]
theorem Yg{a b c:Int}(h1:0<=a/\a<=c)(u:0<=b/\b<=c):0<=jW a b/\jW a b<=c:=by unfold jW;split <;> omega
theorem Hc{x:Instance}{d dim:Nat}(h:LoadsOk x d)(J:dim<d):∀k,0<=oD (x.types.take k) dim/\oD (x.types.take k) dim<=1000
 | 0=>by simp[oD]
 | k+1=>by
   have ih:=Hc h J k;rcases Xaw k x.types.length with F|F
   . obtain⟨t,u⟩:=aN F
     rw[bQ u,Cv];obtain⟨h1,I⟩:=h.cap t (Xae u);obtain⟨v,E⟩:=aN (show dim<t.cap.length by omega);refine Yg ih ?_;rw[List.getD,E];exact I v (Xae E)
   . rw[Xan (by omega)]at ih |-;exact ih
theorem YL(x:Instance)(ms:List Int)(dim d:Nat)(h:LoadsOk x d)(hd:dim<d)(hm:T9 x.orders ms)(hl:ms.length<=63):
   PC prog 155 [.agg (aH x),.sl (ms.map bN),int dim] (int (Ip x ms dim)):=by
 have al:=h.orders;have am:=h.types;refine pcd Tryz.func155 ?_;unfold Tryz.f155;simp only[gdS];simp only[go_sem];refine⟨fun ρ H=>∃(k:Nat),k<=ms.length/\ρ 2=int dim/\ρ 3=.rp (aH x) 0/\ρ 8=int 0/\ρ 15=.sl (ms.map bN)/\ρ 16=int (ms.length:Nat)/\ρ 17=int k/\ρ 7=int (iN x.orders (ms.take k) dim),fun ρ _=>ms.length-aV (ρ 17),⟨0,Xac _,by simp only[go_sem],by simp only[go_sem],by simp only[go_sem],by simp only[go_sem],by simp only[go_sem,Xaa],(by simp only[go_sem];rfl),by simp only[go_sem];rfl⟩,?_⟩;rintro ρ H ⟨k,hk,Z,e3,J,E,I,F,M⟩;simp only[go_sem,Z,e3,J,E,I,F,M];refine aB (fun u=>?_) (fun O=>?_)
 . have u:=ltB u
   obtain⟨i,hi⟩:=aN u;have b1:=inB u;have ag:=hm i (Xae hi);have an:=Gh h hd ag;have ar:=zA h hd (ms:=ms.take k) fun j hj=>hm j (List.mem_of_mem_take hj)
   have ae:=Ja x.orders (ms.take k) i dim;rw[<-bQ hi]at ae;obtain⟨n,rfl⟩:=Int.eq_ofNat_of_zero_le ag.1;have hn:n<x.orders.length:=by omega
   obtain⟨o,ad⟩:=aN hn;obtain⟨ao,aq⟩:=h.load o (Xae ad);obtain⟨v,hv⟩:=aN (show dim<o.load.length by omega);have aj:yY x.orders dim (n:Int)=v:=by unfold yY;rw[wU ad,List.getD,hv];rfl
   have b2:=inB hn;have b3:=inB (show dim<o.load.length by omega);have ap:(ms.take k).length<=63:=by rw[Xal];omega
   have w1:IntKind.i64.wrap (iN x.orders (ms.take k) dim+v)=iN x.orders (ms.take (k+1)) dim:=by rw[ae,aj,bA (by omega)]
   simp only[go_sem,Z,e3,J,E,I,F,M,aE hi,b1,aE ad,b2,aE hv,b3,w1,aP (show k<=4611686018427387904 by omega)];exact⟨⟨k+1,u,rfl,rfl⟩,by simp only[aF];omega⟩
 have O:=geB hk O;subst O;rw[Xag]at M;simp only[go_sem,Z,e3,J,E,I,F,M,Xaa];refine⟨fun ρ H=>∃(k:Nat),k<=x.types.length/\ρ 2=int dim/\ρ 7=int (iN x.orders ms dim)/\ρ 34=.sl (x.types.map bB)/\ρ 35=int (x.types.length:Nat)/\ρ 36=int k/\ρ 8=int (oD (x.types.take k) dim),fun ρ _=>x.types.length-aV (ρ 36),⟨0,Xac _,by simp only[go_sem,Z,e3,J,E,I,F,M],by simp only[go_sem,Z,e3,J,E,I,F,M],by simp only[go_sem,Z,e3,J,E,I,F,M],by simp only[go_sem,Xaa,Z,e3,J,E,I,F,M],(by simp only[go_sem,Z,e3,J,E,I,F,M];rfl),by simp only[go_sem,J];rfl⟩,?_⟩;rintro ρ H ⟨k,hk,Z,M,ab,aa,ac,J⟩;simp only[go_sem,Z,M,ab,aa,ac,J];refine aB (fun u=>?_) (fun O=>?_)
 . have u:=ltB u
   obtain⟨t,ht⟩:=aN u;have b1:=inB u;obtain⟨h1,h2⟩:=h.cap t (Xae ht);obtain⟨v,hv⟩:=aN (show dim<t.cap.length by omega);have b3:=inB (show dim<t.cap.length by omega);simp only[go_sem,Z,M,ab,aa,ac,J,aE ht,b1];refine aM fun j ak=>?_
   simp only[go_sem,Z,M,ab,aa,ac,J,aE ht,b1];refine aJ (aA _ _ _) (by simp[jB]) ?_;generalize af:aI (aI _ j _) j _=HGj;have R:HGj j=some (jS t):=by rw[<-af,aA];try rfl
   clear af ak;simp only[go_sem,Z,M,ab,aa,ac,J,aE ht,b1,R];simp only[go_sem,Z,M,ab,aa,ac,J,aE hv,b3,aP (show k<=4611686018427387904 by omega)];refine⟨⟨k+1,u,rfl,?_⟩,by simp only[aF];omega⟩;rw[bQ ht,Cv,List.getD,hv];rfl
 have O:=geB hk O;subst O;rw[Xag]at J;have hL:=zA h hd hm;have hC:=Hc h hd x.types.length;rw[Xag]at hC;simp only[go_sem,Z,M,ab,aa,ac,J];have ah:∀n∈[iN x.orders ms dim],Mid n:=fun n hn=>by rw[Xat.1 hn];unfold Mid;omega
 have ai:∀n∈[oD x.types dim],Mid n:=fun n hn=>by rw[Xat.1 hn];unfold Mid;omega
 refine PC.use (Vw [iN x.orders ms dim] [oD x.types dim] (by simp) (by simp) ah ai) ?_;unfold Ip;generalize yS [iN x.orders ms dim] [oD x.types dim]=T;simp only[go_sem];refine aB (fun hb=>?_) (fun hb=>?_)
 . simp only[go_sem]
   rw[if_pos (by simpa using hb)];exact .refl _
 . simp only[go_sem]
   rw[if_neg (by simpa using hb)];exact .refl _
theorem Ab{n:Nat}{set:Int}(h:uY n set=true):∃s:Nat,set=(s:Int)/\s<2^n:=by
 unfold uY at h;simp only[Xap,decide_eq_true_eq,beq_iff_eq]at h;obtain⟨s,rfl⟩:=Int.eq_ofNat_of_zero_le h.1;refine⟨s,rfl,?_⟩;have F:((2:Int)^n)=((2^n:Nat):Int):=by norm_cast
 have u:=h.2;rw[F]at u;have E:s/2^n=0:=by exact_mod_cast u
 exact(Nat.div_eq_zero_iff_lt (Nat.two_pow_pos n)).1 E
theorem YT{s n:Nat}(h:s<2^n)(T:n<=62):∀i∈fR (s:Int),0<=i/\i<(n:Int):=by
 intro i I;unfold fR qF at I;obtain⟨j,J,rfl⟩:=List.mem_map.1 I;obtain⟨F,u⟩:=List.mem_filter.1 J;have M:=Xaz.1 F;rw[sH (by omega)]at u;refine⟨by omega,?_⟩;rcases Xaw j n with O|E
 . omega
 . rw[Nat.testBit_lt_two_pow (Xbn h (Xav (by decide) E))]at u
   cases u
def Q3(x:Instance)(ms:List Int)(k:Nat):Int:=(List.range k).foldl (fun n dim=>jW n (Ip x ms dim)) 1
theorem RA(x:Instance)(ms:List Int)(k:Nat):Q3 x ms (k+1)=jW (Q3 x ms k) (Ip x ms k):=by unfold Q3;rw[Xbk,List.foldl_append];rfl
def abH(x:Instance)(set:Int):Bool:=decide (set<=0)|| !uY x.orders.length set|| !decide (set.toNat &&& Lt x=set.toNat)
def Ei(x:Instance)(d:Nat)(set:Int):Int:=if abH x set=true then 0 else if afH x (fR set)=false then 1 else Q3 x (fR set) d
theorem TQ(q:Order->Bool)(l:List Order):KP q l<2^l.length:=AJ _ _
theorem UN(x:Instance)(d:Nat)(set:Int)(h:LoadsOk x d)(ht:x.types≠[]):PC prog 94 [.agg (aH x),int set] (int (Ei x d set)):=by
 have u:=h.orders;have af:=h.dims;have ad:Lt x<2^x.orders.length:=TQ _ _;have ae:2^x.orders.length<=2^62:=Xav (by decide) u;refine pcd Tryz.func94 ?_;unfold Tryz.f94;simp only[gdS];simp only[go_sem];refine⟨_,fun _=>(HY x set u).q rfl,?_⟩;simp only[go_sem];refine⟨_,fun _=>(adB x u).q rfl,?_⟩;simp only[go_sem];refine⟨boo (decide (set.toNat &&& Lt x=set.toNat)),fun hg=>?_,?_⟩
 . simp at hg
   obtain⟨s,rfl,hs⟩:=Ab hg.2;exact(Tj s (Lt x) (by omega) (by omega)).q rfl
 simp only[go_sem];refine aB (fun E=>?_) (fun E=>?_)
 . simp only[go_sem]
   rw[show Ei x d set=0 from if_pos E];exact .refl _
 have e0:Ei x d set=if afH x (fR set)=false then 1 else Q3 x (fR set) d:=if_neg (by unfold abH;rw[E];simp)
 rw[e0];obtain⟨s,rfl,hs⟩:=Ab (n:=x.orders.length) (set:=set) (by simp at E;exact E.1.2);have hm:T9 x.orders (fR (s:Int)):=YT hs u;have aa:(fR (s:Int)).length<=63:=pS _ _;simp only[go_sem];refine PC.use (lR s) ?_;simp only[go_sem];refine PC.use (OG x (fR s) hm (by omega)) ?_;simp only[go_sem];obtain⟨t,r,F⟩:=List.exists_cons_of_ne_nil ht;have T:((x.types.length:Int) == 0)=false:=by rw[F];rw[beq_eq_false_iff_ne];simp;omega
 simp only[go_sem,Xaa,T];refine aB (fun E=>?_) (fun E=>?_)
 . simp only[go_sem]
   rw[if_pos (by simpa using E)];exact .refl _
 rw[if_neg (by simpa using E)];have b1:=inB (show 0<x.types.length by rw[F];simp);have ac:x.types[0]?=some t:=by rw[F];rfl
 have ab:=aE (f:=bB) ac;have hd:=(h.cap t (by rw[F];simp)).1;subst hd;simp only[go_sem,Xaa,ab];refine⟨by omega,?_⟩;refine⟨fun ρ H=>∃(k:Nat),k<=t.cap.length/\ρ 2=.rp (aH x) 0/\ρ 6=.sl ((fR s).map bN)/\ρ 41=int (t.cap.length:Nat)/\ρ 42=int k/\ρ 5=int (Q3 x (fR s) k),fun ρ _=>t.cap.length-aV (ρ 42),⟨0,Xac _,by simp only[go_sem],by simp only[go_sem],by simp only[go_sem,Xaa],(by simp only[go_sem];rfl),by simp only[go_sem];rfl⟩,?_⟩;rintro ρ H ⟨k,hk,e2,e6,M,I,Z⟩;simp only[go_sem,e2,e6,M,I,Z];refine aB (fun J=>?_) (fun O=>?_)
 . have J:=ltB J
   simp only[go_sem,e2,e6,M,I,Z];refine PC.use (YL x (fR s) k _ h J hm aa) ?_;simp only[go_sem,e2,e6,M,I,Z,aP (show k<=4611686018427387904 by omega)];exact⟨⟨k+1,J,rfl,by rw[RA]⟩,by simp only[aF];omega⟩
 . have O:=geB hk O
   subst O;simp only[go_sem,e2,e6,M,I,Z];exact .refl _
def rN(x:Instance)(d:Nat)(one:Cut):Int:=
 if one.kind=1 then(if(!uY x.orders.length one.set|| !((xZ 63 one.set.toNat:Nat):Int) == 3)=true then 2 else if one.n≠1 then 27 else 0)
 else if one.kind=2 then(if(!uY x.orders.length one.set||one.set == 0)=true then 2 else if(decide (one.n<1)||decide (one.n>Ei x d one.set))=true then 27 else 0)
 else 8
theorem Wf(x:Instance)(d:Nat)(u:Cut)(h:LoadsOk x d)(O:x.types≠[]):PC prog 56 [.agg (aH x),.agg (dX u)] (int (rN x d u)):=by
 have F:=h.orders;refine pcd Tryz.func56 ?_;unfold Tryz.f56;simp only[gdS];simp only[go_sem];unfold rN;refine aB (fun h1=>?_) (fun h1=>?_)
 . rw[if_pos (by simpa using h1)]
   simp only[go_sem];refine PC.use (HY x u.set F) ?_;simp only[go_sem];refine⟨int (xZ 63 u.set.toNat:Nat),fun J=>?_,?_⟩
   . simp at J
     obtain⟨s,M,_⟩:=Ab J;rw[M];exact(VD s).q rfl
   simp only[go_sem];refine aB (fun E=>?_) (fun E=>?_)
   . rw[if_pos (by exact E)]
     simp only[go_sem];exact .refl _
   rw[if_neg (by rw[show(!uY x.orders.length u.set|| !((xZ 63 u.set.toNat:Nat):Int) == 3)=false from E];simp)];simp only[go_sem];refine aB (fun E=>?_) (fun E=>?_)
   . rw[if_pos (by simpa using E)]
     simp only[go_sem];exact .refl _
   . rw[if_neg (by simpa using E)]
     simp only[go_sem];exact .refl _
 rw[if_neg (by simpa using h1)];simp only[go_sem];refine aB (fun I=>?_) (fun I=>?_)
 . rw[if_pos (by simpa using I)]
   simp only[go_sem];refine PC.use (HY x u.set F) ?_;simp only[go_sem];refine aB (fun E=>?_) (fun E=>?_)
   . rw[if_pos (by exact E)]
     simp only[go_sem];exact .refl _
   rw[if_neg (by rw[show(!uY x.orders.length u.set||u.set == 0)=false from E];simp)];simp only[go_sem];refine dA (by rfl) (by kernel_rfl) ?_;simp only[go_sem];refine⟨_,fun _=>(UN x d u.set h O).q rfl,?_⟩;simp only[go_sem];refine aB (fun E=>?_) (fun E=>?_)
   . rw[if_pos (by exact E)]
     simp only[go_sem];exact .refl _
   . rw[if_neg (by rw[show(decide (u.n<1)||decide (u.n>Ei x d u.set))=false from E];simp)]
     simp only[go_sem];exact .refl _
 . rw[if_neg (by simpa using I)]
   simp only[go_sem];exact .refl _
def IC(one:Cut):Int×Int:=if one.kind=1 then(1,1)else if one.kind=2 then(3,one.n)else(0,0)
theorem afU(u:Cut):PC prog 157 [.agg (dX u)] (.tup [int (IC u).1,int (IC u).2]):=by
 refine pcd Tryz.func157 ?_;unfold Tryz.f157;simp only[gdS];simp only[go_sem];unfold IC;refine aB (fun h1=>?_) (fun h1=>?_)
 . rw[if_pos (by simpa using h1)]
   simp only[go_sem];exact .refl _
 rw[if_neg (by simpa using h1)];simp only[go_sem];refine aB (fun E=>?_) (fun E=>?_)
 . rw[if_pos (by simpa using E)]
   simp only[go_sem];refine dA (by rfl) (by kernel_rfl) ?_;simp only[go_sem];exact .refl _
 . rw[if_neg (by simpa using E)]
   simp only[go_sem];exact .refl _
end Go.Proofs.YtohmomanmikphaaGreatDoor.Nu
end
section
namespace Go.Proofs.YtohmomanmikphaaGreatDoor.Nu
open Go.Aw Go.Aw.D Go.Proofs Ty Go.Nu
def rD(l:List Int):List AV:=[.sl (l.map bN)]
end Go.Proofs.YtohmomanmikphaaGreatDoor.Nu
end
section
namespace Go.Proofs.YtohmomanmikphaaGreatDoor.Nu
open Go.Aw Go.Aw.D Go.Proofs Ty Go.Nu Go.So
structure Broken where
 cut:Cut
 by_:ByteArray
def GP(x:Broken):List AV:=[.v (.int .i64 x.cut.kind),.v (.int .i64 x.cut.set),.v (.int .i64 x.cut.n),.v (.string x.by_)]
abbrev mQ(gf:Nat):AV:=.v (.func (.func gf) #[] #[])
end Go.Proofs.YtohmomanmikphaaGreatDoor.Nu
end
section
namespace Go.Proofs.YtohmomanmikphaaGreatDoor.Nu
open Go.Proofs.Tryz(prog)
open Go.Aw Go.Aw.D Go.Proofs Ty Go.Nu Go.So
abbrev TB:=Broken×Nat
def fs(L:List TB):List Broken:=L.map Prod.fst
structure CmpOk(gf:Nat)(lt:Broken->Broken->Bool)(ok:Broken->Prop):Prop where
 call:aC Tryz.prog gf=true
 cmp:∀x y,ok x->ok y->∃n:Int,decide (n<0)=lt x y/\PC Tryz.prog gf [.agg (GP x),.agg (GP y)] (int n)
end Go.Proofs.YtohmomanmikphaaGreatDoor.Nu
end
section
namespace Go.Proofs.YtohmomanmikphaaGreatDoor.Nu
open Go.Aw Go.Aw.D Go.Proofs Ty Go.Nu Go.So
section
variable{gf:Nat}{lt:Broken->Broken->Bool}{ok:Broken->Prop}
end
end Go.Proofs.YtohmomanmikphaaGreatDoor.Nu
end
section
namespace Go.Proofs.YtohmomanmikphaaGreatDoor.Nu
open Go.Aw Go.Aw.D Go.Proofs Ty Go.Nu Go.So
section
variable{gf:Nat}{lt:Broken->Broken->Bool}{ok:Broken->Prop}
end
end Go.Proofs.YtohmomanmikphaaGreatDoor.Nu
end
section
namespace Go.Proofs.YtohmomanmikphaaGreatDoor.Dec
open Go.Proofs.Tryz(prog)
open Go.Aw Go.Aw.D Go.Proofs Ty
theorem bW{H:aG}{k:IntKind}{a b:Int}(h:a=b):Conv H (.v (.int k a)) (.v (.int k b)):=h▸.refl _
theorem cN{H:aG}{a b:Bool}(h:a=b):Conv H (.v (.bool a)) (.v (.bool b)):=h▸.refl _
def wB(x:Instance)(n:Int):Bool:=decide (n>=0)&&decide (n<(x.orders.length:Int))
theorem DY(x:Instance)(n:Int):PC prog 115 [int n,.rp (aH x) 0] (boo (wB x n)):=by
 refine pcd Tryz.func115 ?_;unfold Tryz.f115;simp only[gdS];simp only[go_sem];exact .refl _
def dO(x:Instance)(d:Decision):Int:=
 if d.kind=1\/d.kind=2 then(if wB x d.a&&wB x d.b&&d.a != d.b then 0 else 2)
 else if d.kind=5\/d.kind=6 then(if wB x d.a then 0 else 2)
 else if d.kind=3\/d.kind=4 then(if decide (d.a>=0)&&decide (d.a<(x.types.length:Int))&&decide (d.n>=0)&&decide (d.n<=10)then 0 else 2)
 else 8
theorem HK(x:Instance)(d:Decision):PC prog 66 [.agg (aH x),.agg (aW d)] (int (dO x d)):=by
 refine pcd Tryz.func66 ?_;unfold Tryz.f66;simp only[gdS];simp only[go_sem]
 repeat' (first|(refine PC.use (DY _ _) ?_)|(refine⟨_,fun _=>PC.q (DY _ _) rfl,?_⟩)|(refine⟨_,PC.q (DY _ _) rfl,?_⟩)|(refine aB (fun u=>?_) (fun u=>?_))|(simp only[go_sem]))
 all_goals (refine bW ?_;(try unfold dO);generalize wB x d.a=p at *;generalize wB x d.b=q at *;cases p <;> cases q <;> simp_all <;> (try omega))
def gG:List Int->Int
 | []=>0
 | e::r=>if e != 0 then e else gG r
theorem uB{l:List Int}{k:Nat}{e:Int}(h:∀e∈l.take k,e=0)(u:l[k]?=some e)(F:(e != 0)=true):gG l=e:=by
 induction l generalizing k with
 | nil=>simp at u
 | cons a r ih=>
   cases k with
   | zero=>simp at u;subst u;simp only[gG];rw[if_pos F]
   | succ k=>
     have h0:=h a (by simp);subst h0;simp only[gG];exact ih (k:=k) (fun e E=>h e (by simp[E])) (by simpa using u)
theorem rR{l:List Int}(h:∀e∈l,e=0):gG l=0:=by
 induction l with
 | nil=>rfl
 | cons a r ih=>have h0:=h a (by simp);subst h0;simp only[gG];exact ih fun e u=>h e (by simp[u])
theorem rS{l:List Int}(h:gG l=0):∀e∈l,e=0:=by
 induction l with
 | nil=>simp
 | cons a r ih=>
   simp only[gG]at h;split at h
   . rename_i u;simp at u;exact absurd h u
   . rename_i u;simp at u;intro e E;rcases List.mem_cons.1 E with rfl|E;exact u;exact ih h e E
def mW(x:Instance)(l:List Decision):Int:=if decide ((l.length:Int)>1024)then 4 else gG (l.map (dO x))
theorem abC(x:Instance)(l:List Decision)(hl:l.length<=1048576):PC prog 35 [.agg (aH x),.sl (l.map aW)] (int (mW x l)):=by
 refine pcd Tryz.func35 ?_;unfold Tryz.f35;simp only[gdS];simp only[go_sem];refine aB (fun M=>?_) (fun M=>?_)
 . simp only[go_sem]
   exact bW (by unfold mW;rw[if_pos M])
 . have hc:mW x l=gG (l.map (dO x)):=by unfold mW;rw[if_neg (by rw[M];simp)]
   rw[hc];simp only[go_sem];refine⟨fun ρ _=>∃k:Nat,k<=l.length/\ρ 2=.rp (aH x) 0/\ρ 11=.sl (l.map aW)/\ρ 12=int l.length/\ρ 13=int k/\∀e∈(l.map (dO x)).take k,e=0,fun ρ _=>l.length-aV (ρ 13),⟨0,Xac _,rfl,rfl,rfl,rfl,by simp⟩,?_⟩;rintro ρ H ⟨k,hk,T,E,u,F,hz⟩;simp only[go_sem,T,E,u,F];refine aB (fun I=>?_) (fun J=>?_)
   . have I:=aZ I
     obtain⟨d,Z⟩:=aN I;have b1:=inB I;simp only[go_sem,T,E,u,F,aE Z,b1];refine aM fun j hj=>?_
     simp only[go_sem,T,E,u,F,aE Z,b1];refine aJ (aA _ _ _) (by simp[jK]) ?_;simp only[go_sem,T,E,u,F,aE Z,b1];refine PC.use (HK x d) ?_;simp only[go_sem,T,E,u,F];refine aB (fun M=>?_) (fun M=>?_)
     . simp only[go_sem]
       exact bW (uB hz (by simp[Z]) M).symm
     . simp only[go_sem,T,E,u,F,aP (show k<=4611686018427387904 by omega)]
       refine⟨⟨k+1,I,rfl,?_⟩,by simp only[aF];omega⟩;rw[bQ (x:=dO x d) (by simp[Z])];intro e O;rcases Xba.1 O with O|O
       . exact hz e O
       . simp at O;subst O;simpa using M
   . have J:=bC hk J
     subst J;simp only[go_sem];exact bW (rR (by rw[Xan (by simp)]at hz;exact hz)).symm
theorem T2(x:Int):qI .and .i64 x 1=x%2:=by
 have h:((BitVec.ofInt 64 x &&& BitVec.ofInt 64 1).toNat:Int)=x%2:=by
   rw[BitVec.toNat_and,BitVec.toNat_ofInt,BitVec.toNat_ofInt];have:((1:Int)%((2^64:Nat):Int)).toNat=1:=by decide
   rw[this,Nat.and_one_is_mod];omega
 refine Eq.trans (congrArg IntKind.i64.wrap h) ?_;exact bA (by omega)
theorem rT{x:Int}{i:Nat}(h:i<=62):shV .shr .i64 x (i:Int)=x/2^i:=by
 show x.fdiv (2^min ((i:Int)).toNat 64)=_;have:min ((i:Int)).toNat 64=i:=by omega
 rw[this,Xcf _ (by exact Int.le_of_lt (Int.pow_pos (by decide)))]
def dH(set i:Int):Bool:=decide (i>=0)&&decide (i<=62)&&((set/2^i.toNat)%2 == 1)
theorem Cl(set i:Int):PC prog 121 [int set,int i] (boo (dH set i)):=by
 refine pcd Tryz.func121 ?_;unfold Tryz.f121;simp only[gdS];simp only[go_sem];refine⟨fun h=>?_,?_⟩
 . simp at h;omega
 . refine cN ?_
   unfold dH;rw[T2];by_cases h:0<=i/\i<=62
   . obtain⟨h0,h1⟩:=h
     have e:=rT (x:=set) (i:=i.toNat) (by omega);rw[Int.toNat_of_nonneg h0]at e;rw[e]
   . have:(decide (i>=0)&&decide (i<=62))=false:=by simp;omega
     rw[this];rfl
def jV(set i:Int):Bool:=(set/2^i.toNat)%2 == 1
theorem lG(set i:Int)(O:0<=set)(T:set<=9223372036854775807)(hi:i<=9223372036854775807):PC prog 83 [int set,int i] (boo (jV set i)):=by
 refine pcd Tryz.func83 ?_;unfold Tryz.f83;simp only[gdS];simp only[go_sem];refine⟨fun ρ _=>∃k:Nat,(k:Int)<=max i 0/\ρ 1=int i/\ρ 5=int k/\ρ 0=int (set/2^k),fun ρ _=>i.toNat-aV (ρ 5),⟨0,by omega,rfl,rfl,by simp[Bg,upd]⟩,?_⟩;rintro ρ H ⟨k,hk,h1,M,h0⟩;have u:0<=set/2^k:=Int.ediv_nonneg O (Int.le_of_lt (Int.pow_pos (by decide)));simp only[go_sem,h1,M,h0];refine aB (fun F=>?_) (fun E=>?_)
 . have F:(k:Int)<i:=by simpa using F
   have Z:IntKind.i64.wrap ((k:Int)+1)=((k+1:Nat):Int):=by rw[bA (by omega)];omega
   simp only[go_sem,h1,M,h0,Z,aF];refine⟨by omega,⟨k+1,by omega,rfl,?_⟩,by omega⟩;rw[Xcc u,Int.pow_succ,<-Int.ediv_ediv_of_nonneg (Int.le_of_lt (Int.pow_pos (by decide)))];have J:set/2^k<=set:=Int.ediv_le_self _ O;generalize set/2^k=m at u J;exact congrArg (fun z=>AV.v (Value.int .i64 z)) (bA (by omega))
 . have E:i<=(k:Int):=by simpa using E
   have I:k=i.toNat:=by omega
   subst I;simp only[go_sem,h1,M,h0];refine⟨by omega,cN ?_⟩;rw[Xce u];rfl
def eQ(d:Decision)(set:Int):Bool:=
 if d.kind=1 then dH set d.a == dH set d.b else if d.kind=2 then !dH set d.a|| !dH set d.b else if d.kind=6 then !dH set d.a else true
theorem Xk(d:Decision)(set:Int):PC prog 69 [.agg (aW d),int set] (boo (eQ d set)):=by
 refine pcd Tryz.func69 ?_;unfold Tryz.f69;simp only[gdS];simp only[go_sem];refine dA (by rfl) (by kernel_rfl) ?_
 repeat' (first|(refine PC.use (Cl _ _) ?_)|(refine⟨_,fun _=>PC.q (Cl _ _) rfl,?_⟩)|(refine⟨_,PC.q (Cl _ _) rfl,?_⟩)|(refine aB (fun u=>?_) (fun u=>?_))|(simp only[go_sem]))
 all_goals (refine cN ?_;unfold eQ;simp_all)
def dE(d:Decision)(set:Int):Bool:=
 if d.kind=1 then jV set d.a != jV set d.b else if d.kind=2 then jV set d.a&&jV set d.b else if d.kind=6 then jV set d.a else false
def tU(d:Decision):Prop:=xM 0 d
theorem Rv(d:Decision)(set:Int)(M:tU d)(F:0<=set)(u:set<=9223372036854775807):PC prog 48 [.agg (aW d),int set] (boo (dE d set)):=by
 have I:d.a<=9223372036854775807:=M.2.1.2;have E:d.b<=9223372036854775807:=M.2.2.1.2;refine pcd Tryz.func48 ?_;unfold Tryz.f48;simp only[gdS];simp only[go_sem];refine aB (fun J=>?_) (fun J=>?_)
 . simp only[go_sem]
   refine dA (by rfl) (by kernel_rfl) ?_
   repeat' (first|(refine PC.use (lG _ _ F u I) ?_)|(refine⟨_,fun _=>PC.q (lG _ _ F u I) rfl,?_⟩)|(refine⟨_,PC.q (lG _ _ F u I) rfl,?_⟩)|(refine PC.use (lG _ _ F u E) ?_)|(refine⟨_,fun _=>PC.q (lG _ _ F u E) rfl,?_⟩)|(refine⟨_,PC.q (lG _ _ F u E) rfl,?_⟩)|(refine aB (fun J=>?_) (fun J=>?_))|(simp only[go_sem]))
   all_goals (refine cN ?_;unfold dE;generalize jV set d.a=p at *;generalize jV set d.b=q at *;cases p <;> cases q <;> simp_all)
 . simp only[go_sem]
   repeat' (first|(refine PC.use (lG _ _ F u I) ?_)|(refine⟨_,fun _=>PC.q (lG _ _ F u I) rfl,?_⟩)|(refine⟨_,PC.q (lG _ _ F u I) rfl,?_⟩)|(refine PC.use (lG _ _ F u E) ?_)|(refine⟨_,fun _=>PC.q (lG _ _ F u E) rfl,?_⟩)|(refine⟨_,PC.q (lG _ _ F u E) rfl,?_⟩)|(refine aB (fun J=>?_) (fun J=>?_))|(simp only[go_sem]))
   all_goals (refine cN ?_;unfold dE;generalize jV set d.a=p at *;generalize jV set d.b=q at *;cases p <;> cases q <;> simp_all)
theorem qU{α:Type}{p:α->Bool}{l:List α}{k:Nat}{x:α}(E:l[k]?=some x)(u:p x=false):l.all p=false:=by
 rw[List.all_eq_false];exact⟨x,Xae E,by simp[u]⟩
theorem wG{α:Type}{p:α->Bool}{l:List α}(h:∀x∈l.take l.length,p x=true):l.all p=true:=by
 rw[Xag]at h;rw[Xao];exact h
theorem qD{α:Type}{p:α->Bool}{l:List α}{k:Nat}{x:α}(F:l[k]?=some x)(E:p x=true)(h:∀x∈l.take k,p x=true):∀x∈l.take (k+1),p x=true:=by
 rw[bQ F];intro y u;rcases Xba.1 u with u|u
 . exact h y u
 . simp at u;subst u;exact E
theorem aT{α:Type}{p:α->Prop}{l:List α}{k:Nat}{x:α}(F:l[k]?=some x)(E:p x)(h:∀x∈l.take k,p x):∀x∈l.take (k+1),p x:=by
 rw[bQ F];intro y u;rcases Xba.1 u with u|u
 . exact h y u
 . simp at u;subst u;exact E
theorem Ve(l:List Decision)(c:Column)(hl:l.length<=1048576):PC prog 39 [.sl (l.map aW),.agg (aS c)] (boo (l.all fun d=>eQ d c.set)):=by
 refine pcd Tryz.func39 ?_;unfold Tryz.f39;simp only[gdS];simp only[go_sem];refine⟨fun ρ _=>∃k:Nat,k<=l.length/\ρ 3=.rp (aS c) 0/\ρ 7=.sl (l.map aW)/\ρ 8=int l.length/\ρ 9=int k/\∀d∈l.take k,eQ d c.set=true,fun ρ _=>l.length-aV (ρ 9),⟨0,Xac _,rfl,rfl,rfl,rfl,by simp⟩,?_⟩;rintro ρ H ⟨k,hk,J,F,I,M,hz⟩;simp only[go_sem,J,F,I,M];refine aB (fun u=>?_) (fun E=>?_)
 . have u:=aZ u
   obtain⟨d,O⟩:=aN u;have T:=inB u;simp only[go_sem,J,F,I,M,aE O,T];refine aM fun j hj=>?_
   simp only[go_sem,J,F,I,M,aE O,T];refine aJ (aA _ _ _) (by simp[jK]) ?_;simp only[go_sem,J,F,I,M,aE O,T];refine PC.use (Xk d _) ?_;simp only[go_sem,J,F,I,M];refine aB (fun Z=>?_) (fun Z=>?_)
   . simp only[go_sem]
     exact cN (qU O (by simpa using Z)).symm
   . simp only[go_sem,J,F,I,M,aP (show k<=4611686018427387904 by omega)]
     exact⟨⟨k+1,u,rfl,qD O (by simpa using Z) hz⟩,by simp only[aF];omega⟩
 . have E:=bC hk E
   subst E;simp only[go_sem];exact cN (wG hz).symm
theorem Nz(l:List Decision)(c:Column)(hl:l.length<=1048576)(O:∀d∈l,tU d)(hs:0<=c.set)(I:c.set<=9223372036854775807):PC prog 21 [.sl (l.map aW),.agg (aS c)] (boo (l.all fun d=> !dE d c.set)):=by
 refine pcd Tryz.func21 ?_;unfold Tryz.f21;simp only[gdS];simp only[go_sem];refine⟨fun ρ _=>∃k:Nat,k<=l.length/\ρ 3=.rp (aS c) 0/\ρ 0=.sl (l.map aW)/\ρ 5=int k/\∀d∈l.take k,dE d c.set=false,fun ρ _=>l.length-aV (ρ 5),⟨0,Xac _,rfl,rfl,rfl,by simp⟩,?_⟩;rintro ρ H ⟨k,hk,J,h0,M,Z⟩;simp only[go_sem,J,h0,M];refine aB (fun u=>?_) (fun E=>?_)
 . have u:=aZ u
   obtain⟨d,F⟩:=aN u;have b1:=inB u;simp only[go_sem];refine dA (by rfl) (by kernel_rfl) ?_;simp only[go_sem,J,h0,M,aE F,b1];refine⟨_,(Rv d _ (O d (Xae F)) hs I).q rfl,?_⟩;refine aB (fun T=>?_) (fun T=>?_)
   . simp only[go_sem]
     exact cN (qU (p:=fun d=> !dE d c.set) F (by simpa using T)).symm
   . simp only[go_sem,J,h0,M,aP (show k<=4611686018427387904 by omega)]
     exact⟨⟨k+1,u,rfl,aT (p:=fun d=>dE d c.set=false) F (by simpa using T) Z⟩,by simp only[aF];omega⟩
 . have E:=bC hk E
   subst E;simp only[go_sem];exact cN (wG fun d F=>by rw[Z d F];rfl).symm
end Go.Proofs.YtohmomanmikphaaGreatDoor.Dec
end
section
namespace Go.Aw.D
open Go.Aw Go.RowKit Go.Proofs Go.Proofs.YtohmomanmikphaaGreatDoor Go.WideShapes Go.ChangeShapes
theorem Xx{H:Type}{e:TypeId×Value->H}{P:Program}{W:World}{t:TypeId}{r:Reach}{J:Nat}{v:Value}{d:DataW H}{M:List MemPlace}(E:P.underlying t=some (.int .i64))
   (u:Value.okWide P W r J t v) (T:DataW.Trod e P W 0 (fun _=>true) true t v d M):∃x:Int,rep (Sw W) W (.v (.int .i64 x)) v/\∀n,BK H d<=n->iL n x:=by
 obtain⟨x,rfl⟩:=okWide_int E u;obtain⟨F,h⟩:=T;obtain⟨n,h1,_,I⟩:=DataW.trod_int E h;have O:(Value.int .i64 x)=.int .i64 n:=by
   have:(Value.cells (.int .i64 x))=#[.int .i64 x]:=rfl;rw[this]at h1;simpa using h1
 cases O;exact⟨x,by simp only[rep],fun _ _=>bounds_i64 I⟩
def H4:List (String×DataW Unit):=[("math/bits.deBruijn32tab",Go.Proofs.YtohmomanmikphaaGreatDoor.Rows.laid_math_bits_deBruijn32tab),("math/bits.deBruijn64tab",Go.Proofs.YtohmomanmikphaaGreatDoor.Rows.laid_math_bits_deBruijn64tab),("internal/strconv.uint64pow10",Go.Proofs.YtohmomanmikphaaGreatDoor.Rows.laid_internal_strconv_uint64pow10)]
theorem Vg:(Go.Proofs.YtohmomanmikphaaGreatDoor.Rows.laid_math_bits_deBruijn64tab:DataW Unit)=Lib.tabData .u8 (Lib.deBruijn64tab.map fun z:Nat=>(z:Int)):=by kernel_rfl
theorem Xj:(Go.Proofs.YtohmomanmikphaaGreatDoor.Rows.laid_internal_strconv_uint64pow10:DataW Unit)=Lib.tabData .u64 Lib.pow10Tab:=by kernel_rfl
theorem Tt{W:World}(h:laidMetH Tryz.prog H4 W):Ir W:=by
 have h0:laidMet Tryz.prog H4 W:=(Go.MakeChecks.laidMetH_plain Tryz.prog H4 W (by kernel_rfl))▸h;have h1:=laidMet.tail h0;have E:=laidMet.tail h1;rw[Vg]at h1;rw[Xj]at E;have b:=Lib.tabIs_of_head (g:=3) (by kernel_rfl) (by kernel_rfl) (t:=394) (e:=5) (n:=64) Tryz.underlying394 Tryz.underlying5 (by kernel_rfl) (by kernel_rfl) h1;have p:=Lib.tabIs_of_head (g:=1) (by kernel_rfl) (by kernel_rfl) (t:=373) (e:=348) (n:=20) Tryz.underlying373 Tryz.underlying348 (by kernel_rfl) (by kernel_rfl) E;unfold Lib.TabIs World.var? at b p;rw[show Tryz.prog.globalNamed "math/bits.deBruijn64tab" = some 3 by kernel_rfl]at b;rw[show Tryz.prog.globalNamed "internal/strconv.uint64pow10" = some 1 by kernel_rfl]at p;intro t u;simp only[SA,List.mem_cons,List.not_mem_nil,or_false]at u;rcases u with rfl|rfl
 . exact p
 . have:N4=((Lib.deBruijn64tab.map fun z:Nat=>(z:Int)).map fun z=>Value.int .u8 z).toArray:=by simp[N4]
   rw[this];exact b
end Go.Aw.D
end
section
namespace Go.Proofs.YtohmomanmikphaaGreatDoor.pricingFewer
open Go.Proofs.Tryz(prog)
open Go.Aw Go.Aw.D Go.Proofs Go.RowKit Go.ChangeShapes Go.WideShapes Go.ChangeAt
def Qq:Prop:=∀(x0:Ask3) (x1:Int),abU 1048576 x0->iL 1048576 x1->PC prog 7 [.agg (gJ x0),.v (.int .i64 x1)] (.v (.bool true))
theorem own:ownKnob prog.godebug=none:=by kernel_rfl
theorem laid:laidOutB prog=true:=by kernel_rfl
theorem Wg:prog.readableRec 35=true/\35<prog.types.size:=⟨by kernel_rfl,by decide +kernel⟩
theorem YG:prog.readableRec 3=true/\3<prog.types.size:=⟨by kernel_rfl,by decide +kernel⟩
theorem T1(hh:Qq)(H:Type)(enc:TypeId×Value->H)(W:World)(I:Nat)(args:Array Value)(ds gs:List (DataW H))(before:List MemPlace)
   (u:∀(j:Nat) t v,Tryz.f7.params[j]?=some t->args[j]?=some v->Value.okWide prog W .any I t v)
   (O:DataW.Whole enc prog Tryz.f7.params.toList Rows.pricingFewerSpec.vars false W args.toList ds gs before) (Z:Rows.uptoSmall H (ds++gs)=true) (E:Ir W):
   Calls prog 7 args W fun e W'=>∃v,e=.returned v/\Rows.pricingFewerSpec.post enc prog Tryz.f7 false true false false W args v W':=by
 have J:=O;obtain⟨p,q,F,hV,rfl,aa,ab⟩:=O;have hA:DataW.TrodAll enc prog W 0 (fun _=>true) true [35,3] args.toList ds p:=F;obtain⟨T,M,d0,d1,p0,p1,rfl,rfl,rfl,h0,h1⟩:=trodAll_two hA;obtain⟨rfl,rfl⟩:=trodVars_none hV;clear F;simp only[List.append_nil]at J Z;have hb:Rows.uptoBulkAll [d0,d1]<=1048576:=of_decide_eq_true Z;simp only[Rows.uptoBulkAll]at hb;obtain⟨x0,r0,b0⟩:=Pk Tryz.underlying35 Yv (u 0 35 T rfl rfl) h0;obtain⟨x1,r1,b1⟩:=Xx Tryz.underlying3 (u 1 3 M rfl rfl) h1;refine(KF (vals:=[T,M]) (hh x0 x1 (b0 _ (by simp only[BK];omega)) (b1 _ (by simp only[BK];omega))) E (by simp only[bF];exact⟨_,_,rfl,r0,⟨_,_,rfl,r1,rfl⟩⟩)).mono fun e W' ⟨he,hg⟩=>?_
 subst he;exact⟨_,rfl,Ry laid (by
   intro t E;have E:t∈[35,3]:=E;simp only[List.mem_cons,List.not_mem_nil,or_false]at E;rcases E with rfl|rfl
   . exact Wg
   . exact YG
   ) rfl Tryz.underlying4 rfl (gs:=[]) (by simpa using J) rfl rfl rfl hg⟩
def cellsOf:DataW Unit->Array Value
 | .agg l=>(l.map fun d=>match d with| .lit (.int k n)=>Value.int k n|_=>undef).toArray
 | _=>#[]
noncomputable def Bq(os:Os):World:=
 let w0:=World.holding prog os ⟨#[],#[],[]⟩
 let put (h:Array Obj) (g:Nat) (cs:Array Value):Array Obj:=h.modify g fun
   | .cells _ t frozen=>.cells cs t frozen
   | o=>o
 let h1:=put w0.heap 2 (cellsOf Rows.laid_math_bits_deBruijn32tab)
 let h2:=put h1 3 (cellsOf Rows.laid_math_bits_deBruijn64tab)
 let h3:=put h2 1 (cellsOf Rows.laid_internal_strconv_uint64pow10)
 { w0 with heap:=h3 }
theorem Wb(os:Os):laidMet prog Rows.pricingFewerUptoRow.laid ((Bq os).forCall (fun _ _=>0) ⟨#[],#[.agg #[.slice none 0 0,.slice none 0 0,.slice none 0 0,.slice none 0 0,.slice none 0 0,.slice none 0 0,.slice none 0 0,.slice none 0 0,.slice none 0 0],.int .i64 0],[]⟩).memory:=
 laidMet_of_run' 8 (by kernel_rfl) (by kernel_rfl)
theorem avJ(os:Os){H:Type}(enc:TypeId×Value->H):∃places,DataW.whole enc prog ((Bq os).forCall (fun _ _=>0) ⟨#[],#[.agg #[.slice none 0 0,.slice none 0 0,.slice none 0 0,.slice none 0 0,.slice none 0 0,.slice none 0 0,.slice none 0 0,.slice none 0 0,.slice none 0 0],.int .i64 0],[]⟩).memory Tryz.f7.params.toList Rows.pricingFewerSpec.vars false (#[.agg #[.slice none 0 0,.slice none 0 0,.slice none 0 0,.slice none 0 0,.slice none 0 0,.slice none 0 0,.slice none 0 0,.slice none 0 0,.slice none 0 0],.int .i64 0]:Array Value).toList 8=some ([.agg [.agg [.agg [.nil,.nil],.nil,.nil,.nil,.nil],.nil,.nil,.nil],.lit (.int .i64 0)],[],places):=
 ⟨[],by kernel_rfl⟩
theorem acP(T:Qq)(os:Os)(u:os.Started)(H:Type)(enc:TypeId×Value->H)(F:Stop.Interp):
   ReturnsInHanded {} Tryz.checked os 7 .any ((Rows.OpenSpec.upto Rows.pricingFewerSpec).preRow enc prog Tryz.f7 Rows.pricingFewerUptoRow.domain false Rows.pricingFewerUptoRow.laid) (((Rows.OpenSpec.upto Rows.pricingFewerSpec).at F).post enc prog Tryz.f7 false true false false):=by
 obtain⟨places,O⟩:=avJ os enc;refine returnsInHanded_of_row (C:=Tryz.checked) (s:=Rows.OpenSpec.upto Rows.pricingFewerSpec) own u (by kernel_rfl) Tryz.func7
   (witness_row_atRef (enc:=enc) (C:=Tryz.checked) false (Bq os) #[.agg #[.slice none 0 0,.slice none 0 0,.slice none 0 0,.slice none 0 0,.slice none 0 0,.slice none 0 0,.slice none 0 0,.slice none 0 0,.slice none 0 0],.int .i64 0] rfl (by kernel_rfl) (by kernel_rfl) (by kernel_rfl)
     (OpenSpec.preRow_of_cond 8 O (by kernel_rfl) (fun k M=>by cases M;kernel_rfl) (by kernel_rfl) (Wb os))) ?_
 intro W I args ds gs before J Z _ M _ E _ _;exact T1 T H enc W I args ds gs before J Z (M _ rfl) (Tt E)
theorem acL{a b:Bool}(h1:a=true)(u:b=true):(a&&b)=true:=by rw[h1,u];rfl
set_option maxHeartbeats 4000000 in
theorem adC:joinedFacts prog 7 Tryz.f7 (Rows.OpenSpec.upto Rows.pricingFewerSpec).bare Rows.pricingFewerUptoRow=true:=by
  unfold joinedFacts
  repeat' (first|with_reducible refine acL ?_ ?_|(as_aux_lemma=>kernel_rfl))
set_option maxHeartbeats 4000000 in
theorem over (E:Qq):Rows.PricingFewerUptoSaid:=
  OpenClaim.holds_of_cond 7 Tryz.f7 rfl rfl rfl rfl rfl rfl rfl ⟨rfl,rfl,rfl,rfl,rfl⟩ rfl rfl rfl rfl rfl (by as_aux_lemma=>kernel_rfl) Tryz.func7 adC
    (of_decide_eq_true (by as_aux_lemma=>kernel_rfl)) (by unfold Func.isWrapper;first|(rw[if_pos (by decide +kernel)];kernel_rfl)|(rw[if_neg (by decide +kernel)];exact⟨rfl,rfl⟩))
    (fun os u H enc _ F=>by rw[OpenClaim.pre_eq_preRow];exact acP E os u H enc F)
set_option maxHeartbeats 4000000 in
theorem card (J:Qq):Rows.PricingFewerUptoCardSaid:=
  Claim7.holds_tied_plain_at .later [] _ _ _ _ (over J) (fun _ h=>by cases h) (by as_aux_lemma=>kernel_rfl) (fun _ h=>by cases h) pricingFewerUpto_row_tie rfl ⟨rfl,rfl⟩ (by as_aux_lemma=>kernel_rfl) rfl
    (fun f fn I E=>by
      obtain rfl:f=7:=Option.some.inj ((show prog.funcNamed "lorry/lorrylaw33.PricingFewer" = some 7 by as_aux_lemma=>kernel_rfl).symm.trans I) |>.symm
      obtain rfl:fn=Tryz.f7:=(Option.some.inj (Tryz.func7.symm.trans E)).symm
      refine⟨by as_aux_lemma=>kernel_rfl,fun j t u=>?_⟩
      have u:(#[35,3]:Array TypeId)[j]?=some t:=u
      have F:=Array.mem_of_getElem? u
      simp only[Array.mem_def,List.mem_cons,List.not_mem_nil,or_false,or_self]at F
      rcases F with rfl|rfl
      . exact(show prog.wantsStandIn 35=false by as_aux_lemma=>kernel_rfl)
      . exact(show prog.wantsStandIn 3=false by as_aux_lemma=>kernel_rfl)) (by as_aux_lemma=>kernel_rfl)
end Go.Proofs.YtohmomanmikphaaGreatDoor.pricingFewer
end
