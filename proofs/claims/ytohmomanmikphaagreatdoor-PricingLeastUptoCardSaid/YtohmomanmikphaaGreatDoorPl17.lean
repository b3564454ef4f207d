import Derived.Lib.LaidIn
import Derived.MakeChecks
import Derived.Stop.LaidErr
import Derived.Test.YtohmomanmikphaaGreatDoorCards
import Derived.Test.YtohmomanmikphaaGreatDoorTie
import Derived.Deep.DeepHandedRow
import Derived.Deep.DeepWitnessRowRef
import Derived.SevenTiedAt
import Derived.Test.YtohmomanmikphaaGreatDoorPl16
set_option linter.unusedSimpArgs false
set_option linter.unusedVariables false
set_option maxRecDepth 100000
section
namespace Go.Proofs.YtohmomanmikphaaGreatDoor.Nu
open Go.Proofs.Tryz(prog)
open Go.Aw Go.Aw.D Go.Proofs Ty Go.Nu
def mG(p:Int×Int):List AV:=[int p.1,int p.2]
def tZ(m:List (Int×Int))(o:Int):Option Nat:=m.findIdx? fun p=>p.1 == o
def vO(m:List (Int×Int))(o:Int):Int:=((m.find? fun p=>p.1 == o).map (·.2)).getD 0
def El(m:List (Int×Int))(o v:Int):List (Int×Int):=match tZ m o with
 | some i=>m.set i (o,v)
 | none=>m++[(o,v)]
abbrev xN(m:List (Int×Int)):Row:=⟨0,2,m.map mG⟩
theorem uL(o:Int):∀(m:List (Int×Int)) (i:Nat),sQ (pM prog 3 (int o)) (m.map mG) i=some ((tZ m o).map (·+i))
 | [],i=>rfl
 | p::m,i=>by
   have ih:=uL o m (i+1);have E:pM prog 3 (int o) ((mG p).getD 0 .any)=some (o == p.1):=by
     show pM prog 3 (int o) (int p.1)=_;unfold pM;simp only[kk3];simp[tN]
   rw[Xav,sQ,E];unfold tZ at *;rw[List.findIdx?_cons];by_cases h:o=p.1
   . subst h;simp
   . have h1:(o == p.1)=false:=by simpa using h
     have u:(p.1 == o)=false:=by simpa using fun e=>h e.symm
     rw[h1,u];simp only[Xbb,if_false];rw[ih];cases m.findIdx? (fun p=>p.1 == o)with
     | none=>rfl
     | some j=>simp;omega
theorem mQ(o:Int)(m:List (Int×Int)):sQ (pM prog 3 (int o)) (m.map mG) 0=some (tZ m o):=by
 rw[uL];cases tZ m o <;> rfl
theorem oU(o:Int):mH prog 3 (int o)=true:=by
 simp only[mH,kk3];rfl
theorem BS(m:List (Int×Int))(o:Int):FC false (int 0) (m.map mG) (tZ m o)=int (vO m o):=by
 unfold FC vO tZ;induction m with
 | nil=>rfl
 | cons p m ih=>
   rw[List.findIdx?_cons,List.find?_cons];cases h:p.1 == o with
   | true=>simp[mG]
   | false=>
     cases u:m.findIdx? (fun p=>p.1 == o)with
     | none=>
       rw[u]at ih;simpa using ih
     | some j=>
       rw[u]at ih;simp at ih |-;exact ih
theorem BW(m:List (Int×Int))(o v:Int):TF (m.map mG) (tZ m o) (int o) (int v)=(El m o v).map mG:=by
 unfold TF El;cases tZ m o with
 | none=>simp[mG]
 | some i=>simp[List.map_set,mG]
def EN(k:Int):Nat:=if k=1 then 2 else if k=2 then 1 else 0
def N4(k:Int)(P:Nat):Bool:=decide (EN k>0)&&decide (EN k<=P)
def wT(k:Int)(n:Nat):Int:=if N4 k (rR 63 n)=true then 1 else 0
theorem WO(k m:Int)(a b:Nat)(O:a<2^63)(F:b<2^63):PC prog 78 [.agg [int k,int a,int m],int b] (int (wT k (a &&& b))):=by
 have u:a &&& b<2^63:=Nat.and_lt_two_pow a F;have J:=aaR (a &&& b) u;have M:=BF 63 (a &&& b);refine pcd Tryz.func78 ?_;unfold Tryz.f78;simp only[gdS];simp only[go_sem];rw[Rc O F];refine PC.use J ?_;unfold wT;generalize rR 63 (a &&& b)=P at *;simp only[go_sem];have I:((k == 1&&decide ((P:Int)>=2))||(k == 2&&decide ((P:Int)>=1)))=N4 k P:=by
   unfold N4 EN;by_cases h1:k=1
   . subst h1;simp;omega
   . by_cases E:k=2
     . subst E;simp;omega
     . simp[h1,E]
 rw[I];refine aA (fun h=>?_) (fun h=>?_)
 . simp only[go_sem]
   exact cI (by rw[if_pos h])
 . simp only[go_sem]
   exact cI (by rw[if_neg (by rw[h];simp)])
theorem ahW(k m:Int)(a b:Nat)(ha:a<2^63)(hb:b<2^63):PC prog 159 [.agg [int k,int a,int m],int b] (int (wT k (a &&& b))):=by
 have T:=XL (a &&& b);have aa:=BF 63 (a &&& b);refine pcd Tryz.func159 ?_;unfold Tryz.f159;simp only[gdS];simp only[go_sem];refine aK fun jm F=>?_
 generalize u:aI bY jm _=HM;have I:HM jm=some (xN []):=by rw[<-u,aB];rfl
 clear u F;simp only[go_sem];refine JJ I Fh (oU _) (mQ _ _) ?_;rw[BW];generalize u:aI HM jm _=HN;have J:HN jm=some (xN [(1,2)]):=by rw[<-u,aB];rfl
 clear u I;simp only[go_sem];refine JJ J Fh (oU _) (mQ _ _) ?_;rw[BW];generalize u:aI HN jm _=HO;have M:HO jm=some (xN [(1,2),(2,1)]):=by rw[<-u,aB];rfl
 clear u J;simp only[go_sem];refine Cv M Fh (oU _) (mQ _ _) zv3 ?_;rw[BS];have Z:vO [(1,2),(2,1)] k=(EN k:Nat):=by
   unfold vO EN;by_cases h1:k=1
   . subst h1;rfl
   . by_cases E:k=2
     . subst E;rfl
     . have e1:((1:Int) == k)=false:=by simpa using fun e=>h1 e.symm
       have e2:((2:Int) == k)=false:=by simpa using fun e=>E e.symm
       simp[List.find?,e1,e2,h1,E]
 rw[Z];simp only[go_sem];rw[Rc ha hb];refine⟨_,fun _=>T.q rfl,?_⟩;unfold wT;generalize rR 63 (a &&& b)=P at *;simp only[go_sem];have O:(decide (((EN k:Nat):Int)>0)&&decide ((P:Int)>=((EN k:Nat):Int)))=N4 k P:=by
   unfold N4;rw[Xax];simp
 rw[O];refine aA (fun h=>?_) (fun h=>?_)
 . simp only[go_sem]
   exact cI (by rw[if_pos h])
 . simp only[go_sem]
   exact cI (by rw[if_neg (by rw[h];simp)])
end Go.Proofs.YtohmomanmikphaaGreatDoor.Nu
end
section
namespace Go.Proofs.YtohmomanmikphaaGreatDoor.Nu
open Go.Aw Go.Aw.D Go.Proofs Ty Go.Nu
theorem B0:∀(l:List (Int×ByteArray)) (t:ByteArray),bQ t=true->(oR l t).2=0->bQ (oR l t).1=true
 | [],t,h,_=>h
 | p::l,t,h,h0=>by
   unfold oR at h0 |-;split at h0
   . next h1=>exact absurd h0 h1
   . next h1=>
     rw[if_neg h1];split at h0
     . next u=>exact absurd h0 u
     . next u=>
       rw[if_neg u];exact B0 l _ (AD (by simpa using u)) h0
theorem DE{ns:List Int}{xs:List ByteArray}(h:(jD ns xs).2=0):bQ (jD ns xs).1=true:=by
 unfold jD at h |-;split at h
 . cases h
 . next h1=>
   rw[if_neg h1];split at h
   . cases h
   . next u=>rw[if_neg u];exact B0 _ _ ET h
theorem OE{a b:ByteArray}(h:(zT a b).2=0):bQ (zT a b).1=true:=by
 unfold zT at h |-;split at h
 . rename_i u
   rw[if_pos u];obtain⟨e,E⟩:=Au h;rw[e];exact mT E
 . cases h
end Go.Proofs.YtohmomanmikphaaGreatDoor.Nu
end
section
namespace Go.Proofs.YtohmomanmikphaaGreatDoor
open Go.Aw Go.Aw.D Go.Proofs Ty
theorem gG{α:Type}{b:Bool}{f:α}(h:opt b f=[]):b=false:=by cases b <;> simp[opt]at h |-
theorem kR{n a b:Int}:inR n a b=true↔a<=n/\n<=b:=by
 unfold inR;simp only[Xap,decide_eq_true_eq]
theorem sE{b:Bool}(h:(!b)=false):b=true:=by simpa using h
structure TypeB(t:VType)(d:Int):Prop where
 cap:xL t.cap d=true
 skills:0<=t.skills/\t.skills<=1073741823
 start:0<=t.start/\t.start<=t.close
 close:t.close<=4096
 drive:1<=t.drive/\t.drive<=4096
 rest:0<=t.rest/\t.rest<=4096
 count:0<=t.count/\t.count<=10
theorem Wr{n:Network}{l:List VType}{k:Nat}{t:VType}(h:mF n l k t=[]):TypeB t (jI l):=by
 unfold mF at h;simp only[Xbf,Xbs]at h;obtain⟨⟨⟨⟨⟨⟨⟨⟨_,_⟩,h3⟩,_⟩,F⟩,I⟩,T⟩,O⟩,h9⟩:=h;have e3:=kR.1 (sE (gG h3));have J:=sE (gG F);have e6:=kR.1 (sE (gG I));have E:=Xak.1 (gG T);have u:=Xak.1 (gG O);have M:=kR.1 (sE E.1);have Z:¬t.close>4096:=by simpa using E.2
 exact⟨J,e6,M,by omega,kR.1 (sE u.1),kR.1 (sE u.2),e3⟩
structure OrdB(o:Order)(d:Int):Prop where
 load:eD o.load d=true
 pick: -1<=o.pick.place
 drop: -1<=o.drop.place
 both:(o.pick.place == -1&&o.drop.place == -1)=false
 wpick:fT o.pick=0
 wdrop:fT o.drop=0
 skills:0<=o.skills/\o.skills<=1073741823
 penalty: -1<=o.penalty/\o.penalty<=1000000
theorem Ze{P:Nat}{d T:Int}{l:List Order}{k:Nat}{o:Order}(h:kN P d T l k o=[]):OrdB o d:=by
 unfold kN at h;simp only[Xbf,Xbs]at h;obtain⟨⟨⟨⟨⟨⟨⟨_,_⟩,J⟩,Z⟩,I⟩,M⟩,h7⟩,O⟩:=h;have F:=Xak.1 (gG Z);have E:=Xak.1 (gG M);have u:=gG O;simp only[Xak]at u;refine⟨sE (gG J),(kR.1 (sE F.1)).1,(kR.1 (sE F.2)).1,gG I,by simpa using E.1,by simpa using E.2,kR.1 (sE (gG h7)),kR.1 (sE u.1.1.1.1.1.1)⟩
structure ArcOk(a:Arc):Prop where
 travel:jR a.travel=[]
 slow:a.slow.length<=16
 pt:∀p∈a.slow,(0<=p.t/\p.t<=4096)/\0<=p.a/\p.a<=4096
theorem Xl{n:Network}{k:Nat}{a:Arc}(O:n.arcs[k]?=some a)(h:Fi n k=[]):ArcOk a:=by
 unfold Fi at h;rw[oW O]at h;simp only[Xbf,Xbs,List.map_eq_nil_iff]at h;obtain⟨⟨⟨_,M⟩,I⟩,J⟩:=h;have T:¬(a.slow.length:Int)>16:=by simpa using gG I
 refine⟨M,by omega,fun p F=>?_⟩;obtain⟨i,E,rfl⟩:=List.getElem_of_mem F;have:=List.flatMap_eq_nil_iff.1 J i (Xbi.2 E);have u:=gG this;unfold nF at u;rw[eG (List.getElem?_eq_getElem E)]at u;simp only[Xak]at u;exact⟨kR.1 (sE u.1.1),kR.1 (sE u.1.2)⟩
structure PairB(N:Int)(q:Pair):Prop where
 a:0<=q.a/\q.a<N
 b:0<=q.b/\q.b<N
 ne:q.a≠q.b
theorem L1{N:Int}{l:List Pair}{w:ByteArray}{s:Bool}(h:tF N l w s=[]):l.length<=16/\∀q∈l,PairB N q:=by
 unfold tF at h;rw[Xbs]at h;have J:¬(l.length:Int)>16:=by simpa using gG h.1
 refine⟨by omega,fun q F=>?_⟩;obtain⟨i,E,rfl⟩:=List.getElem_of_mem F;have:=List.flatMap_eq_nil_iff.1 h.2 i (Xbi.2 E);unfold gC at this;have I:pAt l i=l[i]:=by simp[pAt,List.getD,E]
 rw[I]at this;split at this
 . simp at this
 . rename_i u
   unfold Go.Proofs.YtohmomanmikphaaGreatDoor.BB at u;simp only[Xak,decide_eq_false_iff_not]at u;exact⟨by omega,by omega,by simpa using u.2⟩
structure Acc(x:Instance):Prop where
 arcs:x.net.arcs.length<=1024
 arc:∀a∈x.net.arcs,ArcOk a
 types:1<=x.types.length/\x.types.length<=6
 type:∀t∈x.types,TypeB t (jI x.types)
 orders:x.orders.length<=10
 order:∀o∈x.orders,OrdB o (jI x.types)
 apart:x.apart.length<=16
 apartB:∀q∈x.apart,PairB x.orders.length q
 before:x.before.length<=16
 beforeB:∀q∈x.before,PairB x.orders.length q
theorem aiD{x:Instance}(h:FG x=[]):Acc x:=by
 unfold FG at h;simp only[Xbs,List.map_eq_nil_iff]at h;obtain⟨⟨⟨J,I⟩,E⟩,F⟩:=h;unfold Gu at J;simp only[Xbs]at J;unfold tC at I;rw[Xbs]at I;unfold qF at E;rw[Xbs]at E;unfold CR at F;rw[Xbs]at F;obtain⟨T,Z⟩:=L1 F.1;obtain⟨r3,r4⟩:=L1 F.2;have e1:¬(x.net.arcs.length:Int)>1024:=by simpa using gG J.1.2
 have e2:=kR.1 (sE (gG I.1));have e3:¬(x.orders.length:Int)>10:=by simpa using gG E.1
 refine⟨by omega,fun a ha=>?_,by omega,fun t O=>?_,by omega,fun o M=>?_,T,Z,r3,r4⟩
 . obtain⟨i,u,rfl⟩:=List.getElem_of_mem ha
   exact Xl (List.getElem?_eq_getElem u) (List.flatMap_eq_nil_iff.1 J.2 i (Xbi.2 u))
 . obtain⟨i,u,rfl⟩:=List.getElem_of_mem O
   have:=List.flatMap_eq_nil_iff.1 I.2 i (Xbi.2 u);unfold iL at this;rw[List.map_eq_nil_iff,Lt (List.getElem?_eq_getElem u)]at this;exact Wr this
 . obtain⟨i,u,rfl⟩:=List.getElem_of_mem M
   have:=List.flatMap_eq_nil_iff.1 E.2 i (Xbi.2 u);unfold gN at this;rw[List.map_eq_nil_iff,M0 (List.getElem?_eq_getElem u)]at this;exact Ze this
end Go.Proofs.YtohmomanmikphaaGreatDoor
end
section
namespace Go.Proofs.YtohmomanmikphaaGreatDoor.Nu
open Go.Proofs.Tryz(prog)
open Go.Aw Go.Aw.D Go.Proofs Ty Go.Nu
def sD(p:Nat->Bool):Nat->Nat
 | 0=>0
 | k+1=>sD p k+(if p k=true then 2^k else 0)
theorem Ba(p:Nat->Bool):∀k,sD p k<2^k
 | 0=>by simp[sD]
 | k+1=>by have:=Ba p k;rw[sD,Xbu];split <;> omega
theorem Gc(p:Nat->Bool):∀k i,(sD p k).testBit i=(decide (i<k)&&p i)
 | 0,i=>by simp[sD]
 | k+1,i=>by
   have u:=Ba p k;have ih:=Gc p k i;rw[sD];have E:sD p k+(if p k=true then 2^k else 0)=sD p k ||| (if p k=true then 2^k else 0):=by
     split
     . rw[Xcc,Nat.or_comm];have:=Nat.two_pow_add_eq_or_of_lt u 1;simpa using this
     . simp
   rw[E,Nat.testBit_or,ih];by_cases h:p k=true
   . rw[if_pos h,Nat.testBit_two_pow]
     by_cases e:k=i
     . subst e;simp[h]
     . have:(decide (i<k+1))=decide (i<k):=by rw[Xax];simp;omega
       rw[this];simp[e]
   . rw[if_neg h]
     by_cases e:k=i
     . subst e;simp[h]
     . have:(decide (i<k+1))=decide (i<k):=by rw[Xax];simp;omega
       rw[this];simp
theorem ajA{a k:Nat}(h:a<2^k):a ||| 2^k=a+2^k:=by
 rw[Nat.or_comm,Xcc];have:=Nat.two_pow_add_eq_or_of_lt h 1;simpa using this.symm
theorem F3{a b:Nat}(E:a<2^63)(F:b<2^63):rY .or .i64 (a:Int) (b:Int)=((a ||| b:Nat):Int):=by
 have h:((BitVec.ofInt 64 (a:Int) ||| BitVec.ofInt 64 (b:Int)).toNat:Int)=((a ||| b:Nat):Int):=by
   rw[BitVec.toNat_or,BitVec.toNat_ofInt,BitVec.toNat_ofInt];have h1:((a:Int)%((2^64:Nat):Int)).toNat=a:=by omega
   have u:((b:Int)%((2^64:Nat):Int)).toNat=b:=by omega
   rw[h1,u]
 refine Eq.trans (congrArg IntKind.i64.wrap h) ?_;have:=Xcf E F;exact aR (by omega)
theorem EH{i:Nat}(h:i<=62):shV .shl .i64 1 (i:Int)=((2^i:Nat):Int):=by
 show IntKind.i64.wrap (1*2^min ((i:Int)).toNat 64)=_;have:min ((i:Int)).toNat 64=i:=by omega
 rw[this,Int.one_mul];have u:(2:Nat)^i<=2^62:=Xat (by decide) h;have E:((2:Int)^i)=((2^i:Nat):Int):=by norm_cast
 rw[E];generalize 2^i=m at u;exact aR (by omega)
theorem uG{s:Nat}{i:Nat}(h1:i<=62):dT (s:Int) (i:Int)=s.testBit i:=by
 rw[Nat.testBit_eq_decide_div_mod_eq];unfold dT;have u:((2:Int)^i)=((2^i:Nat):Int):=by norm_cast
 rw[Xbc,u];have:((s:Int)/((2^i:Nat):Int))=((s/2^i:Nat):Int):=rfl;rw[this];generalize s/2^i=m;rw[Xax];simp only[Xaw,decide_eq_true_eq,Xap];omega
theorem QX{a b:Nat}(ha:a<2^63)(hb:b<2^63):(rY .andNot .i64 (a:Int) (b:Int) == 0)=decide (a &&& b=a):=by
 have e:rY .andNot .i64 (a:Int) (b:Int)=((a-(a &&& b):Nat):Int):=by
   have h1:((a:Int)%((2^64:Nat):Int)).toNat=a:=by omega
   have I:((b:Int)%((2^64:Nat):Int)).toNat=b:=by omega
   have h:((BitVec.ofInt 64 (a:Int) &&& ~~~(BitVec.ofInt 64 (b:Int))).toNat:Int)=((a-(a &&& b):Nat):Int):=by
     have E:a &&& b<=a:=Nat.and_le_left;have Z:BitVec.ofInt 64 (a:Int) &&& ~~~(BitVec.ofInt 64 (b:Int))=BitVec.ofNat 64 (a-(a &&& b)):=by
       have h3:BitVec.ofInt 64 (a:Int)=BitVec.ofNat 64 a:=by apply BitVec.eq_of_toNat_eq;rw[BitVec.toNat_ofInt,BitVec.toNat_ofNat,h1,Xba (by omega)]
       have O:BitVec.ofInt 64 (b:Int)=BitVec.ofNat 64 b:=by apply BitVec.eq_of_toNat_eq;rw[BitVec.toNat_ofInt,BitVec.toNat_ofNat,I,Xba (by omega)]
       rw[h3,O];have J:(BitVec.ofNat 64 a &&& ~~~BitVec.ofNat 64 b) &&& BitVec.ofNat 64 (a &&& b)=0#64:=by
         apply BitVec.eq_of_getLsbD_eq;intro i u;simp only[BitVec.getLsbD_and,BitVec.getLsbD_not,BitVec.getLsbD_ofNat,Nat.testBit_and,u,decide_true,Xaz,BitVec.getLsbD_zero];cases a.testBit i <;> cases b.testBit i <;> simp
       have M:(BitVec.ofNat 64 a &&& ~~~BitVec.ofNat 64 b) ||| BitVec.ofNat 64 (a &&& b)=BitVec.ofNat 64 a:=by
         apply BitVec.eq_of_getLsbD_eq;intro i u;simp only[BitVec.getLsbD_or,BitVec.getLsbD_and,BitVec.getLsbD_not,BitVec.getLsbD_ofNat,Nat.testBit_and,u,decide_true,Xaz];cases a.testBit i <;> cases b.testBit i <;> rfl
       have T:=congrArg BitVec.toNat ((BitVec.add_eq_or_of_and_eq_zero _ _ J).trans M);rw[BitVec.toNat_add,BitVec.toNat_ofNat,BitVec.toNat_ofNat,Xba (by omega:a<2^64),Xba (by omega:a &&& b<2^64)]at T;apply BitVec.eq_of_toNat_eq;rw[BitVec.toNat_ofNat,Xba (by omega)];have hl:=(BitVec.ofNat 64 a &&& ~~~BitVec.ofNat 64 b).isLt;have F:(BitVec.ofNat 64 a &&& ~~~BitVec.ofNat 64 b).toNat<=a:=by
         rw[BitVec.toNat_and,BitVec.toNat_ofNat,Xba (by omega:a<2^64)];exact Nat.and_le_left
       omega
     rw[Z,BitVec.toNat_ofNat,Xba (by omega)]
   refine Eq.trans (congrArg IntKind.i64.wrap h) ?_;exact aR (by omega)
 rw[e,Xax];have E:a &&& b<=a:=Nat.and_le_left;simp only[Xaw,decide_eq_true_eq];omega
theorem UR(a b:Nat)(E:a<2^63)(u:b<2^63):PC prog 152 [int a,int b] (boo (decide (a &&& b=a))):=by
 refine pcd Tryz.func152 ?_;unfold Tryz.f152;simp only[gdS];simp only[go_sem];exact cB (QX E u)
def DT(q:Order->Bool)(l:List Order)(i:Nat):Bool:=match l[i]? with|some o=> !o.off&&q o|none=>false
theorem KX{q:Order->Bool}{l:List Order}{i:Nat}{o:Order}(h:l[i]?=some o):DT q l i=(!o.off&&q o):=by unfold DT;rw[h]
def Mp(q:Order->Bool)(l:List Order):Nat:=sD (DT q l) l.length
theorem WA{g:Nat}{q:Order->Bool}(x:Instance)(hx:x.orders.length<=62)(aa:aC prog g=true)(hg:∀o∈x.orders,PC prog g [.agg (bE o)] (boo (q o))):
   PC prog 211 [.agg (aG x),.v (.func (.func g) #[] #[])] (int (Mp q x.orders:Nat)):=by
 refine pcd Tryz.func211 ?_;unfold Tryz.f211;simp only[gdS];simp only[go_sem];unfold Mp;generalize hp:DT q x.orders=p;refine⟨fun ρ H=>∃(k:Nat),k<=x.orders.length/\ρ 1=.v (.func (.func g) #[] #[])/\ρ 9=.sl (x.orders.map bE)/\ρ 10=int (x.orders.length:Nat)/\ρ 11=int k/\ρ 5=int (sD p k:Nat),fun ρ _=>x.orders.length-aT (ρ 11),⟨0,Xab _,by simp only[go_sem],by simp only[go_sem],by simp only[go_sem,Xaa],(by simp only[go_sem];rfl),by simp only[go_sem];rfl⟩,?_⟩;rintro ρ H ⟨k,hk,J,M,u,E,I⟩;simp only[go_sem,J,M,u,E,I];refine aA (fun F=>?_) (fun O=>?_)
 . have F:=ltB F
   obtain⟨o,T⟩:=aN F;have b1:=inB F;have Z:p k=(!o.off&&q o):=by rw[<-hp];exact KX T
   have ab:=Ba p k;have ac:2^k<=2^62:=Xat (by decide) (by omega);simp only[go_sem,J,M,u,E,I,aF T,b1];refine aK fun j hj=>?_
   simp only[go_sem,J,M,u,E,I,aF T,b1];refine aJ (aB _ _ _) (by simp[bE]) ?_;simp only[go_sem,J,M,u,E,I,aF T,b1,aa];refine⟨_,fun _=>(hg o (Xae T)).q rfl,?_⟩;simp only[go_sem,J,M,u,E,I];refine aA (fun hb=>?_) (fun hb=>?_)
   . have q1:=EH (i:=k) (by omega)
     have q2:=F3 (a:=sD p k) (b:=2^k) (by omega) (by omega);simp only[go_sem,J,M,u,E,I,q1,q2,aP (show k<=4611686018427387904 by omega)];refine⟨by omega,⟨k+1,F,rfl,?_⟩,by simp only[aE];omega⟩;rw[ajA ab,sD,Z,if_pos hb]
   . simp only[go_sem,J,M,u,E,I,aP (show k<=4611686018427387904 by omega)]
     refine⟨⟨k+1,F,rfl,?_⟩,by simp only[aE];omega⟩;rw[sD,Z,if_neg (by rw[hb];simp),Nat.add_zero]
 . have O:=geB hk O
   subst O;simp only[go_sem,J,M,u,E,I];exact .refl _
def acZ(x:Instance):Nat:=Mp (fun _=>true) x.orders
def MH(x:Instance):Nat:=Mp (fun o=>o.penalty == -1) x.orders
theorem ahF(o:Order):PC prog 219 [.agg (bE o)] (boo true):=by
 refine pcd Tryz.func219 ?_;unfold Tryz.f219;simp only[gdS];simp only[go_sem];exact .refl _
theorem adK(o:Order):PC prog 212 [.agg (bE o)] (boo (o.penalty == -1)):=by
 refine pcd Tryz.func212 ?_;unfold Tryz.f212;simp only[gdS];simp only[go_sem];exact .refl _
theorem afS(x:Instance)(u:x.orders.length<=62):PC prog 156 [.agg (aG x)] (int (acZ x:Nat)):=by
 refine pcd Tryz.func156 ?_;unfold Tryz.f156;simp only[gdS];simp only[go_sem];refine PC.use (WA x u (by kernel_rfl) fun o _=>ahF o) ?_;simp only[go_sem];exact .refl _
theorem ahC(x:Instance)(u:x.orders.length<=62):PC prog 153 [.agg (aG x)] (int (MH x:Nat)):=by
 refine pcd Tryz.func153 ?_;unfold Tryz.f153;simp only[gdS];simp only[go_sem];refine PC.use (WA x u (by kernel_rfl) fun o _=>adK o) ?_;simp only[go_sem];exact .refl _
def vT(n:Nat)(set:Int):Bool:=decide (set>=0)&&(set/2^n == 0)
theorem Kb(x:Instance)(set:Int)(u:x.orders.length<=62):PC prog 92 [.agg (aG x),int set] (boo (vT x.orders.length set)):=by
 refine pcd Tryz.func92 ?_;unfold Tryz.f92;simp only[gdS];simp only[go_sem];refine⟨by omega,?_⟩;refine cB ?_;rw[rH u];rfl
theorem Kx{g:Nat}{cap:List AV}{p:Int->Bool}(l:List Int)(hl:l.length<=1048576)(aa:aC prog g=true)(hg:∀v∈l,PC prog g (int v::cap) (boo (p v))):
   ∃n:Int,decide (n>=0)=l.any p/\PC prog 258 [.sl (l.map bJ),.fn g cap] (int n):=by
 refine⟨match l.findIdx? p with|some i=>(i:Int)|none=> -1,?_,?_⟩
 . cases h:l.findIdx? p with
   | none=>
     have:=List.findIdx?_eq_none_iff.1 h;simp only;rw[List.any_eq_false.2 (fun x hx=>by rw[this x hx];simp)];rfl
   | some i=>
     obtain⟨hi,hp,_⟩:=List.findIdx?_eq_some_iff_getElem.1 h;simp only;rw[Xbk.2 ⟨l[i],List.getElem_mem hi,hp⟩];simp
 ·
   refine pcd Tryz.func258 ?_;unfold Tryz.f258;simp only[gdS];simp only[go_sem];refine⟨fun ρ H=>∃(k:Nat),k<=l.length/\ρ 0=.sl (l.map bJ)/\ρ 1=.fn g cap/\ρ 7=int (l.length:Nat)/\ρ 8=int k/\(∀u∈l.take k,p u=false),fun ρ _=>l.length-aT (ρ 8),⟨0,Xab _,by simp only[go_sem],by simp only[go_sem],by simp only[go_sem,Xaa],(by simp only[go_sem];rfl),by simp⟩,?_⟩;rintro ρ H ⟨k,hk,O,M,I,J,Z⟩;simp only[go_sem,O,M,I,J];refine aA (fun E=>?_) (fun F=>?_)
   . have E:=ltB E
     obtain⟨u,T⟩:=aN E;have b1:=inB E;simp only[go_sem,O,M,I,J,aF T,b1,aa];refine PC.use (hg u (Xae T)) ?_;simp only[go_sem,O,M,I,J];refine aA (fun hb=>?_) (fun hb=>?_)
     . simp only[go_sem,O,M,I,J]
       have:l.findIdx? p=some k:=by
         have ab:k<l.length:=E;refine List.findIdx?_eq_some_iff_getElem.2 ⟨ab,?_,fun j hj=>?_⟩
         . have:=(List.getElem?_eq_some_iff.1 T).2;rw[this];exact hb
         . have:=Z l[j] (List.mem_take_iff_getElem.2 ⟨j,by omega,rfl⟩);rw[this];simp
       rw[this];exact .refl _
     . simp only[go_sem,O,M,I,J,aP (show k<=4611686018427387904 by omega)]
       exact⟨⟨k+1,E,rfl,iS (p:=fun u=>p u=false) T hb Z⟩,by simp only[aE];omega⟩
   . have F:=geB hk F
     subst F;rw[Xag]at Z;simp only[go_sem];rw[List.findIdx?_eq_none_iff.2 Z];exact .refl _
theorem Eg{g:Nat}{cap:List AV}{p:Int->Bool}(l:List Int)(J:l.length<=1048576)(u:aC prog g=true)(I:∀v∈l,PC prog g (int v::cap) (boo (p v))):
   PC prog 214 [.sl (l.map bJ),.fn g cap] (boo (l.any p)):=by
 obtain⟨n,F,E⟩:=Kx l J u I;refine pcd Tryz.func214 ?_;unfold Tryz.f214;simp only[gdS];simp only[go_sem];refine PC.use E ?_;simp only[go_sem];exact cB F
def sH(l:List Order)(i:Int):Order:=l.getD i.toNat ⟨ByteArray.empty,[],⟨0,0,0,0⟩,⟨0,0,0,0⟩,0,0,0,0,0,false⟩
theorem yA{l:List Order}{i:Nat}{o:Order}(h:l[i]?=some o):sH l (i:Int)=o:=by simp[sH,List.getD,h]
def Wn(l:List Order)(ms:List Int):Prop:=∀i∈ms,0<=i/\i<(l.length:Int)
theorem Kh(x:Instance)(g:Nat)(q:Order->Int)(i:Int)(I:0<=i/\i<(x.orders.length:Int))(E:aC prog g=true)(J:∀o,PC prog g [.agg (bE o)] (int (q o))):
   PC prog 215 [int i,.rp [.v (.func (.func g) #[] #[])] 0,.rp (aG x) 0] (boo (decide (q (sH x.orders i)>=0))):=by
 obtain⟨n,rfl⟩:=Int.eq_ofNat_of_zero_le I.1;have u:n<x.orders.length:=by omega
 obtain⟨o,F⟩:=aN u;have M:=inB u;rw[yA F];refine pcd Tryz.func215 ?_;unfold Tryz.f215;simp only[gdS];simp only[go_sem];refine dJ (by rfl) (by kernel_rfl) ?_;simp only[go_sem,aF F,M,E];refine⟨_,(J o).q rfl,?_⟩;simp only[go_sem];exact .refl _
theorem LF(o:Order):PC prog 216 [.agg (bE o)] (int o.pick.place):=by
 refine pcd Tryz.func216 ?_;unfold Tryz.f216;simp only[gdS];simp only[go_sem];exact .refl _
theorem Nv(o:Order):PC prog 217 [.agg (bE o)] (int o.drop.place):=by
 refine pcd Tryz.func217 ?_;unfold Tryz.f217;simp only[gdS];simp only[go_sem];exact .refl _
theorem DL(x:Instance)(g:Nat)(q:Order->Int)(ms:List Int)(F:Wn x.orders ms)(J:ms.length<=1048576)(u:aC prog g=true)(I:∀o,PC prog g [.agg (bE o)] (int (q o))):
   PC prog 213 [.v (.func (.func g) #[] #[]),.rp [.sl (ms.map bJ)] 0,.rp (aG x) 0] (boo (!(ms.any fun i=>decide (q (sH x.orders i)>=0)))):=by
 refine pcd Tryz.func213 ?_;unfold Tryz.f213;simp only[gdS];simp only[go_sem];refine PC.use (Eg (p:=fun i=>decide (q (sH x.orders i)>=0)) ms J (by kernel_rfl) (fun i E=>Kh x g q i (F i E) u I)) ?_;simp only[go_sem];exact .refl _
def aiP(x:Instance)(ms:List Int):Bool:= !(ms.any fun i=>decide ((sH x.orders i).pick.place>=0))|| !(ms.any fun i=>decide ((sH x.orders i).drop.place>=0))
theorem Qe(x:Instance)(ms:List Int)(u:Wn x.orders ms)(E:ms.length<=1048576):PC prog 154 [.agg (aG x),.sl (ms.map bJ)] (boo (aiP x ms)):=by
 refine pcd Tryz.func154 ?_;unfold Tryz.f154;simp only[gdS];simp only[go_sem];refine PC.use (DL x _ (fun o=>o.pick.place) ms u E (by kernel_rfl) LF) ?_;simp only[go_sem];refine⟨_,fun _=>(DL x _ (fun o=>o.drop.place) ms u E (by kernel_rfl) Nv).q rfl,?_⟩;simp only[go_sem];exact .refl _
def vB:List Int->List Int->Int->Int×Int
 | n::a,c::l,t=>if n<=0 then vB a l t else if c=0 then(0,24)else vB a l (kF t ((n+c-1).tdiv c))
 | _,_,t=>(t,0)
def Az(a c:List Int):Int×Int:=if a.length≠c.length then(0,2)else if c.any (fun n=>decide (n<0))=true then(0,2)else vB a c 0
def Mid(n:Int):Prop:= -1099511627776<=n/\n<=1099511627776
theorem Vs(a c:List Int)(hl:a.length<=1048576)(ac:c.length<=1048576)(ha:∀n∈a,Mid n)(hc:∀n∈c,Mid n):
   PC prog 218 [.sl (a.map bJ),.sl (c.map bJ)] (.tup [int (Az a c).1,int (Az a c).2]):=by
 refine pcd Tryz.func218 ?_;unfold Tryz.f218;simp only[gdS];simp only[go_sem];refine aA (fun hb=>?_) (fun hb=>?_)
 . have hb:a.length≠c.length:=neN hb
   simp only[go_sem];rw[show Az a c=(0,2)from if_pos hb];exact .refl _
 have hb:a.length=c.length:=eqN hb;have e0:Az a c=if c.any (fun n=>decide (n<0))=true then(0,2)else vB a c 0:=if_neg (by simp[hb])
 rw[e0];simp only[go_sem,Xaa];refine⟨fun ρ H=>∃(k:Nat),k<=c.length/\ρ 0=.sl (a.map bJ)/\ρ 1=.sl (c.map bJ)/\ρ 17=.sl (c.map bJ)/\ρ 18=int (c.length:Nat)/\ρ 19=int k/\(∀n∈c.take k,0<=n),fun ρ _=>c.length-aT (ρ 19),⟨0,Xab _,by simp only[go_sem],by simp only[go_sem],by simp only[go_sem],by simp only[go_sem,Xaa],(by simp only[go_sem];rfl),by simp⟩,?_⟩;rintro ρ H ⟨k,hk,e0,J,E,I,F,hz⟩;simp only[go_sem,e0,J,E,I,F];refine aA (fun u=>?_) (fun M=>?_)
 . have u:=ltB u
   obtain⟨n,hn⟩:=aN u;have b1:=inB u;simp only[go_sem,e0,J,E,I,F,aF hn,b1];refine aA (fun hd=>?_) (fun hd=>?_)
   . simp only[go_sem]
     rw[if_pos (BP hn hd)];exact .refl _
   . simp only[go_sem,e0,J,E,I,F,aP (show k<=4611686018427387904 by omega)]
     exact⟨⟨k+1,u,rfl,iS hn (by simpa using hd) hz⟩,by simp only[aE];omega⟩
 have M:=geB hk M;subst M;rw[Xag]at hz;rw[if_neg (by rw[xT fun n hn=>by simpa using hz n hn];simp)];simp only[go_sem,e0,J,E,I,F,Xaa];refine⟨fun ρ H=>∃(k:Nat) (t:Int),k<=a.length/\ρ 1=.sl (c.map bJ)/\ρ 26=.sl (a.map bJ)/\ρ 27=int (a.length:Nat)/\ρ 28=int k/\ρ 8=int t/\vB a c 0=vB (a.drop k) (c.drop k) t,fun ρ _=>a.length-aT (ρ 28),⟨0,0,Xab _,by simp only[go_sem,e0,J,E,I,F],by simp only[go_sem,e0,J,E,I,F],by simp only[go_sem,Xaa,e0,J,E,I,F],(by simp only[go_sem,e0,J,E,I,F];rfl),by simp only[go_sem],rfl⟩,?_⟩;rintro ρ H ⟨k,t,hk,J,T,Z,O,e8,hi⟩;simp only[go_sem,J,T,Z,O,e8];refine aA (fun u=>?_) (fun M=>?_)
 . have u:=ltB u
   obtain⟨n,hn⟩:=aN u;obtain⟨m,hm⟩:=aN (l:=c) (k:=k) (by omega);have b1:=inB u;have b2:=inB (show k<c.length by omega);have aa:=ha n (Xae hn);have ab:=hc m (Xae hm);have ad:=hz m (Xae hm);unfold Mid at aa ab;rw[zO hn,zO hm,vB]at hi;simp only[go_sem,J,T,Z,O,e8,aF hn,aF hm,b1,b2];refine aA (fun hd=>?_) (fun hd=>?_)
   . rw[if_pos (by simpa using hd)]at hi
     simp only[go_sem,J,T,Z,O,e8,aP (show k<=4611686018427387904 by omega)];exact⟨⟨k+1,t,u,rfl,rfl,hi⟩,by simp only[aE];omega⟩
   have hd:¬n<=0:=by simpa using hd
   rw[if_neg hd]at hi;simp only[go_sem,J,T,Z,O,e8];refine aA (fun h0=>?_) (fun h0=>?_)
   . rw[if_pos (by simpa using h0)]at hi
     rw[hi];simp only[go_sem];exact .refl _
   have h0:m≠0:=by simpa using h0
   rw[if_neg h0]at hi;have w1:IntKind.i64.wrap (n+m)=n+m:=aR (by omega);have w2:IntKind.i64.wrap (n+m-1)=n+m-1:=aR (by omega);have w3:IntKind.i64.wrap ((n+m-1).tdiv m)=(n+m-1).tdiv m:=aR (by
     have h1:=Int.tdiv_nonneg (a:=n+m-1) (b:=m) (by omega) (by omega);have h2:=Int.tdiv_le_self m (a:=n+m-1) (by omega);omega)
   simp only[go_sem,J,T,Z,O,e8,w1,w2,w3,aP (show k<=4611686018427387904 by omega)];exact⟨h0,⟨k+1,_,u,rfl,rfl,hi⟩,by simp only[aE];omega⟩
 . have M:=geB hk M
   subst M;have ea:a.drop a.length=[]:=Xca;have:vB a c 0=(t,0):=by rw[hi,ea];unfold vB;rfl
   rw[this];simp only[go_sem,J,T,Z,O,e8];exact .refl _
def AB(l:List Order)(dim:Nat)(i:Int):Int:=(sH l i).load.getD dim 0
def jP(l:List Order)(ms:List Int)(dim:Nat):Int:=(ms.map (AB l dim)).sum
def pS(l:List VType)(dim:Nat):Int:=l.foldl (fun c t=>kF c (t.cap.getD dim 0)) 0
def Ja(x:Instance)(ms:List Int)(dim:Nat):Int:=if(Az [jP x.orders ms dim] [pS x.types dim]).2≠0 then 0 else(Az [jP x.orders ms dim] [pS x.types dim]).1
structure LoadsOk(x:Instance)(d:Nat):Prop where
 dims:d<=3
 orders:x.orders.length<=62
 types:x.types.length<=1048576
 load:∀o∈x.orders,o.load.length=d/\∀n∈o.load,0<=n/\n<=1000
 cap:∀t∈x.types,t.cap.length=d/\∀n∈t.cap,0<=n/\n<=1000
theorem HT{x:Instance}{d dim:Nat}(h:LoadsOk x d)(J:dim<d){i:Int}(I:0<=i/\i<(x.orders.length:Int)):0<=AB x.orders dim i/\AB x.orders dim i<=1000:=by
 obtain⟨n,rfl⟩:=Int.eq_ofNat_of_zero_le I.1;obtain⟨o,u⟩:=aN (show n<x.orders.length by omega);unfold AB;rw[yA u];obtain⟨h1,F⟩:=h.load o (Xae u);obtain⟨v,E⟩:=aN (show dim<o.load.length by omega);rw[List.getD,E];exact F v (Xae E)
theorem AQ{x:Instance}{d dim:Nat}(h:LoadsOk x d)(u:dim<d):∀{ms:List Int},Wn x.orders ms->0<=jP x.orders ms dim/\jP x.orders ms dim<=1000*ms.length
 | [],_=>by simp[jP]
 | i::ms,hm=>by
   have h1:=HT h u (hm i (by simp));have E:=AQ h u (ms:=ms) fun j F=>hm j (by simp[F])
   unfold jP at E |-;rw[Xav,List.sum_cons,Xad];omega
theorem J0(l:List Order)(ms:List Int)(i:Int)(dim:Nat):jP l (ms++[i]) dim=jP l ms dim+AB l dim i:=by simp[jP]
theorem Dx(l:List VType)(t:VType)(dim:Nat):pS (l++[t]) dim=kF (pS l dim) (t.cap.getD dim 0):=by simp[pS]
theorem aaW{a b c:Int}(h1:0<=a/\a<=c)(u:0<=b/\b<=c):0<=kF a b/\kF a b<=c:=by unfold kF;split <;> omega
theorem Is{x:Instance}{d dim:Nat}(h:LoadsOk x d)(J:dim<d):∀k,0<=pS (x.types.take k) dim/\pS (x.types.take k) dim<=1000
 | 0=>by simp[pS]
 | k+1=>by
   have ih:=Is h J k;rcases Xar k x.types.length with F|F
   . obtain⟨t,E⟩:=aN F
     rw[bP E,Dx];obtain⟨h1,I⟩:=h.cap t (Xae E);obtain⟨v,u⟩:=aN (show dim<t.cap.length by omega);refine aaW ih ?_;rw[List.getD,u];exact I v (Xae u)
   . rw[Xan (by omega)]at ih |-;exact ih
theorem Zv(x:Instance)(ms:List Int)(dim d:Nat)(h:LoadsOk x d)(hd:dim<d)(hm:Wn x.orders ms)(hl:ms.length<=63):
   PC prog 155 [.agg (aG x),.sl (ms.map bJ),int dim] (int (Ja x ms dim)):=by
 have al:=h.orders;have am:=h.types;refine pcd Tryz.func155 ?_;unfold Tryz.f155;simp only[gdS];simp only[go_sem];refine⟨fun ρ H=>∃(k:Nat),k<=ms.length/\ρ 2=int dim/\ρ 3=.rp (aG x) 0/\ρ 8=int 0/\ρ 15=.sl (ms.map bJ)/\ρ 16=int (ms.length:Nat)/\ρ 17=int k/\ρ 7=int (jP x.orders (ms.take k) dim),fun ρ _=>ms.length-aT (ρ 17),⟨0,Xab _,by simp only[go_sem],by simp only[go_sem],by simp only[go_sem],by simp only[go_sem],by simp only[go_sem,Xaa],(by simp only[go_sem];rfl),by simp only[go_sem];rfl⟩,?_⟩;rintro ρ H ⟨k,hk,O,e3,J,I,F,E,M⟩;simp only[go_sem,O,e3,J,I,F,E,M];refine aA (fun u=>?_) (fun Z=>?_)
 . have u:=ltB u
   obtain⟨i,hi⟩:=aN u;have b1:=inB u;have ae:=hm i (Xae hi);have ar:=HT h hd ae;have aq:=AQ h hd (ms:=ms.take k) fun j hj=>hm j (List.mem_of_mem_take hj)
   have ag:=J0 x.orders (ms.take k) i dim;rw[<-bP hi]at ag;obtain⟨n,rfl⟩:=Int.eq_ofNat_of_zero_le ae.1;have hn:n<x.orders.length:=by omega
   obtain⟨o,ad⟩:=aN hn;obtain⟨ap,an⟩:=h.load o (Xae ad);obtain⟨v,hv⟩:=aN (show dim<o.load.length by omega);have ah:AB x.orders dim (n:Int)=v:=by unfold AB;rw[yA ad,List.getD,hv];rfl
   have b2:=inB hn;have b3:=inB (show dim<o.load.length by omega);have ao:(ms.take k).length<=63:=by rw[Xal];omega
   have w1:IntKind.i64.wrap (jP x.orders (ms.take k) dim+v)=jP x.orders (ms.take (k+1)) dim:=by rw[ag,ah,aR (by omega)]
   simp only[go_sem,O,e3,J,I,F,E,M,aF hi,b1,aF ad,b2,aF hv,b3,w1,aP (show k<=4611686018427387904 by omega)];exact⟨⟨k+1,u,rfl,rfl⟩,by simp only[aE];omega⟩
 have Z:=geB hk Z;subst Z;rw[Xag]at M;simp only[go_sem,O,e3,J,I,F,E,M,Xaa];refine⟨fun ρ H=>∃(k:Nat),k<=x.types.length/\ρ 2=int dim/\ρ 7=int (jP x.orders ms dim)/\ρ 34=.sl (x.types.map bC)/\ρ 35=int (x.types.length:Nat)/\ρ 36=int k/\ρ 8=int (pS (x.types.take k) dim),fun ρ _=>x.types.length-aT (ρ 36),⟨0,Xab _,by simp only[go_sem,O,e3,J,I,F,E,M],by simp only[go_sem,O,e3,J,I,F,E,M],by simp only[go_sem,O,e3,J,I,F,E,M],by simp only[go_sem,Xaa,O,e3,J,I,F,E,M],(by simp only[go_sem,O,e3,J,I,F,E,M];rfl),by simp only[go_sem,J];rfl⟩,?_⟩;rintro ρ H ⟨k,hk,O,M,ab,aa,ac,J⟩;simp only[go_sem,O,M,ab,aa,ac,J];refine aA (fun u=>?_) (fun Z=>?_)
 . have u:=ltB u
   obtain⟨t,ht⟩:=aN u;have b1:=inB u;obtain⟨h1,h2⟩:=h.cap t (Xae ht);obtain⟨v,hv⟩:=aN (show dim<t.cap.length by omega);have b3:=inB (show dim<t.cap.length by omega);simp only[go_sem,O,M,ab,aa,ac,J,aF ht,b1];refine aK fun j ai=>?_
   simp only[go_sem,O,M,ab,aa,ac,J,aF ht,b1];refine aJ (aB _ _ _) (by simp[jZ]) ?_;generalize af:aI (aI _ j _) j _=HGj;have R:HGj j=some (kU t):=by rw[<-af,aB];try rfl
   clear af ai;simp only[go_sem,O,M,ab,aa,ac,J,aF ht,b1,R];simp only[go_sem,O,M,ab,aa,ac,J,aF hv,b3,aP (show k<=4611686018427387904 by omega)];refine⟨⟨k+1,u,rfl,?_⟩,by simp only[aE];omega⟩;rw[bP ht,Dx,List.getD,hv];rfl
 have Z:=geB hk Z;subst Z;rw[Xag]at J;have hL:=AQ h hd hm;have hC:=Is h hd x.types.length;rw[Xag]at hC;simp only[go_sem,O,M,ab,aa,ac,J];have ak:∀n∈[jP x.orders ms dim],Mid n:=fun n hn=>by rw[Xaq.1 hn];unfold Mid;omega
 have aj:∀n∈[pS x.types dim],Mid n:=fun n hn=>by rw[Xaq.1 hn];unfold Mid;omega
 refine PC.use (Vs [jP x.orders ms dim] [pS x.types dim] (by simp) (by simp) ak aj) ?_;unfold Ja;generalize Az [jP x.orders ms dim] [pS x.types dim]=T;simp only[go_sem];refine aA (fun hb=>?_) (fun hb=>?_)
 . simp only[go_sem]
   rw[if_pos (by simpa using hb)];exact .refl _
 . simp only[go_sem]
   rw[if_neg (by simpa using hb)];exact .refl _
theorem Ax{n:Nat}{set:Int}(h:vT n set=true):∃s:Nat,set=(s:Int)/\s<2^n:=by
 unfold vT at h;simp only[Xap,decide_eq_true_eq,Xaw]at h;obtain⟨s,rfl⟩:=Int.eq_ofNat_of_zero_le h.1;refine⟨s,rfl,?_⟩;have E:((2:Int)^n)=((2^n:Nat):Int):=by norm_cast
 have u:=h.2;rw[E]at u;have F:s/2^n=0:=by exact_mod_cast u
 exact(Nat.div_eq_zero_iff_lt (Nat.two_pow_pos n)).1 F
theorem aaX{s n:Nat}(h:s<2^n)(T:n<=62):∀i∈gE (s:Int),0<=i/\i<(n:Int):=by
 intro i I;unfold gE rI at I;obtain⟨j,O,rfl⟩:=List.mem_map.1 I;obtain⟨F,u⟩:=List.mem_filter.1 O;have J:=Xbi.1 F;rw[uG (by omega)]at u;refine⟨by omega,?_⟩;rcases Xar j n with M|E
 . omega
 . rw[Nat.testBit_lt_two_pow (Xbw h (Xat (by decide) E))]at u
   cases u
def U3(x:Instance)(ms:List Int)(k:Nat):Int:=(List.range k).foldl (fun n dim=>kF n (Ja x ms dim)) 1
theorem To(x:Instance)(ms:List Int)(k:Nat):U3 x ms (k+1)=kF (U3 x ms k) (Ja x ms k):=by unfold U3;rw[Xbr,List.foldl_append];rfl
def aeW(x:Instance)(set:Int):Bool:=decide (set<=0)|| !vT x.orders.length set|| !decide (set.toNat &&& MH x=set.toNat)
def Gm(x:Instance)(d:Nat)(set:Int):Int:=if aeW x set=true then 0 else if aiP x (gE set)=false then 1 else U3 x (gE set) d
theorem W8(q:Order->Bool)(l:List Order):Mp q l<2^l.length:=Ba _ _
theorem YH(x:Instance)(d:Nat)(set:Int)(h:LoadsOk x d)(ht:x.types≠[]):PC prog 94 [.agg (aG x),int set] (int (Gm x d set)):=by
 have u:=h.orders;have af:=h.dims;have ad:MH x<2^x.orders.length:=W8 _ _;have ae:2^x.orders.length<=2^62:=Xat (by decide) u;refine pcd Tryz.func94 ?_;unfold Tryz.f94;simp only[gdS];simp only[go_sem];refine⟨_,fun _=>(Kb x set u).q rfl,?_⟩;simp only[go_sem];refine⟨_,fun _=>(ahC x u).q rfl,?_⟩;simp only[go_sem];refine⟨boo (decide (set.toNat &&& MH x=set.toNat)),fun hg=>?_,?_⟩
 . simp at hg
   obtain⟨s,rfl,hs⟩:=Ax hg.2;exact(UR s (MH x) (by omega) (by omega)).q rfl
 simp only[go_sem];refine aA (fun I=>?_) (fun I=>?_)
 . simp only[go_sem]
   rw[show Gm x d set=0 from if_pos I];exact .refl _
 have e0:Gm x d set=if aiP x (gE set)=false then 1 else U3 x (gE set) d:=if_neg (by unfold aeW;rw[I];simp)
 rw[e0];obtain⟨s,rfl,hs⟩:=Ax (n:=x.orders.length) (set:=set) (by simp at I;exact I.1.2);have hm:Wn x.orders (gE (s:Int)):=aaX hs u;have ab:(gE (s:Int)).length<=63:=rQ _ _;simp only[go_sem];refine PC.use (mX s) ?_;simp only[go_sem];refine PC.use (Qe x (gE s) hm (by omega)) ?_;simp only[go_sem];obtain⟨t,r,J⟩:=List.exists_cons_of_ne_nil ht;have T:((x.types.length:Int) == 0)=false:=by rw[J];rw[beq_eq_false_iff_ne];simp;omega
 simp only[go_sem,Xaa,T];refine aA (fun I=>?_) (fun I=>?_)
 . simp only[go_sem]
   rw[if_pos (by simpa using I)];exact .refl _
 rw[if_neg (by simpa using I)];have b1:=inB (show 0<x.types.length by rw[J];simp);have ac:x.types[0]?=some t:=by rw[J];rfl
 have aa:=aF (f:=bC) ac;have hd:=(h.cap t (by rw[J];simp)).1;subst hd;simp only[go_sem,Xaa,aa];refine⟨by omega,?_⟩;refine⟨fun ρ H=>∃(k:Nat),k<=t.cap.length/\ρ 2=.rp (aG x) 0/\ρ 6=.sl ((gE s).map bJ)/\ρ 41=int (t.cap.length:Nat)/\ρ 42=int k/\ρ 5=int (U3 x (gE s) k),fun ρ _=>t.cap.length-aT (ρ 42),⟨0,Xab _,by simp only[go_sem],by simp only[go_sem],by simp only[go_sem,Xaa],(by simp only[go_sem];rfl),by simp only[go_sem];rfl⟩,?_⟩;rintro ρ H ⟨k,hk,e2,e6,E,F,Z⟩;simp only[go_sem,e2,e6,E,F,Z];refine aA (fun M=>?_) (fun O=>?_)
 . have M:=ltB M
   simp only[go_sem,e2,e6,E,F,Z];refine PC.use (Zv x (gE s) k _ h M hm ab) ?_;simp only[go_sem,e2,e6,E,F,Z,aP (show k<=4611686018427387904 by omega)];exact⟨⟨k+1,M,rfl,by rw[To]⟩,by simp only[aE];omega⟩
 . have O:=geB hk O
   subst O;simp only[go_sem,e2,e6,E,F,Z];exact .refl _
def qY(x:Instance)(d:Nat)(one:Cut):Int:=
 if one.kind=1 then(if(!vT x.orders.length one.set|| !((rR 63 one.set.toNat:Nat):Int) == 3)=true then 2 else if one.n≠1 then 27 else 0)
 else if one.kind=2 then(if(!vT x.orders.length one.set||one.set == 0)=true then 2 else if(decide (one.n<1)||decide (one.n>Gm x d one.set))=true then 27 else 0)
 else 8
theorem YR(x:Instance)(d:Nat)(u:Cut)(h:LoadsOk x d)(O:x.types≠[]):PC prog 56 [.agg (aG x),.agg (dS u)] (int (qY x d u)):=by
 have F:=h.orders;refine pcd Tryz.func56 ?_;unfold Tryz.f56;simp only[gdS];simp only[go_sem];unfold qY;refine aA (fun h1=>?_) (fun h1=>?_)
 . rw[if_pos (by simpa using h1)]
   simp only[go_sem];refine PC.use (Kb x u.set F) ?_;simp only[go_sem];refine⟨int (rR 63 u.set.toNat:Nat),fun J=>?_,?_⟩
   . simp at J
     obtain⟨s,M,_⟩:=Ax J;rw[M];exact(XL s).q rfl
   simp only[go_sem];refine aA (fun E=>?_) (fun E=>?_)
   . rw[if_pos (by exact E)]
     simp only[go_sem];exact .refl _
   rw[if_neg (by rw[show(!vT x.orders.length u.set|| !((rR 63 u.set.toNat:Nat):Int) == 3)=false from E];simp)];simp only[go_sem];refine aA (fun E=>?_) (fun E=>?_)
   . rw[if_pos (by simpa using E)]
     simp only[go_sem];exact .refl _
   . rw[if_neg (by simpa using E)]
     simp only[go_sem];exact .refl _
 rw[if_neg (by simpa using h1)];simp only[go_sem];refine aA (fun I=>?_) (fun I=>?_)
 . rw[if_pos (by simpa using I)]
   simp only[go_sem];refine PC.use (Kb x u.set F) ?_;simp only[go_sem];refine aA (fun E=>?_) (fun E=>?_)
   . rw[if_pos (by exact E)]
     simp only[go_sem];exact .refl _
   rw[if_neg (by rw[show(!vT x.orders.length u.set||u.set == 0)=false from E];simp)];simp only[go_sem];refine dJ (by rfl) (by kernel_rfl) ?_;simp only[go_sem];refine⟨_,fun _=>(YH x d u.set h O).q rfl,?_⟩;simp only[go_sem];refine aA (fun E=>?_) (fun E=>?_)
   . rw[if_pos (by exact E)]
     simp only[go_sem];exact .refl _
   . rw[if_neg (by rw[show(decide (u.n<1)||decide (u.n>Gm x d u.set))=false from E];simp)]
     simp only[go_sem];exact .refl _
 . rw[if_neg (by simpa using I)]
   simp only[go_sem];exact .refl _
def Jb(one:Cut):Int×Int:=if one.kind=1 then(1,1)else if one.kind=2 then(3,one.n)else(0,0)
theorem anR(u:Cut):PC prog 157 [.agg (dS u)] (.tup [int (Jb u).1,int (Jb u).2]):=by
 refine pcd Tryz.func157 ?_;unfold Tryz.f157;simp only[gdS];simp only[go_sem];unfold Jb;refine aA (fun h1=>?_) (fun h1=>?_)
 . rw[if_pos (by simpa using h1)]
   simp only[go_sem];exact .refl _
 rw[if_neg (by simpa using h1)];simp only[go_sem];refine aA (fun E=>?_) (fun E=>?_)
 . rw[if_pos (by simpa using E)]
   simp only[go_sem];refine dJ (by rfl) (by kernel_rfl) ?_;simp only[go_sem];exact .refl _
 . rw[if_neg (by simpa using E)]
   simp only[go_sem];exact .refl _
end Go.Proofs.YtohmomanmikphaaGreatDoor.Nu
end
section
namespace Go.Proofs.YtohmomanmikphaaGreatDoor.Nu
open Go.Aw Go.Aw.D Go.Proofs Ty Go.Nu
def sP(l:List Int):List AV:=[.sl (l.map bJ)]
end Go.Proofs.YtohmomanmikphaaGreatDoor.Nu
end
section
namespace Go.Proofs.YtohmomanmikphaaGreatDoor.Nu
open Go.Aw Go.Aw.D Go.Proofs Ty Go.Nu Go.So
structure Broken where
 cut:Cut
 by_:ByteArray
def I4(x:Broken):List AV:=[.v (.int .i64 x.cut.kind),.v (.int .i64 x.cut.set),.v (.int .i64 x.cut.n),.v (.string x.by_)]
abbrev nL(gf:Nat):AV:=.v (.func (.func gf) #[] #[])
end Go.Proofs.YtohmomanmikphaaGreatDoor.Nu
end
section
namespace Go.Proofs.YtohmomanmikphaaGreatDoor.Nu
open Go.Proofs.Tryz(prog)
open Go.Aw Go.Aw.D Go.Proofs Ty Go.Nu Go.So
abbrev TB:=Broken×Nat
def fs(L:List TB):List Broken:=L.map Prod.fst
structure CmpOk(gf:Nat)(lt:Broken->Broken->Bool)(ok:Broken->Prop):Prop where
 call:aC Tryz.prog gf=true
 cmp:∀x y,ok x->ok y->∃n:Int,decide (n<0)=lt x y/\PC Tryz.prog gf [.agg (I4 x),.agg (I4 y)] (int n)
end Go.Proofs.YtohmomanmikphaaGreatDoor.Nu
end
section
namespace Go.Proofs.YtohmomanmikphaaGreatDoor.Nu
open Go.Aw Go.Aw.D Go.Proofs Ty Go.Nu Go.So
section
variable{gf:Nat}{lt:Broken->Broken->Bool}{ok:Broken->Prop}
end
end Go.Proofs.YtohmomanmikphaaGreatDoor.Nu
end
section
namespace Go.Proofs.YtohmomanmikphaaGreatDoor.Nu
open Go.Aw Go.Aw.D Go.Proofs Ty Go.Nu Go.So
section
variable{gf:Nat}{lt:Broken->Broken->Bool}{ok:Broken->Prop}
end
end Go.Proofs.YtohmomanmikphaaGreatDoor.Nu
end
section
namespace Go.Proofs.YtohmomanmikphaaGreatDoor.Dec
open Go.Proofs.Tryz(prog)
open Go.Aw Go.Aw.D Go.Proofs Ty
theorem cH{H:aH}{k:IntKind}{a b:Int}(h:a=b):Conv H (.v (.int k a)) (.v (.int k b)):=h▸.refl _
theorem dK{H:aH}{a b:Bool}(h:a=b):Conv H (.v (.bool a)) (.v (.bool b)):=h▸.refl _
def De(x:Instance)(n:Int):Bool:=decide (n>=0)&&decide (n<(x.orders.length:Int))
theorem F1(x:Instance)(n:Int):PC prog 115 [int n,.rp (aG x) 0] (boo (De x n)):=by
 refine pcd Tryz.func115 ?_;unfold Tryz.f115;simp only[gdS];simp only[go_sem];exact .refl _
def eL(x:Instance)(d:Decision):Int:=
 if d.kind=1\/d.kind=2 then(if De x d.a&&De x d.b&&d.a != d.b then 0 else 2)
 else if d.kind=5\/d.kind=6 then(if De x d.a then 0 else 2)
 else if d.kind=3\/d.kind=4 then(if decide (d.a>=0)&&decide (d.a<(x.types.length:Int))&&decide (d.n>=0)&&decide (d.n<=10)then 0 else 2)
 else 8
theorem Kd(x:Instance)(d:Decision):PC prog 66 [.agg (aG x),.agg (aW d)] (int (eL x d)):=by
 refine pcd Tryz.func66 ?_;unfold Tryz.f66;simp only[gdS];simp only[go_sem]
 repeat' (first|(refine PC.use (F1 _ _) ?_)|(refine⟨_,fun _=>PC.q (F1 _ _) rfl,?_⟩)|(refine⟨_,PC.q (F1 _ _) rfl,?_⟩)|(refine aA (fun u=>?_) (fun u=>?_))|(simp only[go_sem]))
 all_goals (refine cH ?_;(try unfold eL);generalize De x d.a=p at *;generalize De x d.b=q at *;cases p <;> cases q <;> simp_all <;> (try omega))
def fJ:List Int->Int
 | []=>0
 | e::r=>if e != 0 then e else fJ r
theorem vV{l:List Int}{k:Nat}{e:Int}(h:∀e∈l.take k,e=0)(u:l[k]?=some e)(F:(e != 0)=true):fJ l=e:=by
 induction l generalizing k with
 | nil=>simp at u
 | cons a r ih=>
   cases k with
   | zero=>simp at u;subst u;simp only[fJ];rw[if_pos F]
   | succ k=>
     have h0:=h a (by simp);subst h0;simp only[fJ];exact ih (k:=k) (fun e E=>h e (by simp[E])) (by simpa using u)
theorem tO{l:List Int}(h:∀e∈l,e=0):fJ l=0:=by
 induction l with
 | nil=>rfl
 | cons a r ih=>have h0:=h a (by simp);subst h0;simp only[fJ];exact ih fun e u=>h e (by simp[u])
theorem tT{l:List Int}(h:fJ l=0):∀e∈l,e=0:=by
 induction l with
 | nil=>simp
 | cons a r ih=>
   simp only[fJ]at h;split at h
   . rename_i u;simp at u;exact absurd h u
   . rename_i u;simp at u;intro e E;rcases Xbn.1 E with rfl|E;exact u;exact ih h e E
def pU(x:Instance)(l:List Decision):Int:=if decide ((l.length:Int)>1024)then 4 else fJ (l.map (eL x))
theorem afL(x:Instance)(l:List Decision)(hl:l.length<=1048576):PC prog 35 [.agg (aG x),.sl (l.map aW)] (int (pU x l)):=by
 refine pcd Tryz.func35 ?_;unfold Tryz.f35;simp only[gdS];simp only[go_sem];refine aA (fun M=>?_) (fun M=>?_)
 . simp only[go_sem]
   exact cH (by unfold pU;rw[if_pos M])
 . have hc:pU x l=fJ (l.map (eL x)):=by unfold pU;rw[if_neg (by rw[M];simp)]
   rw[hc];simp only[go_sem];refine⟨fun ρ _=>∃k:Nat,k<=l.length/\ρ 2=.rp (aG x) 0/\ρ 11=.sl (l.map aW)/\ρ 12=int l.length/\ρ 13=int k/\∀e∈(l.map (eL x)).take k,e=0,fun ρ _=>l.length-aT (ρ 13),⟨0,Xab _,rfl,rfl,rfl,rfl,by simp⟩,?_⟩;rintro ρ H ⟨k,hk,O,E,u,F,hz⟩;simp only[go_sem,O,E,u,F];refine aA (fun I=>?_) (fun J=>?_)
   . have I:=bD I
     obtain⟨d,Z⟩:=aN I;have b1:=inB I;simp only[go_sem,O,E,u,F,aF Z,b1];refine aK fun j hj=>?_
     simp only[go_sem,O,E,u,F,aF Z,b1];refine aJ (aB _ _ _) (by simp[kI]) ?_;simp only[go_sem,O,E,u,F,aF Z,b1];refine PC.use (Kd x d) ?_;simp only[go_sem,O,E,u,F];refine aA (fun M=>?_) (fun M=>?_)
     . simp only[go_sem]
       exact cH (vV hz (by simp[Z]) M).symm
     . simp only[go_sem,O,E,u,F,aP (show k<=4611686018427387904 by omega)]
       refine⟨⟨k+1,I,rfl,?_⟩,by simp only[aE];omega⟩;rw[bP (x:=eL x d) (by simp[Z])];intro e T;rcases Xbe.1 T with T|T
       . exact hz e T
       . simp at T;subst T;simpa using M
   . have J:=bF hk J
     subst J;simp only[go_sem];exact cH (tO (by rw[Xan (by simp)]at hz;exact hz)).symm
theorem WF(x:Int):rY .and .i64 x 1=x%2:=by
 have h:((BitVec.ofInt 64 x &&& BitVec.ofInt 64 1).toNat:Int)=x%2:=by
   rw[BitVec.toNat_and,BitVec.toNat_ofInt,BitVec.toNat_ofInt];have:((1:Int)%((2^64:Nat):Int)).toNat=1:=by decide
   rw[this,Nat.and_one_is_mod];omega
 refine Eq.trans (congrArg IntKind.i64.wrap h) ?_;exact aR (by omega)
theorem rH{x:Int}{i:Nat}(h:i<=62):shV .shr .i64 x (i:Int)=x/2^i:=by
 show x.fdiv (2^min ((i:Int)).toNat 64)=_;have:min ((i:Int)).toNat 64=i:=by omega
 rw[this,Xcs _ (by exact Int.le_of_lt (Int.pow_pos (by decide)))]
def dT(set i:Int):Bool:=decide (i>=0)&&decide (i<=62)&&((set/2^i.toNat)%2 == 1)
theorem DM(set i:Int):PC prog 121 [int set,int i] (boo (dT set i)):=by
 refine pcd Tryz.func121 ?_;unfold Tryz.f121;simp only[gdS];simp only[go_sem];refine⟨fun h=>?_,?_⟩
 . simp at h;omega
 . refine dK ?_
   unfold dT;rw[WF];by_cases h:0<=i/\i<=62
   . obtain⟨h0,h1⟩:=h
     have e:=rH (x:=set) (i:=i.toNat) (by omega);rw[Int.toNat_of_nonneg h0]at e;rw[e]
   . have:(decide (i>=0)&&decide (i<=62))=false:=by simp;omega
     rw[this];rfl
def aaU(set i:Int):Bool:=(set/2^i.toNat)%2 == 1
def fS(d:Decision)(set:Int):Bool:=
 if d.kind=1 then dT set d.a == dT set d.b else if d.kind=2 then !dT set d.a|| !dT set d.b else if d.kind=6 then !dT set d.a else true
theorem Vq(d:Decision)(set:Int):PC prog 69 [.agg (aW d),int set] (boo (fS d set)):=by
 refine pcd Tryz.func69 ?_;unfold Tryz.f69;simp only[gdS];simp only[go_sem];refine dJ (by rfl) (by kernel_rfl) ?_
 repeat' (first|(refine PC.use (DM _ _) ?_)|(refine⟨_,fun _=>PC.q (DM _ _) rfl,?_⟩)|(refine⟨_,PC.q (DM _ _) rfl,?_⟩)|(refine aA (fun u=>?_) (fun u=>?_))|(simp only[go_sem]))
 all_goals (refine dK ?_;unfold fS;simp_all)
theorem vZ{α:Type}{p:α->Bool}{l:List α}{k:Nat}{x:α}(E:l[k]?=some x)(u:p x=false):l.all p=false:=by
 rw[List.all_eq_false];exact⟨x,Xae E,by simp[u]⟩
theorem BO{α:Type}{p:α->Bool}{l:List α}(h:∀x∈l.take l.length,p x=true):l.all p=true:=by
 rw[Xag]at h;rw[Xao];exact h
theorem qX{α:Type}{p:α->Bool}{l:List α}{k:Nat}{x:α}(F:l[k]?=some x)(E:p x=true)(h:∀x∈l.take k,p x=true):∀x∈l.take (k+1),p x=true:=by
 rw[bP F];intro y u;rcases Xbe.1 u with u|u
 . exact h y u
 . simp at u;subst u;exact E
theorem aZ{α:Type}{p:α->Prop}{l:List α}{k:Nat}{x:α}(F:l[k]?=some x)(E:p x)(h:∀x∈l.take k,p x):∀x∈l.take (k+1),p x:=by
 rw[bP F];intro y u;rcases Xbe.1 u with u|u
 . exact h y u
 . simp at u;subst u;exact E
theorem VP(l:List Decision)(c:Column)(hl:l.length<=1048576):PC prog 39 [.sl (l.map aW),.agg (aS c)] (boo (l.all fun d=>fS d c.set)):=by
 refine pcd Tryz.func39 ?_;unfold Tryz.f39;simp only[gdS];simp only[go_sem];refine⟨fun ρ _=>∃k:Nat,k<=l.length/\ρ 3=.rp (aS c) 0/\ρ 7=.sl (l.map aW)/\ρ 8=int l.length/\ρ 9=int k/\∀d∈l.take k,fS d c.set=true,fun ρ _=>l.length-aT (ρ 9),⟨0,Xab _,rfl,rfl,rfl,rfl,by simp⟩,?_⟩;rintro ρ H ⟨k,hk,J,I,F,M,hz⟩;simp only[go_sem,J,I,F,M];refine aA (fun u=>?_) (fun E=>?_)
 . have u:=bD u
   obtain⟨d,O⟩:=aN u;have T:=inB u;simp only[go_sem,J,I,F,M,aF O,T];refine aK fun j hj=>?_
   simp only[go_sem,J,I,F,M,aF O,T];refine aJ (aB _ _ _) (by simp[kI]) ?_;simp only[go_sem,J,I,F,M,aF O,T];refine PC.use (Vq d _) ?_;simp only[go_sem,J,I,F,M];refine aA (fun Z=>?_) (fun Z=>?_)
   . simp only[go_sem]
     exact dK (vZ O (by simpa using Z)).symm
   . simp only[go_sem,J,I,F,M,aP (show k<=4611686018427387904 by omega)]
     exact⟨⟨k+1,u,rfl,qX O (by simpa using Z) hz⟩,by simp only[aE];omega⟩
 . have E:=bF hk E
   subst E;simp only[go_sem];exact dK (BO hz).symm
end Go.Proofs.YtohmomanmikphaaGreatDoor.Dec
end
section
namespace Go.Aw.D
open Go.Aw Go.RowKit Go.Proofs Go.Proofs.YtohmomanmikphaaGreatDoor Go.WideShapes Go.ChangeShapes
def Jq:List (String×DataW Unit):=[("math/bits.deBruijn32tab",Go.Proofs.YtohmomanmikphaaGreatDoor.Rows.laid_math_bits_deBruijn32tab),("math/bits.deBruijn64tab",Go.Proofs.YtohmomanmikphaaGreatDoor.Rows.laid_math_bits_deBruijn64tab),("internal/strconv.uint64pow10",Go.Proofs.YtohmomanmikphaaGreatDoor.Rows.laid_internal_strconv_uint64pow10)]
theorem Xn:(Go.Proofs.YtohmomanmikphaaGreatDoor.Rows.laid_math_bits_deBruijn64tab:DataW Unit)=Lib.tabData .u8 (Lib.deBruijn64tab.map fun z:Nat=>(z:Int)):=by kernel_rfl
theorem XH:(Go.Proofs.YtohmomanmikphaaGreatDoor.Rows.laid_internal_strconv_uint64pow10:DataW Unit)=Lib.tabData .u64 Lib.pow10Tab:=by kernel_rfl
theorem Uq{W:World}(h:laidMetH Tryz.prog Jq W):KD W:=by
 have h0:laidMet Tryz.prog Jq W:=(Go.MakeChecks.laidMetH_plain Tryz.prog Jq W (by kernel_rfl))▸h;have h1:=laidMet.tail h0;have u:=laidMet.tail h1;rw[Xn]at h1;rw[XH]at u;have b:=Lib.tabIs_of_head (g:=3) (by kernel_rfl) (by kernel_rfl) (t:=394) (e:=5) (n:=64) Tryz.underlying394 Tryz.underlying5 (by kernel_rfl) (by kernel_rfl) h1;have p:=Lib.tabIs_of_head (g:=1) (by kernel_rfl) (by kernel_rfl) (t:=373) (e:=348) (n:=20) Tryz.underlying373 Tryz.underlying348 (by kernel_rfl) (by kernel_rfl) u;unfold Lib.TabIs World.var? at b p;rw[show Tryz.prog.globalNamed "math/bits.deBruijn64tab" = some 3 by kernel_rfl]at b;rw[show Tryz.prog.globalNamed "internal/strconv.uint64pow10" = some 1 by kernel_rfl]at p;intro t E;simp only[UT,List.mem_cons,List.not_mem_nil,or_false]at E;rcases E with rfl|rfl
 . exact p
 . have:Pt=((Lib.deBruijn64tab.map fun z:Nat=>(z:Int)).map fun z=>Value.int .u8 z).toArray:=by simp[Pt]
   rw[this];exact b
end Go.Aw.D
end
section
namespace Go.Proofs.YtohmomanmikphaaGreatDoor.pricingLeast
open Go.Proofs.Tryz(prog)
open Go.Aw Go.Aw.D Go.Proofs Go.RowKit Go.ChangeShapes Go.WideShapes Go.ChangeAt
def Ra:Prop:=∀(x0:Ask3),afU 1048576 x0->PC prog 6 [.agg (gY x0)] (.v (.bool true))
theorem own:ownKnob prog.godebug=none:=by kernel_rfl
theorem laid:laidOutB prog=true:=by kernel_rfl
theorem W6:prog.readableRec 35=true/\35<prog.types.size:=⟨by kernel_rfl,by decide +kernel⟩
theorem YI(Z:Ra)(H:Type)(enc:TypeId×Value->H)(W:World)(F:Nat)(args:Array Value)(ds gs:List (DataW H))(before:List MemPlace)
   (I:∀(j:Nat) t v,Tryz.f6.params[j]?=some t->args[j]?=some v->Value.okWide prog W .any F t v)
   (O:DataW.Whole enc prog Tryz.f6.params.toList Rows.pricingLeastSpec.vars false W args.toList ds gs before) (T:Rows.uptoSmall H (ds++gs)=true) (u:KD W):
   Calls prog 6 args W fun e W'=>∃v,e=.returned v/\Rows.pricingLeastSpec.post enc prog Tryz.f6 false true false false W args v W':=by
 have J:=O;obtain⟨p,q,E,hV,rfl,aa,ab⟩:=O;have hA:DataW.TrodAll enc prog W 0 (fun _=>true) true [35] args.toList ds p:=E;obtain⟨M,d0,rfl,rfl,h0⟩:=trodAll_one hA;obtain⟨rfl,rfl⟩:=trodVars_none hV;clear E;simp only[List.append_nil]at J T;have hb:Rows.uptoBulkAll [d0]<=1048576:=of_decide_eq_true T;simp only[Rows.uptoBulkAll]at hb;obtain⟨x0,r0,b0⟩:=Pb Tryz.underlying35 aeI (I 0 35 M rfl rfl) h0;refine(Na (vals:=[M]) (Z x0 (b0 _ (by simp only[BK];omega))) u (by simp only[bG];exact⟨_,_,rfl,r0,rfl⟩)).mono fun e W' ⟨he,hg⟩=>?_
 subst he;exact⟨_,rfl,UO laid (by
   intro t u;have u:t∈[35]:=u;simp only[List.mem_cons,List.not_mem_nil,or_false]at u;rcases u with rfl
   . exact W6
   ) rfl Tryz.underlying4 rfl (gs:=[]) (by simpa using J) rfl rfl rfl hg⟩
def cellsOf:DataW Unit->Array Value
 | .agg l=>(l.map fun d=>match d with| .lit (.int k n)=>Value.int k n|_=>undef).toArray
 | _=>#[]
noncomputable def Ct(os:Os):World:=
 let w0:=World.holding prog os ⟨#[],#[],[]⟩
 let put (h:Array Obj) (g:Nat) (cs:Array Value):Array Obj:=h.modify g fun
   | .cells _ t frozen=>.cells cs t frozen
   | o=>o
 let h1:=put w0.heap 2 (cellsOf Rows.laid_math_bits_deBruijn32tab)
 let h2:=put h1 3 (cellsOf Rows.laid_math_bits_deBruijn64tab)
 let h3:=put h2 1 (cellsOf Rows.laid_internal_strconv_uint64pow10)
 { w0 with heap:=h3 }
theorem X4(os:Os):laidMet prog Rows.pricingLeastUptoRow.laid ((Ct os).forCall (fun _ _=>0) ⟨#[],#[.agg #[.slice none 0 0,.slice none 0 0,.slice none 0 0,.slice none 0 0,.slice none 0 0,.slice none 0 0,.slice none 0 0,.slice none 0 0,.slice none 0 0]],[]⟩).memory:=
 laidMet_of_run' 8 (by kernel_rfl) (by kernel_rfl)
theorem anZ(os:Os){H:Type}(enc:TypeId×Value->H):∃places,DataW.whole enc prog ((Ct os).forCall (fun _ _=>0) ⟨#[],#[.agg #[.slice none 0 0,.slice none 0 0,.slice none 0 0,.slice none 0 0,.slice none 0 0,.slice none 0 0,.slice none 0 0,.slice none 0 0,.slice none 0 0]],[]⟩).memory Tryz.f6.params.toList Rows.pricingLeastSpec.vars false (#[.agg #[.slice none 0 0,.slice none 0 0,.slice none 0 0,.slice none 0 0,.slice none 0 0,.slice none 0 0,.slice none 0 0,.slice none 0 0,.slice none 0 0]]:Array Value).toList 8=some ([.agg [.agg [.agg [.nil,.nil],.nil,.nil,.nil,.nil],.nil,.nil,.nil]],[],places):=
 ⟨[],by kernel_rfl⟩
theorem agT(O:Ra)(os:Os)(u:os.Started)(H:Type)(enc:TypeId×Value->H)(F:Stop.Interp):
   ReturnsInHanded {} Tryz.checked os 6 .any ((Rows.OpenSpec.upto Rows.pricingLeastSpec).preRow enc prog Tryz.f6 Rows.pricingLeastUptoRow.domain false Rows.pricingLeastUptoRow.laid) (((Rows.OpenSpec.upto Rows.pricingLeastSpec).at F).post enc prog Tryz.f6 false true false false):=by
 obtain⟨places,Z⟩:=anZ os enc;refine returnsInHanded_of_row (C:=Tryz.checked) (s:=Rows.OpenSpec.upto Rows.pricingLeastSpec) own u (by kernel_rfl) Tryz.func6
   (witness_row_atRef (enc:=enc) (C:=Tryz.checked) false (Ct os) #[.agg #[.slice none 0 0,.slice none 0 0,.slice none 0 0,.slice none 0 0,.slice none 0 0,.slice none 0 0,.slice none 0 0,.slice none 0 0,.slice none 0 0]] rfl (by kernel_rfl) (by kernel_rfl) (by kernel_rfl)
     (OpenSpec.preRow_of_cond 8 Z (by kernel_rfl) (fun k M=>by cases M;kernel_rfl) (by kernel_rfl) (X4 os))) ?_
 intro W J args ds gs before I T _ M _ E _ _;exact YI O H enc W J args ds gs before I T (M _ rfl) (Uq E)
theorem ajF{a b:Bool}(h1:a=true)(u:b=true):(a&&b)=true:=by rw[h1,u];rfl
set_option maxHeartbeats 4000000 in
theorem ajD:joinedFacts prog 6 Tryz.f6 (Rows.OpenSpec.upto Rows.pricingLeastSpec).bare Rows.pricingLeastUptoRow=true:=by
  unfold joinedFacts
  repeat' (first|with_reducible refine ajF ?_ ?_|(as_aux_lemma=>kernel_rfl))
set_option maxHeartbeats 4000000 in
theorem over (E:Ra):Rows.PricingLeastUptoSaid:=
  OpenClaim.holds_of_cond 6 Tryz.f6 rfl rfl rfl rfl rfl rfl rfl ⟨rfl,rfl,rfl,rfl,rfl⟩ rfl rfl rfl rfl rfl (by as_aux_lemma=>kernel_rfl) Tryz.func6 ajD
    (of_decide_eq_true (by as_aux_lemma=>kernel_rfl)) (by unfold Func.isWrapper;first|(rw[if_pos (by decide +kernel)];kernel_rfl)|(rw[if_neg (by decide +kernel)];exact⟨rfl,rfl⟩))
    (fun os u H enc _ F=>by rw[OpenClaim.pre_eq_preRow];exact agT E os u H enc F)
set_option maxHeartbeats 4000000 in
theorem card (I:Ra):Rows.PricingLeastUptoCardSaid:=
  Claim7.holds_tied_plain_at .later [] _ _ _ _ (over I) (fun _ h=>by cases h) (by as_aux_lemma=>kernel_rfl) (fun _ h=>by cases h) pricingLeastUpto_row_tie rfl ⟨rfl,rfl⟩ (by as_aux_lemma=>kernel_rfl) rfl
    (fun f fn J u=>by
      obtain rfl:f=6:=Option.some.inj ((show prog.funcNamed "lorry/lorrylaw33.PricingLeast" = some 6 by as_aux_lemma=>kernel_rfl).symm.trans J) |>.symm
      obtain rfl:fn=Tryz.f6:=(Option.some.inj (Tryz.func6.symm.trans u)).symm
      refine⟨by as_aux_lemma=>kernel_rfl,fun j t E=>?_⟩
      have E:(#[35]:Array TypeId)[j]?=some t:=E
      have F:=Array.mem_of_getElem? E
      simp only[Array.mem_def,List.mem_cons,List.not_mem_nil,or_false,or_self]at F
      subst F
      exact(show prog.wantsStandIn 35=false by as_aux_lemma=>kernel_rfl)) (by as_aux_lemma=>kernel_rfl)
end Go.Proofs.YtohmomanmikphaaGreatDoor.pricingLeast
end
